/- RaceDetector returns true for every list of events, and the list reads behind the call as it read before; no condition. -/
import Derived.Test.YtamciedmojpjaaaGb
import Derived.KernelRfl
import Derived.Test.YtamciedmojpjaaaGl
import Derived.Test.YtamciedmojpjaaaGm
namespace Go.Fx.Try
set_option maxRecDepth 100000
open Go Go.Fx
/-! 3 candling.candlinglaw30.RaceDetector -/
noncomputable def c3 : Code := match Go.Proofs.Try.f3.body with
  | some c => c
  | none => .skip
noncomputable def rs3 : List ResultVar := Go.Proofs.Try.f3.results.toList
abbrev f3_kb (K : Value → World → Prop) : Exit → Env → World → Prop := bodyK P rs3 K
def f3 (s0a : Option Addr) (s0l : Nat) (s0c : Nat) (w : World) (K : Value → World → Prop) : Prop := CS P c3 none [2] [2] (f3_kb K) (env0 53 [(Value.slice s0a s0l s0c)]) w
abbrev f3_k0 (K : Value → World → Prop) : Exit → Env → World → Prop := kseq P (codeAt c3 [0]) (codeAt c3 [1]) none [2] [2] (f3_kb K)
abbrev f3_k1 (K : Value → World → Prop) : Exit → Env → World → Prop := kseq P (codeAt c3 [1, 0]) (codeAt c3 [1, 1]) none [2] [2] (f3_kb K)
abbrev f3_k2 (K : Value → World → Prop) : Exit → Env → World → Prop := kseq P (codeAt c3 [1, 1, 0]) (codeAt c3 [1, 1, 1]) none [2] [2] (f3_kb K)
abbrev f3_k3 (K : Value → World → Prop) : Exit → Env → World → Prop := kseq P (codeAt c3 [1, 1, 0, 0]) (codeAt c3 [1, 1, 0, 1]) none [3, 0] [2] (f3_k2 K)
def f3_s0 (b5 : Bool) (b6 : Bool) (s7a : Option Addr) (s7l : Nat) (s7c : Nat) (w : World) (K : Value → World → Prop) : Prop := Join (fun e w => CS P (codeAt c3 [1, 1, 0, 1]) none [3, 0] [2] (f3_k2 K) e w) (Env.mk 53 [(16, (Value.bool b5)), (3, (Value.bool b6)), (0, (Value.slice s7a s7l s7c))] []) w
abbrev f3_k4 (K : Value → World → Prop) : Exit → Env → World → Prop := kseq P (codeAt c3 [1, 1, 0, 1, 0, 0]) (codeAt c3 [1, 1, 0, 1, 0, 1]) none [3, 0] [2] (f3_k2 K)
def f3_s1 (b8 : Bool) (s9a : Option Addr) (s9l : Nat) (s9c : Nat) (w : World) (K : Value → World → Prop) : Prop := Join (fun e w => CS P (codeAt c3 [1, 1, 1]) none [2] [2] (f3_kb K) e w) (Env.mk 53 [(3, (Value.bool b8)), (0, (Value.slice s9a s9l s9c))] []) w
abbrev f3_k5 (K : Value → World → Prop) : Exit → Env → World → Prop := kseq P (codeAt c3 [1, 1, 1, 0]) (codeAt c3 [1, 1, 1, 1]) none [2] [2] (f3_kb K)
abbrev f3_k6 (K : Value → World → Prop) : Exit → Env → World → Prop := kseq P (codeAt c3 [1, 1, 1, 1, 0]) (codeAt c3 [1, 1, 1, 1, 1]) none [2] [2] (f3_kb K)
abbrev f3_k7 (K : Value → World → Prop) : Exit → Env → World → Prop := kseq P (codeAt c3 [1, 1, 1, 1, 1, 0]) (codeAt c3 [1, 1, 1, 1, 1, 1]) none [2] [2] (f3_kb K)
abbrev f3_k8 (K : Value → World → Prop) : Exit → Env → World → Prop := kseq P (codeAt c3 [1, 1, 1, 1, 1, 0, 0]) (codeAt c3 [1, 1, 1, 1, 1, 0, 1]) none [3, 6, 4, 5] [2] (f3_k7 K)
abbrev f3_k9 (K : Value → World → Prop) : Exit → Env → World → Prop := kseq P (codeAt c3 [1, 1, 1, 1, 1, 0, 1, 0, 0]) (codeAt c3 [1, 1, 1, 1, 1, 0, 1, 0, 1]) none [3, 6, 4, 5] [2] (f3_k7 K)
def f3_s2 (b19 : Bool) (w : World) (K : Value → World → Prop) : Prop := Join (fun e w => CS P (codeAt c3 [1, 1, 1, 1, 1, 0, 1, 0, 1]) none [3, 6, 4, 5] [2] (f3_k7 K) e w) (Env.mk 53 [(2, (Value.bool b19))] []) w
theorem f3_s2_eq (b19 : Bool) (w : World) (K : Value → World → Prop) : f3_s2 b19 w K = (K (Value.bool b19) w) := by kernel_rfl
def f3_s3 (b21 : Bool) (s22a : Option Addr) (s22l : Nat) (s22c : Nat) (s23a : Option Addr) (s23l : Nat) (s23c : Nat) (b24 : Bool) (w : World) (K : Value → World → Prop) : Prop := Join (fun e w => CS P (codeAt c3 [1, 1, 1, 1, 1, 1]) none [2] [2] (f3_kb K) e w) (Env.mk 53 [(3, (Value.bool b21)), (6, (Value.slice s22a s22l s22c)), (4, (Value.slice s23a s23l s23c)), (5, (Value.bool b24))] []) w
abbrev f3_k10 (K : Value → World → Prop) : Exit → Env → World → Prop := kseq P (codeAt c3 [1, 1, 1, 1, 1, 1, 0]) (codeAt c3 [1, 1, 1, 1, 1, 1, 1]) none [2] [2] (f3_kb K)
def f3_s4 (b28 : Bool) (w : World) (K : Value → World → Prop) : Prop := Join (fun e w => CS P (codeAt c3 [1, 1, 1, 1, 1, 1, 1]) none [2] [2] (f3_kb K) e w) (Env.mk 53 [(2, (Value.bool b28))] []) w
theorem f3_s4_eq (b28 : Bool) (w : World) (K : Value → World → Prop) : f3_s4 b28 w K = (K (Value.bool b28) w) := by kernel_rfl
theorem f3_s3_eq (b21 : Bool) (s22a : Option Addr) (s22l : Nat) (s22c : Nat) (s23a : Option Addr) (s23l : Nat) (s23c : Nat) (b24 : Bool) (w : World) (K : Value → World → Prop) : f3_s3 b21 s22a s22l s22c s23a s23l s23c b24 w K = (BIf b24 (CallL P 17 [(Value.slice s23a s23l s23c), (Value.slice s22a s22l s22c)] w (fun r25 w26 => ∃ b27 : Bool, r25 = (Value.bool b27) ∧ BIf b27 (f3_s4 b21 w26 K) (f3_s4 false w26 K))) (f3_s4 false w K)) := by kernel_rfl
theorem f3_s1_eq (b8 : Bool) (s9a : Option Addr) (s9l : Nat) (s9c : Nat) (w : World) (K : Value → World → Prop) : f3_s1 b8 s9a s9l s9c w K = (CallL P 15 [(Value.slice s9a s9l s9c)] w (fun r10 w11 => ∃ (s12a : Option Addr) (s12l s12c : Nat), ∃ b13 : Bool, r10 = (Value.tuple [(Value.slice s12a s12l s12c), (Value.bool b13)].toArray) ∧ CallL P 16 [(Value.slice s9a s9l s9c)] w11 (fun r14 w15 => ∃ (s16a : Option Addr) (s16l s16c : Nat), ∃ x17 : Int, r14 = (Value.tuple [(Value.slice s16a s16l s16c), (Value.int .i64 x17)].toArray) ∧ BIf ((x17 : Int) != 0) (BIf ((x17 : Int) == 2) (∃ x18 : Int, (∀ wq, Ext w15 wq → (Builtin.len_ #[25] 3 [(Value.slice s16a s16l s16c)].toArray).run P wq = .ok (Value.int .i64 x18) wq) ∧ BIf ((x18 : Int) == 0) (f3_s2 b8 w15 K) (f3_s2 false w15 K)) (BIf (!b13) (∃ x20 : Int, (∀ wq, Ext w15 wq → (Builtin.len_ #[25] 3 [(Value.slice s16a s16l s16c)].toArray).run P wq = .ok (Value.int .i64 x20) wq) ∧ BIf ((x20 : Int) == 0) (f3_s2 b8 w15 K) (f3_s2 false w15 K)) (f3_s2 false w15 K))) (f3_s3 b8 s16a s16l s16c s12a s12l s12c b13 w15 K)))) := by kernel_rfl
theorem f3_s0_eq (b5 : Bool) (b6 : Bool) (s7a : Option Addr) (s7l : Nat) (s7c : Nat) (w : World) (K : Value → World → Prop) : f3_s0 b5 b6 s7a s7l s7c w K = (BIf b5 (K (Value.bool b6) w) (f3_s1 b6 s7a s7l s7c w K)) := by kernel_rfl
theorem f3_eq (s0a : Option Addr) (s0l : Nat) (s0c : Nat) (w : World) (K : Value → World → Prop) : f3 s0a s0l s0c w K = (CallL P 13 [] w (fun r1 w2 => ∃ b3 : Bool, r1 = (Value.bool b3) ∧ ∃ x4 : Int, (∀ wq, Ext w2 wq → (Builtin.len_ #[22] 3 [(Value.slice s0a s0l s0c)].toArray).run P wq = .ok (Value.int .i64 x4) wq) ∧ BIf (decide ((x4 : Int) > 400)) (f3_s0 true b3 s0a s0l s0c w2 K) (CallL P 14 [(Value.slice s0a s0l s0c)] w2 (fun r29 w30 => ∃ x31 : Int, r29 = (Value.int .i64 x31) ∧ f3_s0 (decide ((x31 : Int) > 4000)) b3 s0a s0l s0c w30 K)))) := by kernel_rfl
theorem c3_eq : Go.Proofs.Try.f3.body = some c3 := by kernel_rfl
theorem f3_un (s0a : Option Addr) (s0l : Nat) (s0c : Nat) (w : World) (K : Value → World → Prop) : f3 s0a s0l s0c w K = CS P c3 none (resT Go.Proofs.Try.f3.results.toList) (resT Go.Proofs.Try.f3.results.toList) (bodyK P Go.Proofs.Try.f3.results.toList K) (env0 Go.Proofs.Try.f3.ntmps [(Value.slice s0a s0l s0c)]) w := by kernel_rfl
theorem f3_ok (s0a : Option Addr) (s0l : Nat) (s0c : Nat) (w : World) (K : Value → World → Prop) (h : f3 s0a s0l s0c w K) : CallL P 3 [(Value.slice s0a s0l s0c)] w K := calls_of_CS Go.Proofs.Try.func3 c3_eq (Eq.mp (f3_un s0a s0l s0c w K) h)
end Go.Fx.Try
namespace Go.Fx.Try
open Go Go.Fx Go.Fx.Mo
open Go.Proofs
variable {w0 w : World} {H : List (Nat × Obj)} {K : Value → World → Prop}
set_option maxRecDepth 20000
theorem detector_ok {l : List Ev} {ov : Value} (h : St w0 w H) (hrow : ∀ w', St w0 w' H → Row w' 6 ov l.length (evsCs l)) (hK : ∀ w', St w0 w' H → K (.bool true) w') : CallL P 3 [ov] w K := by
  obtain ⟨sa, sc, hov⟩ := (hrow w h).form
  rw [hov]
  refine f3_ok _ _ _ _ _ ?_
  rw [f3_eq, ← hov]
  refine sane_ok h fun w1 h1 => ⟨true, rfl, l.length, fun wq _ => by rw [hov]; exact run_len_22 wq, ?_⟩
  have s0 : ∀ b w1, St w0 w1 H → (b = false → l.length ≤ 400) → f3_s0 b true sa l.length sc w1 K := by
    intro b w1 h1 hb
    rw [f3_s0_eq, BIf_iff]
    refine ⟨fun _ => hK w1 h1, fun hbf => ?_⟩
    have hl := hb hbf
    have hrf := races_fed (l := l) (by omega)
    rw [f3_s1_eq, ← hov]
    have rest : ∀ w2 a n c b13 (Lo : List (Nat × Obj)), St w0 w2 (Lo ++ H) → New w0 Lo → ((Mo.fed l = none ∧ b13 = false) ∨ ∃ out, Mo.fed l = some out ∧ b13 = true ∧ SlO 11 47 (.slice a n c) out.length (racesCs out) Lo ∧ n = out.length ∧ out.length < 2000000000) →
        CallL P 16 [ov] w2 (fun r14 w15 => ∃ (s16a : Option Addr) (s16l s16c : Nat), ∃ x17 : Int, r14 = (Value.tuple [(Value.slice s16a s16l s16c), (Value.int .i64 x17)].toArray) ∧ BIf ((x17 : Int) != 0) (BIf ((x17 : Int) == 2) (∃ x18 : Int, (∀ wq, Ext w15 wq → (Builtin.len_ #[25] 3 [(Value.slice s16a s16l s16c)].toArray).run P wq = .ok (Value.int .i64 x18) wq) ∧ BIf ((x18 : Int) == 0) (f3_s2 true w15 K) (f3_s2 false w15 K)) (BIf (!b13) (∃ x20 : Int, (∀ wq, Ext w15 wq → (Builtin.len_ #[25] 3 [(Value.slice s16a s16l s16c)].toArray).run P wq = .ok (Value.int .i64 x20) wq) ∧ BIf ((x20 : Int) == 0) (f3_s2 true w15 K) (f3_s2 false w15 K)) (f3_s2 false w15 K))) (f3_s3 true s16a s16l s16c a n c b13 w15 K)) := by
      intro w2 a n c b13 Lo h2 hN hfed
      refine races_ok sort48 h2 (fun w' h' => hrow w' (h'.sub hN)) (by omega) (fun x hx hx0 w3 h3 => ⟨none, 0, 0, x, rfl, ?_⟩) (fun out hx hlen w3 rv Lo2 hS hN2 h3 => ?_)
      · rw [show (x != 0) = true by simpa using hx0, BIf_true]
        have fin : f3_s2 true w3 K := by rw [f3_s2_eq]; exact hK w3 (h3.sub hN)
        rw [BIf_iff]
        refine ⟨fun _ => ⟨0, fun wq _ => run_len_25 wq, by rw [show ((0 : Int) == 0) = true by decide, BIf_true]; exact fin⟩, fun _ => ?_⟩
        rw [hx] at hrf
        rcases hfed with ⟨_, rfl⟩ | ⟨out, hf, _⟩
        · rw [Bool.not_false, BIf_true]
          exact ⟨0, fun wq _ => run_len_25 wq, by rw [show ((0 : Int) == 0) = true by decide, BIf_true]; exact fin⟩
        · rw [hf] at hrf; cases hrf
      · rw [hx] at hrf
        rcases hfed with ⟨hf, _⟩ | ⟨out', hf, rfl, hS1, rfl, hl1⟩
        · rw [hf] at hrf; cases hrf
        · rw [hf] at hrf
          cases hrf
          obtain ⟨ra, rc, hrv⟩ := hS.form
          subst hrv
          refine ⟨ra, _, rc, 0, rfl, ?_⟩
          rw [show ((0 : Int) != 0) = false by decide, BIf_false, f3_s3_eq, BIf_true]
          refine same_ok (l := out) h3 (fun w' h' => hS1.row fun y hy => h'.has _ _ (by simp [hy])) (fun w' h' => hS.row fun y hy => h'.has _ _ (by simp [hy])) (by omega) fun w4 h4 => ⟨true, rfl, ?_⟩
          rw [BIf_true, f3_s4_eq]
          exact hK w4 ((h4.sub hN2).sub hN)
    refine fed_ok sort46 h1 hrow (by omega) (fun hf w2 h2 => ⟨none, 0, 0, false, rfl, ?_⟩) (fun out hf hlen w2 rv Lo hS hN h2 => ?_)
    · exact rest w2 none 0 0 false [] h2 (New.nil w0) (.inl ⟨hf, rfl⟩)
    · obtain ⟨ra, rc, hrv⟩ := hS.form
      subst hrv
      exact ⟨ra, _, rc, true, rfl, rest w2 ra _ rc true Lo h2 hN (.inr ⟨out, hf, rfl, hS, rfl, hlen⟩)⟩
  rw [BIf_iff]
  refine ⟨fun _ => s0 true w1 h1 (by intro hh; cases hh), fun hle => ?_⟩
  have hle : l.length ≤ 400 := by simp at hle; omega
  exact bytesOf_ok h1 hrow (by omega) fun x w2 h2 => ⟨x, rfl, s0 _ w2 h2 fun _ => hle⟩
end Go.Fx.Try
namespace Go.Proofs.Ytamciedmojpjaaa
open Go Go.Fx Go.Fx.Try Go.Fx.Mo
open Go.ChangeShapes Go.WideShapes Go.ChangeAt Go.RowKit
set_option maxRecDepth 100000
theorem raceDetector_lifted (os : Os) (started : os.Started) (H : Type) (enc : TypeId × Value → H) :
    ReturnsInHanded {} Try.checked os 3 .any (Rows.raceDetectorSpec.pre6 enc Try.prog Try.f3 Rows.raceDetectorRow.domain false) (Rows.raceDetectorSpec.post enc Try.prog Try.f3 false true false false) := by
  refine returnsInHanded_of_change (C := Try.checked) own started (by kernel_rfl) Try.func3
    (ChangeSpec.witness6 (enc := enc) (C := Try.checked) false ⟨#[], #[.slice none 0 0], []⟩ 8 (by kernel_rfl) (by kernel_rfl) (by kernel_rfl) (by kernel_rfl)) ?_
  intro W base args ds gs before hval0 hW _ _
  have hval : ∀ (j : Nat) t v, Try.f3.params[j]? = some t → args[j]? = some v → Value.okWide Try.prog W .any base t v := hval0
  have hW' := hW
  obtain ⟨p, q, hA0, hV, rfl, hfz, hnd⟩ := hW
  have hA : DataW.TrodAll enc Try.prog W 0 (fun _ => true) true Try.f3.params.toList args.toList ds p := hA0
  rw [Try.params3] at hA hval
  obtain ⟨v0, d0, rfl, rfl, h0⟩ := trodAll_one hA
  obtain ⟨rfl, rfl⟩ := trodVars_none hV
  obtain ⟨l, hrow, _⟩ := open_events (okWide_slice Try.underlying22 (hval 0 22 v0 rfl rfl)) h0
  have hcall := detector_ok (w0 := W) (H := []) (K := fun v w' => v = .bool true ∧ Below W.heap.size W w') (St.refl W) (fun w' h' => Row.old hrow (New.nil W) h') (fun w' h' => ⟨rfl, h'.below⟩)
  refine Calls.mono hcall fun e W' he => ?_
  unfold retK at he
  split at he
  · obtain ⟨rfl, hB⟩ := he
    have hlt : ∀ x ∈ p, x.block < W.heap.size := fun x hx => hW'.lt x (by simp [hx])
    have h0' := Below.trod laidOut readable22 types22 h0 hB hlt
    exact ⟨_, rfl, _, _, _, [], p, [], hW', trodAll_mk1 (shut_bool Try.underlying4 _), trodAll_mk1 h0', rfl, hB.frame _, fun h => by cases h⟩
  · exact he.elim
theorem raceDetector_holds : Rows.RaceDetectorSaid :=
  OpenClaim.holds_of_wide 3 Try.f3 rfl rfl rfl rfl rfl rfl rfl ⟨rfl, rfl, rfl, rfl, rfl⟩ rfl rfl rfl rfl rfl (by kernel_rfl) Try.func3 (by kernel_rfl)
    (of_decide_eq_true (by kernel_rfl)) (by unfold Func.isWrapper; first | (rw [if_pos (by decide +kernel)]; kernel_rfl) | (rw [if_neg (by decide +kernel)]; exact ⟨rfl, rfl⟩))
    (fun os started H enc _ => raceDetector_lifted os started H enc)
#print axioms raceDetector_holds
end Go.Proofs.Ytamciedmojpjaaa
