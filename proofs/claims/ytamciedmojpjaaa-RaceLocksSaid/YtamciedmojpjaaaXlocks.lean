/- RaceLocks returns true for every list of events, byte and mutex, and they read behind the call as they read before. No condition. -/
import Derived.Test.YtamciedmojpjaaaGb
import Derived.KernelRfl
import Derived.Test.YtamciedmojpjaaaGl
import Derived.Test.YtamciedmojpjaaaGg
import Derived.Test.YtamciedmojpjaaaGn
import Derived.Test.YtamciedmojpjaaaGm
namespace Go.Fx
open Go
theorem CS_seq' {P : Program} {c a b : Code} {r : Option Nat} {Lo X L : List Nat} {K : Exit → Env → World → Prop} {e : Env} {w : World} (h : c = .seq a b) (hl : liveIn b Lo X = L) : CS P c r Lo X K e w = CS P a r L X (kseq P a b r Lo X K) e w := by subst h; subst hl; rfl
theorem CS_block' {P : Program} {c b : Code} {id : Nat} {r : Option Nat} {Lo X X' : List Nat} {K : Exit → Env → World → Prop} {e : Env} {w : World} (h : c = .block id b) (hl : union X Lo = X') : CS P c r Lo X K e w = CS P b r Lo X' (kblock id K) e w := by subst h; subst hl; rfl
theorem CS_loop' {P : Program} {c b : Code} {r : Option Nat} {Lo X X' H : List Nat} {K : Exit → Env → World → Prop} {e : Env} {w : World} (h : c = .loop b) (hx : union X Lo = X') (hl : liveIn b [] X' = H) : CS P c r Lo X K e w = LoopE (fun Y e w => Join (fun e w => CS P b r H X' (kloop H Y K) e w) e w) (e.restrict H) w := by subst h; subst hx; subst hl; rfl
theorem CS_scope' {P : Program} {c b : Code} {r : Option Nat} {Lo X : List Nat} {K : Exit → Env → World → Prop} {e : Env} {w : World} (h : c = .scope b) : CS P c r Lo X K e w = CS P b r Lo X (kscope K) e w := by subst h; rfl
end Go.Fx
namespace Go.Fx.Try
set_option maxRecDepth 100000
open Go Go.Fx
/-! 18 candling.candlinglaw30.touches -/
noncomputable def c18 : Code := match Go.Proofs.Try.f18.body with
  | some c => c
  | none => .skip
noncomputable def rs18 : List ResultVar := Go.Proofs.Try.f18.results.toList
abbrev f18_kb (K : KT) : Exit → YT := bodyK P rs18 K
def f18 (cs0 : Array Value) (x1 : Int) (w : World) (K : KT) : Prop := CS P c18 none [4, 5, 6] [4, 5, 6] (f18_kb K) (env0 33 [(Value.agg cs0), (Value.int .u32 x1)]) w
abbrev f18_k0 (K : KT) : Exit → YT := kseq P (codeAt c18 [0]) (codeAt c18 [1]) none [4, 5, 6] [4, 5, 6] (f18_kb K)
abbrev f18_k1 (K : KT) : Exit → YT := kseq P (codeAt c18 [1, 0]) (codeAt c18 [1, 1]) none [4, 5, 6] [4, 5, 6] (f18_kb K)
abbrev f18_k2 (K : KT) : Exit → YT := kseq P (codeAt c18 [1, 0, 0]) (codeAt c18 [1, 0, 1]) none [6, 5, 2, 1] [4, 5, 6] (f18_k1 K)
abbrev f18_k3 (K : KT) : Exit → YT := kblock 0 (f18_k1 K)
abbrev f18_k4 (K : KT) : Exit → YT := kseq P (codeAt c18 [1, 0, 1, 0, 0]) (codeAt c18 [1, 0, 1, 0, 1]) none [6, 5, 2, 1] [4, 5, 6, 2, 1] (f18_k3 K)
abbrev f18_k5 (K : KT) : Exit → YT := kseq P (codeAt c18 [1, 0, 1, 0, 0, 0]) (codeAt c18 [1, 0, 1, 0, 0, 1]) none [9, 6, 5, 2, 1, 8] [4, 5, 6, 2, 1] (f18_k4 K)
def f18_s0 (b5 b6 b7 : Bool) (a8 : Addr) (x9 x10 : Int) (w : World) (K : KT) : Prop := Join (fun e w => CS P (codeAt c18 [1, 0, 1, 0, 1]) none [6, 5, 2, 1] [4, 5, 6, 2, 1] (f18_k3 K) e w) (Env.mk 33 [(9, (Value.bool b5)), (6, (Value.bool b6)), (5, (Value.bool b7)), (2, (Value.pointer (some a8))), (1, (Value.int .u32 x9)), (8, (Value.int .i64 x10))] []) w
def f18_s1 (b11 b12 : Bool) (a13 : Addr) (x14 : Int) (w : World) (K : KT) : Prop := Join (fun e w => CS P (codeAt c18 [1, 1]) none [4, 5, 6] [4, 5, 6] (f18_kb K) e w) (Env.mk 33 [(6, (Value.bool b11)), (5, (Value.bool b12)), (2, (Value.pointer (some a13))), (1, (Value.int .u32 x14))] []) w
abbrev f18_k6 (K : KT) : Exit → YT := kseq P (codeAt c18 [1, 1, 0]) (codeAt c18 [1, 1, 1]) none [4, 5, 6] [4, 5, 6] (f18_kb K)
def f18_s2 (b18 b19 b20 : Bool) (w : World) (K : KT) : Prop := Join (fun e w => CS P (codeAt c18 [1, 1, 1]) none [4, 5, 6] [4, 5, 6] (f18_kb K) e w) (Env.mk 33 [(4, (Value.bool b18)), (5, (Value.bool b19)), (6, (Value.bool b20))] []) w
theorem f18_s2_eq (b18 b19 b20 : Bool) (w : World) (K : KT) : f18_s2 b18 b19 b20 w K = (K (Value.tuple [(Value.bool b18), (Value.bool b19), (Value.bool b20)].toArray) w) := by kernel_rfl
theorem f18_s1_eq (b11 b12 : Bool) (a13 : Addr) (x14 : Int) (w : World) (K : KT) : f18_s1 b11 b12 a13 x14 w K = (∃ x15 : Int, w.cell? (a13.add 5) = some (Value.int .i64 x15) ∧ BIf (decide ((x15 : Int) > 0)) (∃ x16 : Int, w.cell? (a13.add 3) = some (Value.int .u32 x16) ∧ ∃ x17 : Int, w.cell? (a13.add 5) = some (Value.int .i64 x17) ∧ f18_s2 (decide (((IntKind.wrap .u64 (IntKind.wrap .u32 ((x14 : Int) - x16))) : Int) < (IntKind.wrap .u64 x17))) b12 b11 w K) (f18_s2 false b12 b11 w K)) := by kernel_rfl
abbrev f18_k7 (K : KT) : Exit → YT := kseq P (codeAt c18 [1, 0, 1, 0, 1, 1, 0]) (codeAt c18 [1, 0, 1, 0, 1, 1, 1]) none [6, 5, 2, 1] [4, 5, 6, 2, 1] (f18_k3 K)
abbrev f18_k8 (K : KT) : Exit → YT := kseq P (codeAt c18 [1, 0, 1, 0, 1, 1, 0, 0]) (codeAt c18 [1, 0, 1, 0, 1, 1, 0, 1]) none [12, 6, 2, 1, 8] [4, 5, 6, 2, 1] (f18_k7 K)
def f18_s3 (b21 b22 : Bool) (a23 : Addr) (x24 x25 : Int) (w : World) (K : KT) : Prop := Join (fun e w => CS P (codeAt c18 [1, 0, 1, 0, 1, 1, 1]) none [6, 5, 2, 1] [4, 5, 6, 2, 1] (f18_k3 K) e w) (Env.mk 33 [(12, (Value.bool b21)), (6, (Value.bool b22)), (2, (Value.pointer (some a23))), (1, (Value.int .u32 x24)), (8, (Value.int .i64 x25))] []) w
abbrev f18_k9 (K : KT) : Exit → YT := kseq P (codeAt c18 [1, 0, 1, 0, 1, 1, 1, 1, 0]) (codeAt c18 [1, 0, 1, 0, 1, 1, 1, 1, 1]) none [6, 5, 2, 1] [4, 5, 6, 2, 1] (f18_k3 K)
abbrev f18_k10 (K : KT) : Exit → YT := kseq P (codeAt c18 [1, 0, 1, 0, 1, 1, 1, 1, 1, 1, 0]) (codeAt c18 [1, 0, 1, 0, 1, 1, 1, 1, 1, 1, 1]) none [6, 5, 2, 1] [4, 5, 6, 2, 1] (f18_k3 K)
theorem f18_s3_eq (b21 b22 : Bool) (a23 : Addr) (x24 x25 : Int) (w : World) (K : KT) : f18_s3 b21 b22 a23 x24 x25 w K = (BIf b21 (f18_s1 b22 true a23 x24 w K) (BIf ((x25 : Int) == 4) (f18_s1 true true a23 x24 w K) (K (Value.tuple [(Value.bool false), (Value.bool false), (Value.bool false)].toArray) w))) := by kernel_rfl
theorem f18_s0_eq (b5 b6 b7 : Bool) (a8 : Addr) (x9 x10 : Int) (w : World) (K : KT) : f18_s0 b5 b6 b7 a8 x9 x10 w K = (BIf b5 (f18_s1 b6 b7 a8 x9 w K) (BIf ((x10 : Int) == 3) (f18_s3 true b6 a8 x9 x10 w K) (f18_s3 ((x10 : Int) == 22) b6 a8 x9 x10 w K))) := by kernel_rfl
theorem f18_eq (cs0 : Array Value) (x1 : Int) (w : World) (K : KT) : f18 cs0 x1 w K = (NewC cs0 35 w (fun n2 w3 => ∃ x4 : Int, w3.cell? (Addr.mk n2 0 none) = some (Value.int .i64 x4) ∧ BIf ((x4 : Int) == 2) (f18_s0 true false false (Addr.mk n2 0 none) x1 x4 w3 K) (f18_s0 ((x4 : Int) == 23) false false (Addr.mk n2 0 none) x1 x4 w3 K))) := by kernel_rfl
theorem c18_eq : Go.Proofs.Try.f18.body = some c18 := by kernel_rfl
theorem f18_un (cs0 : Array Value) (x1 : Int) (w : World) (K : KT) : f18 cs0 x1 w K = CS P c18 none (resT Go.Proofs.Try.f18.results.toList) (resT Go.Proofs.Try.f18.results.toList) (bodyK P Go.Proofs.Try.f18.results.toList K) (env0 Go.Proofs.Try.f18.ntmps [(Value.agg cs0), (Value.int .u32 x1)]) w := by kernel_rfl
theorem f18_ok (cs0 : Array Value) (x1 : Int) (w : World) (K : KT) (h : f18 cs0 x1 w K) : CallL P 18 [(Value.agg cs0), (Value.int .u32 x1)] w K := calls_of_CS Go.Proofs.Try.func18 c18_eq (Eq.mp (f18_un cs0 x1 w K) h)
end Go.Fx.Try
namespace Go.Fx.Mo
def w64u' (x : Int) : Int := IntKind.wrap .u64 x
/-- Whether an event accesses a byte, stores it, and atomically. -/
def touches (e : Ev) (b : Int) : Bool × Bool × Bool := ((accesses e).2.2 && (decide (e.n > 0) && decide (w64u' (w32 (b - e.a)) < w64u' e.n)), (accesses e).1, (accesses e).2.1)
def and3 (n : Int) : Int := IntKind.wrap .i64 ((BitVec.ofInt (IntKind.bits .i64) n &&& BitVec.ofInt (IntKind.bits .i64) 3).toNat : Int)
def quiet (how : Int) (e : Ev) : Option Ev :=
  if how = 0 then (if e.th ≠ 0 then none else some (if e.kind = 11 ∨ e.kind = 13 then { e with kind := 1 } else e))
  else if how = 1 ∧ (accesses e).1 = true then some { e with kind := 2 }
  else if how ≠ 1 ∧ (accesses e).2.1 = false ∧ ((accesses e).1 = true ∨ e.kind = 2 ∨ e.kind = 23) then some { e with kind := 4, n := IntKind.wrap .i64 (1 + and3 e.n) }
  else some e
theorem accesses_2 (e : Ev) (h : e.kind = 2) : accesses e = (false, false, true) := by unfold accesses; rw [if_pos (.inl h)]
theorem accesses_4 (e : Ev) (h : e.kind = 4) : accesses e = (true, true, true) := by unfold accesses; rw [if_neg (by omega), if_neg (by omega), if_pos h]
theorem acc_conf {a b : Acc} : conflict a b = true → a.th ≠ b.th ∧ (a.st = true ∨ b.st = true) ∧ ¬(a.at' = true ∧ b.at' = true) := by
  unfold conflict; intro h; simp only [Bool.and_eq_true, bne_iff_ne, ne_eq, Bool.or_eq_true, Bool.not_eq_true', Bool.and_eq_false_iff] at h
  refine ⟨h.1.1, h.1.2, fun hh => ?_⟩
  rcases h.2 with h2 | h2 <;> simp [hh.1, hh.2] at h2
theorem quiet_races {how : Int} {l : List Ev} {x : List Race} (h : races (l.filterMap (quiet how)) = .inl x) : x = [] := by
  refine races_quiet (Q := fun a => (how = 0 → a.th = 0) ∧ (how = 1 → a.st = false) ∧ (how ≠ 0 → how ≠ 1 → a.at' = true)) (fun a b ha hb => ?_) (fun e he hacc m => ?_) h
  · by_cases hc : conflict a b = true
    · obtain ⟨h1, h2, h3⟩ := acc_conf hc
      by_cases h0 : how = 0
      · exact absurd ((ha.1 h0).trans (hb.1 h0).symm) h1
      · by_cases h1' : how = 1
        · rcases h2 with h2 | h2
          · rw [ha.2.1 h1'] at h2; cases h2
          · rw [hb.2.1 h1'] at h2; cases h2
        · exact absurd ⟨ha.2.2 h0 h1', hb.2.2 h0 h1'⟩ h3
    · simpa using hc
  · obtain ⟨o, _, hq⟩ := List.mem_filterMap.1 he
    unfold quiet at hq
    split at hq
    · rename_i h0
      split at hq
      · cases hq
      · rename_i hth
        refine ⟨fun _ => ?_, fun h => by omega, fun h => absurd h0 h⟩
        simp only [Option.some.injEq] at hq
        subst hq
        split <;> simpa using hth
    · rename_i h0
      refine ⟨fun h => absurd h h0, ?_⟩
      split at hq
      · rename_i h1
        simp only [Option.some.injEq] at hq
        subst hq
        rw [accesses_2 _ rfl]
        exact ⟨fun _ => rfl, fun _ h => absurd h1.1 h⟩
      · rename_i h1
        split at hq
        · rename_i h2
          simp only [Option.some.injEq] at hq
          subst hq
          rw [accesses_4 _ rfl]
          exact ⟨fun h => absurd h h2.1, fun _ _ => rfl⟩
        · rename_i h2
          simp only [Option.some.injEq] at hq
          subst hq
          refine ⟨fun h => ?_, fun _ h => ?_⟩
          · simpa [h] using h1
          · have hat : (accesses o).2.1 = false → (accesses o).1 = false ∧ ¬ (o.kind = 2 ∨ o.kind = 23) := fun ha => by
              refine ⟨?_, fun hk => h2 ⟨h, ha, .inr hk⟩⟩
              by_cases hs : (accesses o).1 = true
              · exact absurd ⟨h, ha, .inl hs⟩ h2
              · simpa using hs
            by_cases ha : (accesses o).2.1 = true
            · exact ha
            · obtain ⟨h3, h4⟩ := hat (by simpa using ha)
              exfalso
              unfold accesses at hacc h3
              rw [if_neg h4] at hacc h3
              split at h3
              · cases h3
              · rename_i h5
                rw [if_neg h5] at hacc
                split at h3
                · cases h3
                · rename_i h6; rw [if_neg h6] at hacc; cases hacc
theorem accesses_kind {e f : Ev} (h : e.kind = f.kind) : accesses e = accesses f := by unfold accesses; rw [h]
theorem filterMap_snoc {f : Ev → Option Ev} {l : List Ev} {i : Nat} (hi : i < l.length) : (l.take (i + 1)).filterMap f = (l.take i).filterMap f ++ (f l[i]).toList := by
  rw [List.take_add_one, List.getElem?_eq_getElem hi, List.filterMap_append]
  cases h : f l[i] <;> simp [h]
end Go.Fx.Mo
namespace Go.Fx.Try
open Go Go.Fx Go.Fx.Mo
open Go.Proofs
variable {w0 w : World} {H : List (Nat × Obj)} {K : Value → World → Prop}
set_option maxRecDepth 20000
theorem touches_ok (h : St w0 w H) (e : Ev) (b : Int) (hK : ∀ w', St w0 w' H → K (.tuple [.bool (touches e b).1, .bool (touches e b).2.1, .bool (touches e b).2.2].toArray) w') : CallL P 18 [.agg (Evcs e).toArray, .int .u32 b] w K := by
  refine f18_ok _ _ _ _ ?_
  rw [f18_eq]
  refine h.newC fun n w1 hn h1 => ?_
  have h1 : St w0 w1 ((n, Cs (Evcs e) 35) :: H) := h1
  have s1 : ∀ st at', accesses e = (st, at', true) → f18_s1 at' st (Addr.mk n 0 none) b w1 K := by
    intro st at' hacc
    have hK := hK w1 (h1.tail hn)
    rw [f18_s1_eq]
    refine ⟨e.n, by rw [add_lit']; exact h1.cell (k := 0) rfl, ?_⟩
    rw [BIf_iff]
    constructor
    · intro hp
      refine ⟨e.a, by rw [add_lit']; exact h1.cell (k := 0) rfl, e.n, by rw [add_lit']; exact h1.cell (k := 0) rfl, ?_⟩
      rw [f18_s2_eq]
      have hp : e.n > 0 := by simpa using hp
      have ht : touches e b = (decide ((IntKind.wrap .u64 (IntKind.wrap .u32 (b - e.a))) < (IntKind.wrap .u64 e.n)), st, at') := by
        unfold touches; rw [hacc]; simp only [Bool.true_and]; rw [decide_eq_true hp]; rfl
      rw [ht] at hK
      exact hK
    · intro hp
      rw [f18_s2_eq]
      have hp : ¬ e.n > 0 := by simpa using hp
      have ht : touches e b = (false, st, at') := by
        unfold touches; rw [hacc]; simp only [Bool.true_and]; rw [decide_eq_false hp]; rfl
      rw [ht] at hK
      exact hK
  refine ⟨e.kind, h1.cell (k := 0) rfl, ?_⟩
  have hno : ∀ m : Int, (e.kind == m) = false → e.kind ≠ m := fun m hm => by simpa using hm
  have hye : ∀ m : Int, (e.kind == m) = true → e.kind = m := fun m hm => by simpa using hm
  rw [BIf_iff]
  refine ⟨fun h2 => ?_, fun h2 => ?_⟩
  · rw [f18_s0_eq, BIf_true]
    exact s1 false false (accesses_2 e (hye _ h2))
  · rw [f18_s0_eq, BIf_iff]
    have h2 := hno _ h2
    refine ⟨fun h23 => s1 false false (by have := hye _ h23; unfold accesses; rw [if_pos (by omega)]), fun h23 => ?_⟩
    have h23 := hno _ h23
    have s3 : ∀ b', (b' = true → e.kind = 3 ∨ e.kind = 22) → (b' = false → e.kind ≠ 3 ∧ e.kind ≠ 22) → f18_s3 b' false (Addr.mk n 0 none) b e.kind w1 K := by
      intro b' ht hf
      rw [f18_s3_eq, BIf_iff]
      refine ⟨fun hb => s1 true false (by have := ht hb; unfold accesses; rw [if_neg (by omega), if_pos this]), fun hb => ?_⟩
      have := hf hb
      rw [BIf_iff]
      refine ⟨fun h4 => s1 true true (accesses_4 e (hye _ h4)), fun h4 => ?_⟩
      have h4 := hno _ h4
      have hacc : accesses e = (false, false, false) := by unfold accesses; rw [if_neg (by omega), if_neg (by omega), if_neg h4]
      have ht : touches e b = (false, false, false) := by unfold touches; rw [hacc]; rfl
      have hK := hK w1 (h1.tail hn)
      rw [ht] at hK
      exact hK
    rw [BIf_iff]
    refine ⟨fun h3 => s3 true (fun _ => .inl (hye _ h3)) (fun h => by cases h), fun h3 => s3 _ (fun h => .inr (hye _ h)) (fun h => ⟨hno _ h3, hno _ h⟩)⟩
/-- A list of events that grows. -/
theorem evs_append {A L X : List (Nat × Obj)} {ov : Value} {out : List Ev} (h : St w0 w (A ++ (L ++ X))) (hL : SlO 6 35 ov out.length (evsCs out) L) (hLn : New w0 L) {j nb : Nat} {e : Ev} {t2 : TypeId} (hj : A[j]? = some (nb, Cs (Evcs e) t2)) (hlen : out.length < 1000000000) :
    ∃ g cap w' L', (Builtin.append_ #[22, 22] 22 [ov, .slice (some ⟨nb, 0, none⟩) 1 1].toArray).run P w = .ok (.slice (some ⟨g, 0, none⟩) (out ++ [e]).length cap) w' ∧
      SlO 6 35 (.slice (some ⟨g, 0, none⟩) (out ++ [e]).length cap) (out ++ [e]).length (evsCs (out ++ [e])) L' ∧ St w0 w' (A ++ (L' ++ X)) ∧ New w0 L' := by
  have e2 : evsCs (out ++ [e]) = evsCs out ++ Evcs e := by simp [evsCs]
  rw [List.length_append, List.length_singleton, e2]
  exact St.append (P := P) 22 22 35 Try.t35 (.agg #[I64 0, I64 0, .int .u32 0, .int .u32 0, .int .u32 0, I64 0]) 6 40 Try.underlying22 (by kernel_rfl) rfl rfl rfl rfl (by omega) h hL hLn hj (Evcs_len e) (fun u hu => Evcs_one e u (by simpa using hu)) (by simp [maxLen]; omega) (by omega)
theorem bs22 (w : World) : (Instr.buildSlice 22 0 ([] : List (Nat × Value)).toArray).run P w = .ok (.slice (some ⟨w.heap.size, 0, none⟩) 0 0) (w.alloc (.cells #[] 35 (0, 0))) := by kernel_rfl
theorem St.emptyS (h : St w0 w H) : SlO 6 35 (.slice (some ⟨w.heap.size, 0, none⟩) 0 0) 0 [] [(w.heap.size, Cs [] 35)] ∧ New w0 [(w.heap.size, Cs [] 35)] ∧ St w0 (w.alloc (.cells #[] 35 (0, 0))) ([(w.heap.size, Cs [] 35)] ++ H) :=
  ⟨⟨rfl, .inr ⟨_, 0, [], rfl, rfl, by omega, by simp [maxLen], rfl, rfl⟩⟩, by simpa [New] using h.le, h.alloc (.cells #[] 35 (0, 0))⟩
end Go.Fx.Try
namespace Go.Fx.Try
set_option maxRecDepth 100000
open Go Go.Fx
/-! 9 candling.candlinglaw30.RaceLocks -/
noncomputable def c9 : Code := match Go.Proofs.Try.f9.body with
  | some c => c
  | none => .skip
noncomputable def rs9 : List ResultVar := Go.Proofs.Try.f9.results.toList
abbrev f9_kb (K : KT) : Exit → YT := bodyK P rs9 K
def f9 (s0a : Option Addr) (s0l s0c : Nat) (x1 x2 : Int) (w : World) (K : KT) : Prop := CS P c9 none [6] [6] (f9_kb K) (env0 38 [(Value.slice s0a s0l s0c), (Value.int .u32 x1), (Value.int .u32 x2)]) w
abbrev f9_k0 (K : KT) : Exit → YT := kseq P (codeAt c9 [0]) (codeAt c9 [1]) none [6] [6] (f9_kb K)
abbrev f9_k1 (K : KT) : Exit → YT := kseq P (codeAt c9 [1, 0]) (codeAt c9 [1, 1]) none [6] [6] (f9_kb K)
abbrev f9_k2 (K : KT) : Exit → YT := kseq P (codeAt c9 [1, 1, 0]) (codeAt c9 [1, 1, 1]) none [6] [6] (f9_kb K)
abbrev f9_k3 (K : KT) : Exit → YT := kseq P (codeAt c9 [1, 1, 0, 0]) (codeAt c9 [1, 1, 0, 1]) none [7, 1, 0] [6] (f9_k2 K)
def f9_s0 (b7 b8 : Bool) (x9 : Int) (s10a : Option Addr) (s10l s10c : Nat) (w : World) (K : KT) : Prop := Join (fun e w => CS P (codeAt c9 [1, 1, 0, 1]) none [7, 1, 0] [6] (f9_k2 K) e w) (Env.mk 38 [(20, (Value.bool b7)), (7, (Value.bool b8)), (1, (Value.int .u32 x9)), (0, (Value.slice s10a s10l s10c))] []) w
abbrev f9_k4 (K : KT) : Exit → YT := kseq P (codeAt c9 [1, 1, 0, 1, 0, 0]) (codeAt c9 [1, 1, 0, 1, 0, 1]) none [7, 1, 0] [6] (f9_k2 K)
def f9_s1 (b11 : Bool) (x12 : Int) (s13a : Option Addr) (s13l s13c : Nat) (w : World) (K : KT) : Prop := Join (fun e w => CS P (codeAt c9 [1, 1, 1]) none [6] [6] (f9_kb K) e w) (Env.mk 38 [(7, (Value.bool b11)), (1, (Value.int .u32 x12)), (0, (Value.slice s13a s13l s13c))] []) w
abbrev f9_k5 (K : KT) : Exit → YT := kseq P (codeAt c9 [1, 1, 1, 0]) (codeAt c9 [1, 1, 1, 1]) none [6] [6] (f9_kb K)
abbrev f9_k6 (K : KT) : Exit → YT := kseq P (codeAt c9 [1, 1, 1, 1, 0]) (codeAt c9 [1, 1, 1, 1, 1]) none [6] [6] (f9_kb K)
def f9_s2 (b18 : Bool) (w : World) (K : KT) : Prop := Join (fun e w => CS P (codeAt c9 [1, 1, 1, 1, 1]) none [6] [6] (f9_kb K) e w) (Env.mk 38 [(6, (Value.bool b18))] []) w
theorem f9_s2_eq (b18 : Bool) (w : World) (K : KT) : f9_s2 b18 w K = (K (Value.bool b18) w) := by kernel_rfl
theorem f9_s1_eq (b11 : Bool) (x12 : Int) (s13a : Option Addr) (s13l s13c : Nat) (w : World) (K : KT) : f9_s1 b11 x12 s13a s13l s13c w K = (CallL P 32 [(Value.slice s13a s13l s13c), (Value.int .u32 x12)] w (fun r14 w15 => ∃ (s16a : Option Addr) (s16l s16c : Nat), ∃ x17 : Int, r14 = (Value.tuple [(Value.slice s16a s16l s16c), (Value.int .i64 x17)].toArray) ∧ BIf ((x17 : Int) != 0) (f9_s2 b11 w15 K) (∃ x19 : Int, (∀ wq, Ext w15 wq → (Builtin.len_ #[25] 3 [(Value.slice s16a s16l s16c)].toArray).run P wq = .ok (Value.int .i64 x19) wq) ∧ BIf ((x19 : Int) == 0) (f9_s2 b11 w15 K) (f9_s2 false w15 K)))) := by kernel_rfl
theorem f9_s0_eq (b7 b8 : Bool) (x9 : Int) (s10a : Option Addr) (s10l s10c : Nat) (w : World) (K : KT) : f9_s0 b7 b8 x9 s10a s10l s10c w K = (BIf b7 (K (Value.bool b8) w) (f9_s1 b8 x9 s10a s10l s10c w K)) := by kernel_rfl
theorem f9_eq (s0a : Option Addr) (s0l s0c : Nat) (x1 x2 : Int) (w : World) (K : KT) : f9 s0a s0l s0c x1 x2 w K = (CallL P 13 [] w (fun r3 w4 => ∃ b5 : Bool, r3 = (Value.bool b5) ∧ ∃ x6 : Int, (∀ wq, Ext w4 wq → (Builtin.len_ #[22] 3 [(Value.slice s0a s0l s0c)].toArray).run P wq = .ok (Value.int .i64 x6) wq) ∧ BIf (decide ((x6 : Int) > 200)) (f9_s0 true b5 x1 s0a s0l s0c w4 K) (CallL P 34 [(Value.slice s0a s0l s0c), (Value.int .u32 x1), (Value.int .u32 x2)] w4 (fun r20 w21 => ∃ b22 : Bool, r20 = (Value.bool b22) ∧ f9_s0 (!b22) b5 x1 s0a s0l s0c w21 K)))) := by kernel_rfl
theorem c9_eq : Go.Proofs.Try.f9.body = some c9 := by kernel_rfl
theorem f9_un (s0a : Option Addr) (s0l s0c : Nat) (x1 x2 : Int) (w : World) (K : KT) : f9 s0a s0l s0c x1 x2 w K = CS P c9 none (resT Go.Proofs.Try.f9.results.toList) (resT Go.Proofs.Try.f9.results.toList) (bodyK P Go.Proofs.Try.f9.results.toList K) (env0 Go.Proofs.Try.f9.ntmps [(Value.slice s0a s0l s0c), (Value.int .u32 x1), (Value.int .u32 x2)]) w := by kernel_rfl
theorem f9_ok (s0a : Option Addr) (s0l s0c : Nat) (x1 x2 : Int) (w : World) (K : KT) (h : f9 s0a s0l s0c x1 x2 w K) : CallL P 9 [(Value.slice s0a s0l s0c), (Value.int .u32 x1), (Value.int .u32 x2)] w K := calls_of_CS Go.Proofs.Try.func9 c9_eq (Eq.mp (f9_un s0a s0l s0c x1 x2 w K) h)
/-! 34 candling.candlinglaw30.guarded -/
noncomputable def c34 : Code := match Go.Proofs.Try.f34.body with
  | some c => c
  | none => .skip
noncomputable def rs34 : List ResultVar := Go.Proofs.Try.f34.results.toList
abbrev f34_kb (K : KT) : Exit → YT := bodyK P rs34 K
def f34 (s0a : Option Addr) (s0l s0c : Nat) (x1 x2 : Int) (w : World) (K : KT) : Prop := CS P c34 none [6] [6] (f34_kb K) (env0 69 [(Value.slice s0a s0l s0c), (Value.int .u32 x1), (Value.int .u32 x2)]) w
def f34_s0 (s3a : Option Addr) (s3l s3c : Nat) (x4 x5 : Int) (w : World) (K : KT) : Prop := CS P (codeAt c34 []) none [6] [6] (f34_kb K) (Env.mk 69 [(0, (Value.slice s3a s3l s3c)), (1, (Value.int .u32 x4)), (2, (Value.int .u32 x5))] []) w
abbrev f34_k0 (K : KT) : Exit → YT := kseq P (codeAt c34 [0]) (codeAt c34 [1]) none [6] [6] (f34_kb K)
def f34_s1 (s6a : Option Addr) (s6l s6c : Nat) (x7 x8 : Int) (w : World) (K : KT) : Prop := CS P (codeAt c34 [1]) none [6] [6] (f34_kb K) (Env.mk 69 [(6, (Value.bool false)), (0, (Value.slice s6a s6l s6c)), (1, (Value.int .u32 x7)), (2, (Value.int .u32 x8))] []) w
abbrev f34_k1 (K : KT) : Exit → YT := kseq P (codeAt c34 [1, 0]) (codeAt c34 [1, 1]) none [6] [6] (f34_kb K)
def f34_s2 (x9 : Int) (s10a : Option Addr) (s10l s10c : Nat) (x11 x12 : Int) (w : World) (K : KT) : Prop := CS P (codeAt c34 [1, 1]) none [6] [6] (f34_kb K) (Env.mk 69 [(7, (Value.int .i64 x9)), (6, (Value.bool false)), (0, (Value.slice s10a s10l s10c)), (1, (Value.int .u32 x11)), (2, (Value.int .u32 x12))] []) w
abbrev f34_k2 (K : KT) : Exit → YT := kseq P (codeAt c34 [1, 1, 0]) (codeAt c34 [1, 1, 1]) none [6] [6] (f34_kb K)
abbrev f34_k3 (K : KT) : Exit → YT := kseq P (codeAt c34 [1, 1, 0, 0]) (codeAt c34 [1, 1, 0, 1]) none [] [6] (f34_k2 K)
def f34_s3 (x14 x15 : Int) (s16a : Option Addr) (s16l s16c : Nat) (x17 : Int) (s18a : Option Addr) (s18l s18c : Nat) (x19 x20 : Int) (w : World) (K : KT) : Prop := CS P (codeAt c34 [1, 1, 0, 1]) none [] [6] (f34_k2 K) (Env.mk 69 [(15, (Value.int .i64 x14)), (14, (Value.int .i64 x15)), (13, (Value.slice s16a s16l s16c)), (7, (Value.int .i64 x17)), (6, (Value.bool false)), (0, (Value.slice s18a s18l s18c)), (1, (Value.int .u32 x19)), (2, (Value.int .u32 x20))] []) w
abbrev f34_k4 (K : KT) : Exit → YT := kblock 0 (f34_k2 K)
def f34_lp4 (K : KT) (Y4 : YT) (e : Env) (w : World) : Prop := Join (fun e w => CS P (codeAt c34 [1, 1, 0, 1, 0, 0]) none [15, 7, 2, 1, 13, 6, 14] [6] (kloop [15, 7, 2, 1, 13, 6, 14] Y4 (f34_k4 K)) e w) e w
abbrev f34_kl4 (K : KT) (Y4 : YT) : Exit → YT := kloop [15, 7, 2, 1, 13, 6, 14] Y4 (f34_k4 K)
def f34_lb4 (x21 x22 x23 x24 : Int) (s25a : Option Addr) (s25l s25c : Nat) (b26 : Bool) (x27 : Int) (w : World) (K : KT) (Y4 : YT) : Prop := Join (fun e w => CS P (codeAt c34 [1, 1, 0, 1, 0, 0]) none [15, 7, 2, 1, 13, 6, 14] [6] (f34_kl4 K Y4) e w) (Env.mk 69 [(15, (Value.int .i64 x21)), (7, (Value.int .i64 x22)), (2, (Value.int .u32 x23)), (1, (Value.int .u32 x24)), (13, (Value.slice s25a s25l s25c)), (6, (Value.bool b26)), (14, (Value.int .i64 x27))] []) w
abbrev f34_k5 (K : KT) (Y4 : YT) : Exit → YT := kseq P (codeAt c34 [1, 1, 0, 1, 0, 0, 0]) (codeAt c34 [1, 1, 0, 1, 0, 0, 1]) none [15, 7, 2, 1, 13, 6, 14] [6] (f34_kl4 K Y4)
def f34_s5 (b28 : Bool) (x29 x30 x31 x32 : Int) (s33a : Option Addr) (s33l s33c : Nat) (b34 : Bool) (x35 : Int) (w : World) (K : KT) (Y4 : YT) : Prop := CS P (codeAt c34 [1, 1, 0, 1, 0, 0, 1]) none [15, 7, 2, 1, 13, 6, 14] [6] (f34_kl4 K Y4) (Env.mk 69 [(16, (Value.bool b28)), (15, (Value.int .i64 x29)), (7, (Value.int .i64 x30)), (2, (Value.int .u32 x31)), (1, (Value.int .u32 x32)), (13, (Value.slice s33a s33l s33c)), (6, (Value.bool b34)), (14, (Value.int .i64 x35))] []) w
abbrev f34_k6 (K : KT) (Y4 : YT) : Exit → YT := kseq P (codeAt c34 [1, 1, 0, 1, 0, 0, 1, 0]) (codeAt c34 [1, 1, 0, 1, 0, 0, 1, 1]) none [15, 7, 2, 1, 13, 6, 14] [6] (f34_kl4 K Y4)
def f34_s6 (x36 x37 x38 : Int) (s39a : Option Addr) (s39l s39c : Nat) (x40 x41 : Int) (b42 : Bool) (w : World) (K : KT) (Y4 : YT) : Prop := Join (fun e w => CS P (codeAt c34 [1, 1, 0, 1, 0, 0, 1, 1]) none [15, 7, 2, 1, 13, 6, 14] [6] (f34_kl4 K Y4) e w) (Env.mk 69 [(7, (Value.int .i64 x36)), (2, (Value.int .u32 x37)), (1, (Value.int .u32 x38)), (13, (Value.slice s39a s39l s39c)), (14, (Value.int .i64 x40)), (15, (Value.int .i64 x41)), (6, (Value.bool b42))] []) w
abbrev f34_k7 (K : KT) (Y4 : YT) : Exit → YT := kseq P (codeAt c34 [1, 1, 0, 1, 0, 0, 1, 1, 0]) (codeAt c34 [1, 1, 0, 1, 0, 0, 1, 1, 1]) none [15, 7, 2, 1, 13, 6, 14] [6] (f34_kl4 K Y4)
abbrev f34_k8 (K : KT) (Y4 : YT) : Exit → YT := kblock 1 (f34_k7 K Y4)
abbrev f34_k9 (K : KT) (Y4 : YT) : Exit → YT := kseq P (codeAt c34 [1, 1, 0, 1, 0, 0, 1, 1, 0, 0, 0]) (codeAt c34 [1, 1, 0, 1, 0, 0, 1, 1, 0, 0, 1]) none [7, 2, 1, 13, 6, 14, 15] [6, 7, 2, 1, 13, 14, 15] (f34_k8 K Y4)
def f34_s7 (a48 : Addr) (cs49 : Array Value) (a50 : Addr) (x51 x52 x53 : Int) (s54a : Option Addr) (s54l s54c : Nat) (x55 x56 : Int) (b57 : Bool) (w : World) (K : KT) (Y4 : YT) : Prop := CS P (codeAt c34 [1, 1, 0, 1, 0, 0, 1, 1, 0, 0, 1]) none [7, 2, 1, 13, 6, 14, 15] [6, 7, 2, 1, 13, 14, 15] (f34_k8 K Y4) (Env.mk 69 [(9, (Value.pointer (some a48))), (18, (Value.agg cs49)), (17, (Value.pointer (some a50))), (7, (Value.int .i64 x51)), (2, (Value.int .u32 x52)), (1, (Value.int .u32 x53)), (13, (Value.slice s54a s54l s54c)), (14, (Value.int .i64 x55)), (15, (Value.int .i64 x56)), (6, (Value.bool b57))] []) w
abbrev f34_k10 (K : KT) (Y4 : YT) : Exit → YT := kseq P (codeAt c34 [1, 1, 0, 1, 0, 0, 1, 1, 0, 0, 1, 0]) (codeAt c34 [1, 1, 0, 1, 0, 0, 1, 1, 0, 0, 1, 1]) none [7, 2, 1, 13, 6, 14, 15] [6, 7, 2, 1, 13, 14, 15] (f34_k8 K Y4)
def f34_s8 (b64 b65 b66 b67 b68 b69 b70 b71 b72 b73 b74 b75 : Bool) (x76 : Int) (cs77 : Array Value) (a78 : Addr) (cs79 : Array Value) (a80 : Addr) (x81 x82 x83 : Int) (s84a : Option Addr) (s84l s84c : Nat) (x85 x86 : Int) (b87 : Bool) (w : World) (K : KT) (Y4 : YT) : Prop := CS P (codeAt c34 [1, 1, 0, 1, 0, 0, 1, 1, 0, 0, 1, 1]) none [7, 2, 1, 13, 6, 14, 15] [6, 7, 2, 1, 13, 14, 15] (f34_k8 K Y4) (Env.mk 69 [(12, (Value.bool b64)), (11, (Value.bool b65)), (10, (Value.bool b66)), (25, (Value.bool b67)), (24, (Value.bool b68)), (23, (Value.bool b69)), (19, (Value.tuple [(Value.bool b70), (Value.bool b71), (Value.bool b72)].toArray)), (22, (Value.tuple [(Value.bool b73), (Value.bool b74), (Value.bool b75)].toArray)), (21, (Value.int .u32 x76)), (20, (Value.agg cs77)), (9, (Value.pointer (some a78))), (18, (Value.agg cs79)), (17, (Value.pointer (some a80))), (7, (Value.int .i64 x81)), (2, (Value.int .u32 x82)), (1, (Value.int .u32 x83)), (13, (Value.slice s84a s84l s84c)), (14, (Value.int .i64 x85)), (15, (Value.int .i64 x86)), (6, (Value.bool b87))] []) w
abbrev f34_k11 (K : KT) (Y4 : YT) : Exit → YT := kblock 2 (f34_k8 K Y4)
abbrev f34_k12 (K : KT) (Y4 : YT) : Exit → YT := kseq P (codeAt c34 [1, 1, 0, 1, 0, 0, 1, 1, 0, 0, 1, 1, 0, 0]) (codeAt c34 [1, 1, 0, 1, 0, 0, 1, 1, 0, 0, 1, 1, 0, 1]) none [7, 2, 1, 13, 6, 14, 15] [6, 7, 2, 1, 13, 14, 15] (f34_k11 K Y4)
def f34_s9 (b90 : Bool) (x91 x92 x93 : Int) (s94a : Option Addr) (s94l s94c : Nat) (x95 x96 : Int) (b97 : Bool) (a98 : Addr) (b99 : Bool) (w : World) (K : KT) (Y4 : YT) : Prop := Join (fun e w => CS P (codeAt c34 [1, 1, 0, 1, 0, 0, 1, 1, 0, 0, 1, 1, 0, 1]) none [7, 2, 1, 13, 6, 14, 15] [6, 7, 2, 1, 13, 14, 15] (f34_k11 K Y4) e w) (Env.mk 69 [(26, (Value.bool b90)), (7, (Value.int .i64 x91)), (2, (Value.int .u32 x92)), (1, (Value.int .u32 x93)), (13, (Value.slice s94a s94l s94c)), (14, (Value.int .i64 x95)), (15, (Value.int .i64 x96)), (6, (Value.bool b97)), (9, (Value.pointer (some a98))), (10, (Value.bool b99))] []) w
abbrev f34_k13 (K : KT) (Y4 : YT) : Exit → YT := kseq P (codeAt c34 [1, 1, 0, 1, 0, 0, 1, 1, 0, 0, 1, 1, 0, 1, 0, 0]) (codeAt c34 [1, 1, 0, 1, 0, 0, 1, 1, 0, 0, 1, 1, 0, 1, 0, 1]) none [7, 2, 1, 13, 6, 14, 15] [6, 7, 2, 1, 13, 14, 15] (f34_k11 K Y4)
abbrev f34_k14 (K : KT) (Y4 : YT) : Exit → YT := kseq P (codeAt c34 [1, 1, 0, 1, 0, 0, 1, 1, 0, 0, 1, 1, 0, 1, 0, 0, 0]) (codeAt c34 [1, 1, 0, 1, 0, 0, 1, 1, 0, 0, 1, 1, 0, 1, 0, 0, 1]) none [2, 1, 13, 6, 14, 15, 9] [6, 7, 2, 1, 13, 14, 15] (f34_k13 K Y4)
def f34_s10 (b101 : Bool) (x102 x103 x104 : Int) (s105a : Option Addr) (s105l s105c : Nat) (x106 x107 : Int) (b108 : Bool) (a109 : Addr) (w : World) (K : KT) (Y4 : YT) : Prop := Join (fun e w => CS P (codeAt c34 [1, 1, 0, 1, 0, 0, 1, 1, 0, 0, 1, 1, 0, 1, 0, 0, 1]) none [2, 1, 13, 6, 14, 15, 9] [6, 7, 2, 1, 13, 14, 15] (f34_k13 K Y4) e w) (Env.mk 69 [(43, (Value.bool b101)), (7, (Value.int .i64 x102)), (2, (Value.int .u32 x103)), (1, (Value.int .u32 x104)), (13, (Value.slice s105a s105l s105c)), (14, (Value.int .i64 x106)), (15, (Value.int .i64 x107)), (6, (Value.bool b108)), (9, (Value.pointer (some a109)))] []) w
abbrev f34_k15 (K : KT) (Y4 : YT) : Exit → YT := kseq P (codeAt c34 [1, 1, 0, 1, 0, 0, 1, 1, 0, 0, 1, 1, 0, 1, 0, 0, 1, 0, 0]) (codeAt c34 [1, 1, 0, 1, 0, 0, 1, 1, 0, 0, 1, 1, 0, 1, 0, 0, 1, 0, 1]) none [2, 1, 13, 6, 14, 15, 9] [6, 7, 2, 1, 13, 14, 15] (f34_k13 K Y4)
def f34_s11 (x110 x111 : Int) (s112a : Option Addr) (s112l s112c : Nat) (b113 : Bool) (x114 x115 : Int) (a116 : Addr) (w : World) (K : KT) (Y4 : YT) : Prop := Join (fun e w => CS P (codeAt c34 [1, 1, 0, 1, 0, 0, 1, 1, 0, 0, 1, 1, 0, 1, 0, 1]) none [7, 2, 1, 13, 6, 14, 15] [6, 7, 2, 1, 13, 14, 15] (f34_k11 K Y4) e w) (Env.mk 69 [(2, (Value.int .u32 x110)), (1, (Value.int .u32 x111)), (13, (Value.slice s112a s112l s112c)), (6, (Value.bool b113)), (14, (Value.int .i64 x114)), (15, (Value.int .i64 x115)), (9, (Value.pointer (some a116)))] []) w
def f34_s12 (x118 x119 x120 : Int) (s121a : Option Addr) (s121l s121c : Nat) (b122 : Bool) (x123 x124 : Int) (w : World) (K : KT) (Y4 : YT) : Prop := Join (fun e w => CS P (codeAt c34 [1, 1, 0, 1, 0, 0, 1, 1, 1]) none [15, 7, 2, 1, 13, 6, 14] [6] (f34_kl4 K Y4) e w) (Env.mk 69 [(7, (Value.int .i64 x118)), (2, (Value.int .u32 x119)), (1, (Value.int .u32 x120)), (13, (Value.slice s121a s121l s121c)), (6, (Value.bool b122)), (14, (Value.int .i64 x123)), (15, (Value.int .i64 x124))] []) w
theorem f34_s12_eq (x118 x119 x120 : Int) (s121a : Option Addr) (s121l s121c : Nat) (b122 : Bool) (x123 x124 : Int) (w : World) (K : KT) (Y4 : YT) : f34_s12 x118 x119 x120 s121a s121l s121c b122 x123 x124 w K Y4 = (Y4 (Env.mk 69 [(15, (Value.int .i64 (IntKind.wrap .i64 ((x124 : Int) + 1)))), (7, (Value.int .i64 x118)), (2, (Value.int .u32 x119)), (1, (Value.int .u32 x120)), (13, (Value.slice s121a s121l s121c)), (6, (Value.bool b122)), (14, (Value.int .i64 x123))] []) w) := by
  have h0 : f34_s12 x118 x119 x120 s121a s121l s121c b122 x123 x124 w K Y4 = CS P (codeAt c34 [1, 1, 0, 1, 0, 0, 1, 1, 1]) none [15, 7, 2, 1, 13, 6, 14] [6] (f34_kl4 K Y4) (Env.mk 69 [(7, (Value.int .i64 x118)), (2, (Value.int .u32 x119)), (1, (Value.int .u32 x120)), (13, (Value.slice s121a s121l s121c)), (6, (Value.bool b122)), (14, (Value.int .i64 x123)), (15, (Value.int .i64 x124))] []) w := by kernel_rfl
  have h1 : CS P (codeAt c34 [1, 1, 0, 1, 0, 0, 1, 1, 1]) none [15, 7, 2, 1, 13, 6, 14] [6] (f34_kl4 K Y4) (Env.mk 69 [(7, (Value.int .i64 x118)), (2, (Value.int .u32 x119)), (1, (Value.int .u32 x120)), (13, (Value.slice s121a s121l s121c)), (6, (Value.bool b122)), (14, (Value.int .i64 x123)), (15, (Value.int .i64 x124))] []) w = (Y4 (Env.mk 69 [(15, (Value.int .i64 (IntKind.wrap .i64 ((x124 : Int) + 1)))), (7, (Value.int .i64 x118)), (2, (Value.int .u32 x119)), (1, (Value.int .u32 x120)), (13, (Value.slice s121a s121l s121c)), (6, (Value.bool b122)), (14, (Value.int .i64 x123))] []) w) := by kernel_rfl
  exact h0.trans (h1)
theorem f34_s11_eq (x110 x111 : Int) (s112a : Option Addr) (s112l s112c : Nat) (b113 : Bool) (x114 x115 : Int) (a116 : Addr) (w : World) (K : KT) (Y4 : YT) : f34_s11 x110 x111 s112a s112l s112c b113 x114 x115 a116 w K Y4 = (∃ x117 : Int, w.cell? (a116.add 1) = some (Value.int .i64 x117) ∧ f34_s12 x117 x110 x111 s112a s112l s112c b113 x114 x115 w K Y4) := by
  have h0 : f34_s11 x110 x111 s112a s112l s112c b113 x114 x115 a116 w K Y4 = CS P (codeAt c34 [1, 1, 0, 1, 0, 0, 1, 1, 0, 0, 1, 1, 0, 1, 0, 1]) none [7, 2, 1, 13, 6, 14, 15] [6, 7, 2, 1, 13, 14, 15] (f34_k11 K Y4) (Env.mk 69 [(2, (Value.int .u32 x110)), (1, (Value.int .u32 x111)), (13, (Value.slice s112a s112l s112c)), (6, (Value.bool b113)), (14, (Value.int .i64 x114)), (15, (Value.int .i64 x115)), (9, (Value.pointer (some a116)))] []) w := by kernel_rfl
  have h1 : CS P (codeAt c34 [1, 1, 0, 1, 0, 0, 1, 1, 0, 0, 1, 1, 0, 1, 0, 1]) none [7, 2, 1, 13, 6, 14, 15] [6, 7, 2, 1, 13, 14, 15] (f34_k11 K Y4) (Env.mk 69 [(2, (Value.int .u32 x110)), (1, (Value.int .u32 x111)), (13, (Value.slice s112a s112l s112c)), (6, (Value.bool b113)), (14, (Value.int .i64 x114)), (15, (Value.int .i64 x115)), (9, (Value.pointer (some a116)))] []) w = (∃ x117 : Int, w.cell? (a116.add 1) = some (Value.int .i64 x117) ∧ f34_s12 x117 x110 x111 s112a s112l s112c b113 x114 x115 w K Y4) := by kernel_rfl
  exact h0.trans (h1)
theorem f34_s10_eq (b101 : Bool) (x102 x103 x104 : Int) (s105a : Option Addr) (s105l s105c : Nat) (x106 x107 : Int) (b108 : Bool) (a109 : Addr) (w : World) (K : KT) (Y4 : YT) : f34_s10 b101 x102 x103 x104 s105a s105l s105c x106 x107 b108 a109 w K Y4 = (BIf b101 (K (Value.bool false) w) (f34_s11 x103 x104 s105a s105l s105c b108 x106 x107 a109 w K Y4)) := by
  have h0 : f34_s10 b101 x102 x103 x104 s105a s105l s105c x106 x107 b108 a109 w K Y4 = CS P (codeAt c34 [1, 1, 0, 1, 0, 0, 1, 1, 0, 0, 1, 1, 0, 1, 0, 0, 1]) none [2, 1, 13, 6, 14, 15, 9] [6, 7, 2, 1, 13, 14, 15] (f34_k13 K Y4) (Env.mk 69 [(43, (Value.bool b101)), (7, (Value.int .i64 x102)), (2, (Value.int .u32 x103)), (1, (Value.int .u32 x104)), (13, (Value.slice s105a s105l s105c)), (14, (Value.int .i64 x106)), (15, (Value.int .i64 x107)), (6, (Value.bool b108)), (9, (Value.pointer (some a109)))] []) w := by kernel_rfl
  have h1 : CS P (codeAt c34 [1, 1, 0, 1, 0, 0, 1, 1, 0, 0, 1, 1, 0, 1, 0, 0, 1]) none [2, 1, 13, 6, 14, 15, 9] [6, 7, 2, 1, 13, 14, 15] (f34_k13 K Y4) (Env.mk 69 [(43, (Value.bool b101)), (7, (Value.int .i64 x102)), (2, (Value.int .u32 x103)), (1, (Value.int .u32 x104)), (13, (Value.slice s105a s105l s105c)), (14, (Value.int .i64 x106)), (15, (Value.int .i64 x107)), (6, (Value.bool b108)), (9, (Value.pointer (some a109)))] []) w = (BIf b101 (K (Value.bool false) w) (f34_s11 x103 x104 s105a s105l s105c b108 x106 x107 a109 w K Y4)) := by kernel_rfl
  exact h0.trans (h1)
abbrev f34_k16 (K : KT) (Y4 : YT) : Exit → YT := kseq P (codeAt c34 [1, 1, 0, 1, 0, 0, 1, 1, 0, 0, 1, 1, 0, 1, 1, 0]) (codeAt c34 [1, 1, 0, 1, 0, 0, 1, 1, 0, 0, 1, 1, 0, 1, 1, 1]) none [7, 2, 1, 13, 6, 14, 15] [6, 7, 2, 1, 13, 14, 15] (f34_k11 K Y4)
def f34_s13 (b127 : Bool) (x128 x129 x130 : Int) (s131a : Option Addr) (s131l s131c : Nat) (x132 x133 : Int) (b134 : Bool) (a135 : Addr) (b136 : Bool) (w : World) (K : KT) (Y4 : YT) : Prop := Join (fun e w => CS P (codeAt c34 [1, 1, 0, 1, 0, 0, 1, 1, 0, 0, 1, 1, 0, 1, 1, 1]) none [7, 2, 1, 13, 6, 14, 15] [6, 7, 2, 1, 13, 14, 15] (f34_k11 K Y4) e w) (Env.mk 69 [(46, (Value.bool b127)), (7, (Value.int .i64 x128)), (2, (Value.int .u32 x129)), (1, (Value.int .u32 x130)), (13, (Value.slice s131a s131l s131c)), (14, (Value.int .i64 x132)), (15, (Value.int .i64 x133)), (6, (Value.bool b134)), (9, (Value.pointer (some a135))), (10, (Value.bool b136))] []) w
abbrev f34_k17 (K : KT) (Y4 : YT) : Exit → YT := kseq P (codeAt c34 [1, 1, 0, 1, 0, 0, 1, 1, 0, 0, 1, 1, 0, 1, 1, 1, 0, 0]) (codeAt c34 [1, 1, 0, 1, 0, 0, 1, 1, 0, 0, 1, 1, 0, 1, 1, 1, 0, 1]) none [7, 2, 1, 13, 6, 14, 15] [6, 7, 2, 1, 13, 14, 15] (f34_k11 K Y4)
abbrev f34_k18 (K : KT) (Y4 : YT) : Exit → YT := kseq P (codeAt c34 [1, 1, 0, 1, 0, 0, 1, 1, 0, 0, 1, 1, 0, 1, 1, 1, 0, 0, 0]) (codeAt c34 [1, 1, 0, 1, 0, 0, 1, 1, 0, 0, 1, 1, 0, 1, 1, 1, 0, 0, 1]) none [2, 1, 13, 6, 14, 15] [6, 7, 2, 1, 13, 14, 15] (f34_k17 K Y4)
abbrev f34_k19 (K : KT) (Y4 : YT) : Exit → YT := kseq P (codeAt c34 [1, 1, 0, 1, 0, 0, 1, 1, 0, 0, 1, 1, 0, 1, 1, 1, 0, 0, 1, 0, 0]) (codeAt c34 [1, 1, 0, 1, 0, 0, 1, 1, 0, 0, 1, 1, 0, 1, 1, 1, 0, 0, 1, 0, 1]) none [2, 1, 13, 6, 14, 15] [6, 7, 2, 1, 13, 14, 15] (f34_k17 K Y4)
def f34_s14 (x138 x139 : Int) (s140a : Option Addr) (s140l s140c : Nat) (b141 : Bool) (x142 x143 : Int) (w : World) (K : KT) (Y4 : YT) : Prop := Join (fun e w => CS P (codeAt c34 [1, 1, 0, 1, 0, 0, 1, 1, 0, 0, 1, 1, 0, 1, 1, 1, 0, 1]) none [7, 2, 1, 13, 6, 14, 15] [6, 7, 2, 1, 13, 14, 15] (f34_k11 K Y4) e w) (Env.mk 69 [(2, (Value.int .u32 x138)), (1, (Value.int .u32 x139)), (13, (Value.slice s140a s140l s140c)), (6, (Value.bool b141)), (14, (Value.int .i64 x142)), (15, (Value.int .i64 x143))] []) w
theorem f34_s14_eq (x138 x139 : Int) (s140a : Option Addr) (s140l s140c : Nat) (b141 : Bool) (x142 x143 : Int) (w : World) (K : KT) (Y4 : YT) : f34_s14 x138 x139 s140a s140l s140c b141 x142 x143 w K Y4 = (f34_s12 (-1) x138 x139 s140a s140l s140c b141 x142 x143 w K Y4) := by
  have h0 : f34_s14 x138 x139 s140a s140l s140c b141 x142 x143 w K Y4 = CS P (codeAt c34 [1, 1, 0, 1, 0, 0, 1, 1, 0, 0, 1, 1, 0, 1, 1, 1, 0, 1]) none [7, 2, 1, 13, 6, 14, 15] [6, 7, 2, 1, 13, 14, 15] (f34_k11 K Y4) (Env.mk 69 [(2, (Value.int .u32 x138)), (1, (Value.int .u32 x139)), (13, (Value.slice s140a s140l s140c)), (6, (Value.bool b141)), (14, (Value.int .i64 x142)), (15, (Value.int .i64 x143))] []) w := by kernel_rfl
  have h1 : CS P (codeAt c34 [1, 1, 0, 1, 0, 0, 1, 1, 0, 0, 1, 1, 0, 1, 1, 1, 0, 1]) none [7, 2, 1, 13, 6, 14, 15] [6, 7, 2, 1, 13, 14, 15] (f34_k11 K Y4) (Env.mk 69 [(2, (Value.int .u32 x138)), (1, (Value.int .u32 x139)), (13, (Value.slice s140a s140l s140c)), (6, (Value.bool b141)), (14, (Value.int .i64 x142)), (15, (Value.int .i64 x143))] []) w = (f34_s12 (-1) x138 x139 s140a s140l s140c b141 x142 x143 w K Y4) := by kernel_rfl
  exact h0.trans (h1)
abbrev f34_k20 (K : KT) (Y4 : YT) : Exit → YT := kseq P (codeAt c34 [1, 1, 0, 1, 0, 0, 1, 1, 0, 0, 1, 1, 0, 1, 1, 1, 1, 0]) (codeAt c34 [1, 1, 0, 1, 0, 0, 1, 1, 0, 0, 1, 1, 0, 1, 1, 1, 1, 1]) none [7, 2, 1, 13, 6, 14, 15] [6, 7, 2, 1, 13, 14, 15] (f34_k11 K Y4)
def f34_s15 (b145 : Bool) (x146 x147 x148 : Int) (s149a : Option Addr) (s149l s149c : Nat) (x150 x151 : Int) (b152 : Bool) (w : World) (K : KT) (Y4 : YT) : Prop := Join (fun e w => CS P (codeAt c34 [1, 1, 0, 1, 0, 0, 1, 1, 0, 0, 1, 1, 0, 1, 1, 1, 1, 1]) none [7, 2, 1, 13, 6, 14, 15] [6, 7, 2, 1, 13, 14, 15] (f34_k11 K Y4) e w) (Env.mk 69 [(60, (Value.bool b145)), (7, (Value.int .i64 x146)), (2, (Value.int .u32 x147)), (1, (Value.int .u32 x148)), (13, (Value.slice s149a s149l s149c)), (14, (Value.int .i64 x150)), (15, (Value.int .i64 x151)), (6, (Value.bool b152))] []) w
abbrev f34_k21 (K : KT) (Y4 : YT) : Exit → YT := kseq P (codeAt c34 [1, 1, 0, 1, 0, 0, 1, 1, 0, 0, 1, 1, 0, 1, 1, 1, 1, 1, 0, 0]) (codeAt c34 [1, 1, 0, 1, 0, 0, 1, 1, 0, 0, 1, 1, 0, 1, 1, 1, 1, 1, 0, 1]) none [7, 2, 1, 13, 6, 14, 15] [6, 7, 2, 1, 13, 14, 15] (f34_k11 K Y4)
theorem f34_s15_eq (b145 : Bool) (x146 x147 x148 : Int) (s149a : Option Addr) (s149l s149c : Nat) (x150 x151 : Int) (b152 : Bool) (w : World) (K : KT) (Y4 : YT) : f34_s15 b145 x146 x147 x148 s149a s149l s149c x150 x151 b152 w K Y4 = (BIf b145 (K (Value.bool false) w) (f34_s12 x146 x147 x148 s149a s149l s149c b152 x150 x151 w K Y4)) := by
  have h0 : f34_s15 b145 x146 x147 x148 s149a s149l s149c x150 x151 b152 w K Y4 = CS P (codeAt c34 [1, 1, 0, 1, 0, 0, 1, 1, 0, 0, 1, 1, 0, 1, 1, 1, 1, 1]) none [7, 2, 1, 13, 6, 14, 15] [6, 7, 2, 1, 13, 14, 15] (f34_k11 K Y4) (Env.mk 69 [(60, (Value.bool b145)), (7, (Value.int .i64 x146)), (2, (Value.int .u32 x147)), (1, (Value.int .u32 x148)), (13, (Value.slice s149a s149l s149c)), (14, (Value.int .i64 x150)), (15, (Value.int .i64 x151)), (6, (Value.bool b152))] []) w := by kernel_rfl
  have h1 : CS P (codeAt c34 [1, 1, 0, 1, 0, 0, 1, 1, 0, 0, 1, 1, 0, 1, 1, 1, 1, 1]) none [7, 2, 1, 13, 6, 14, 15] [6, 7, 2, 1, 13, 14, 15] (f34_k11 K Y4) (Env.mk 69 [(60, (Value.bool b145)), (7, (Value.int .i64 x146)), (2, (Value.int .u32 x147)), (1, (Value.int .u32 x148)), (13, (Value.slice s149a s149l s149c)), (14, (Value.int .i64 x150)), (15, (Value.int .i64 x151)), (6, (Value.bool b152))] []) w = (BIf b145 (K (Value.bool false) w) (f34_s12 x146 x147 x148 s149a s149l s149c b152 x150 x151 w K Y4)) := by kernel_rfl
  exact h0.trans (h1)
theorem f34_s13_eq (b127 : Bool) (x128 x129 x130 : Int) (s131a : Option Addr) (s131l s131c : Nat) (x132 x133 : Int) (b134 : Bool) (a135 : Addr) (b136 : Bool) (w : World) (K : KT) (Y4 : YT) : f34_s13 b127 x128 x129 x130 s131a s131l s131c x132 x133 b134 a135 b136 w K Y4 = (BIf b127 (∃ x137 : Int, w.cell? (a135.add 1) = some (Value.int .i64 x137) ∧ BIf ((x128 : Int) != x137) (K (Value.bool false) w) (f34_s14 x129 x130 s131a s131l s131c b134 x132 x133 w K Y4)) (BIf b136 (∃ x144 : Int, w.cell? (a135.add 1) = some (Value.int .i64 x144) ∧ f34_s15 ((x128 : Int) != x144) x128 x129 x130 s131a s131l s131c x132 x133 b134 w K Y4) (f34_s15 false x128 x129 x130 s131a s131l s131c x132 x133 b134 w K Y4))) := by
  have h0 : f34_s13 b127 x128 x129 x130 s131a s131l s131c x132 x133 b134 a135 b136 w K Y4 = CS P (codeAt c34 [1, 1, 0, 1, 0, 0, 1, 1, 0, 0, 1, 1, 0, 1, 1, 1]) none [7, 2, 1, 13, 6, 14, 15] [6, 7, 2, 1, 13, 14, 15] (f34_k11 K Y4) (Env.mk 69 [(46, (Value.bool b127)), (7, (Value.int .i64 x128)), (2, (Value.int .u32 x129)), (1, (Value.int .u32 x130)), (13, (Value.slice s131a s131l s131c)), (14, (Value.int .i64 x132)), (15, (Value.int .i64 x133)), (6, (Value.bool b134)), (9, (Value.pointer (some a135))), (10, (Value.bool b136))] []) w := by kernel_rfl
  have h1 : CS P (codeAt c34 [1, 1, 0, 1, 0, 0, 1, 1, 0, 0, 1, 1, 0, 1, 1, 1]) none [7, 2, 1, 13, 6, 14, 15] [6, 7, 2, 1, 13, 14, 15] (f34_k11 K Y4) (Env.mk 69 [(46, (Value.bool b127)), (7, (Value.int .i64 x128)), (2, (Value.int .u32 x129)), (1, (Value.int .u32 x130)), (13, (Value.slice s131a s131l s131c)), (14, (Value.int .i64 x132)), (15, (Value.int .i64 x133)), (6, (Value.bool b134)), (9, (Value.pointer (some a135))), (10, (Value.bool b136))] []) w = (BIf b127 (∃ x137 : Int, w.cell? (a135.add 1) = some (Value.int .i64 x137) ∧ BIf ((x128 : Int) != x137) (K (Value.bool false) w) (f34_s14 x129 x130 s131a s131l s131c b134 x132 x133 w K Y4)) (BIf b136 (∃ x144 : Int, w.cell? (a135.add 1) = some (Value.int .i64 x144) ∧ f34_s15 ((x128 : Int) != x144) x128 x129 x130 s131a s131l s131c x132 x133 b134 w K Y4) (f34_s15 false x128 x129 x130 s131a s131l s131c x132 x133 b134 w K Y4))) := by kernel_rfl
  exact h0.trans (h1)
theorem f34_s9_eq (b90 : Bool) (x91 x92 x93 : Int) (s94a : Option Addr) (s94l s94c : Nat) (x95 x96 : Int) (b97 : Bool) (a98 : Addr) (b99 : Bool) (w : World) (K : KT) (Y4 : YT) : f34_s9 b90 x91 x92 x93 s94a s94l s94c x95 x96 b97 a98 b99 w K Y4 = (BIf b90 (BIf (decide ((x91 : Int) ≥ 0)) (∃ x100 : Int, w.cell? (a98.add 1) = some (Value.int .i64 x100) ∧ f34_s10 ((x91 : Int) != x100) x91 x92 x93 s94a s94l s94c x95 x96 b97 a98 w K Y4) (f34_s10 false x91 x92 x93 s94a s94l s94c x95 x96 b97 a98 w K Y4)) (∃ x125 : Int, w.cell? a98 = some (Value.int .i64 x125) ∧ BIf ((x125 : Int) == 15) (∃ x126 : Int, w.cell? (a98.add 3) = some (Value.int .u32 x126) ∧ f34_s13 ((x126 : Int) == x92) x91 x92 x93 s94a s94l s94c x95 x96 b97 a98 b99 w K Y4) (f34_s13 false x91 x92 x93 s94a s94l s94c x95 x96 b97 a98 b99 w K Y4))) := by
  have h0 : f34_s9 b90 x91 x92 x93 s94a s94l s94c x95 x96 b97 a98 b99 w K Y4 = CS P (codeAt c34 [1, 1, 0, 1, 0, 0, 1, 1, 0, 0, 1, 1, 0, 1]) none [7, 2, 1, 13, 6, 14, 15] [6, 7, 2, 1, 13, 14, 15] (f34_k11 K Y4) (Env.mk 69 [(26, (Value.bool b90)), (7, (Value.int .i64 x91)), (2, (Value.int .u32 x92)), (1, (Value.int .u32 x93)), (13, (Value.slice s94a s94l s94c)), (14, (Value.int .i64 x95)), (15, (Value.int .i64 x96)), (6, (Value.bool b97)), (9, (Value.pointer (some a98))), (10, (Value.bool b99))] []) w := by kernel_rfl
  have h1 : CS P (codeAt c34 [1, 1, 0, 1, 0, 0, 1, 1, 0, 0, 1, 1, 0, 1]) none [7, 2, 1, 13, 6, 14, 15] [6, 7, 2, 1, 13, 14, 15] (f34_k11 K Y4) (Env.mk 69 [(26, (Value.bool b90)), (7, (Value.int .i64 x91)), (2, (Value.int .u32 x92)), (1, (Value.int .u32 x93)), (13, (Value.slice s94a s94l s94c)), (14, (Value.int .i64 x95)), (15, (Value.int .i64 x96)), (6, (Value.bool b97)), (9, (Value.pointer (some a98))), (10, (Value.bool b99))] []) w = (BIf b90 (BIf (decide ((x91 : Int) ≥ 0)) (∃ x100 : Int, w.cell? (a98.add 1) = some (Value.int .i64 x100) ∧ f34_s10 ((x91 : Int) != x100) x91 x92 x93 s94a s94l s94c x95 x96 b97 a98 w K Y4) (f34_s10 false x91 x92 x93 s94a s94l s94c x95 x96 b97 a98 w K Y4)) (∃ x125 : Int, w.cell? a98 = some (Value.int .i64 x125) ∧ BIf ((x125 : Int) == 15) (∃ x126 : Int, w.cell? (a98.add 3) = some (Value.int .u32 x126) ∧ f34_s13 ((x126 : Int) == x92) x91 x92 x93 s94a s94l s94c x95 x96 b97 a98 b99 w K Y4) (f34_s13 false x91 x92 x93 s94a s94l s94c x95 x96 b97 a98 b99 w K Y4))) := by kernel_rfl
  exact h0.trans (h1)
theorem f34_s8_eq (b64 b65 b66 b67 b68 b69 b70 b71 b72 b73 b74 b75 : Bool) (x76 : Int) (cs77 : Array Value) (a78 : Addr) (cs79 : Array Value) (a80 : Addr) (x81 x82 x83 : Int) (s84a : Option Addr) (s84l s84c : Nat) (x85 x86 : Int) (b87 : Bool) (w : World) (K : KT) (Y4 : YT) : f34_s8 b64 b65 b66 b67 b68 b69 b70 b71 b72 b73 b74 b75 x76 cs77 a78 cs79 a80 x81 x82 x83 s84a s84l s84c x85 x86 b87 w K Y4 = (∃ x88 : Int, w.cell? a78 = some (Value.int .i64 x88) ∧ BIf ((x88 : Int) == 14) (∃ x89 : Int, w.cell? (a78.add 3) = some (Value.int .u32 x89) ∧ f34_s9 ((x89 : Int) == x82) x81 x82 x83 s84a s84l s84c x85 x86 b87 a78 b66 w K Y4) (f34_s9 false x81 x82 x83 s84a s84l s84c x85 x86 b87 a78 b66 w K Y4)) := by
  have h0 : f34_s8 b64 b65 b66 b67 b68 b69 b70 b71 b72 b73 b74 b75 x76 cs77 a78 cs79 a80 x81 x82 x83 s84a s84l s84c x85 x86 b87 w K Y4 = CS P (codeAt c34 [1, 1, 0, 1, 0, 0, 1, 1, 0, 0, 1, 1]) none [7, 2, 1, 13, 6, 14, 15] [6, 7, 2, 1, 13, 14, 15] (f34_k8 K Y4) (Env.mk 69 [(12, (Value.bool b64)), (11, (Value.bool b65)), (10, (Value.bool b66)), (25, (Value.bool b67)), (24, (Value.bool b68)), (23, (Value.bool b69)), (19, (Value.tuple [(Value.bool b70), (Value.bool b71), (Value.bool b72)].toArray)), (22, (Value.tuple [(Value.bool b73), (Value.bool b74), (Value.bool b75)].toArray)), (21, (Value.int .u32 x76)), (20, (Value.agg cs77)), (9, (Value.pointer (some a78))), (18, (Value.agg cs79)), (17, (Value.pointer (some a80))), (7, (Value.int .i64 x81)), (2, (Value.int .u32 x82)), (1, (Value.int .u32 x83)), (13, (Value.slice s84a s84l s84c)), (14, (Value.int .i64 x85)), (15, (Value.int .i64 x86)), (6, (Value.bool b87))] []) w := by kernel_rfl
  have h1 : CS P (codeAt c34 [1, 1, 0, 1, 0, 0, 1, 1, 0, 0, 1, 1]) none [7, 2, 1, 13, 6, 14, 15] [6, 7, 2, 1, 13, 14, 15] (f34_k8 K Y4) (Env.mk 69 [(12, (Value.bool b64)), (11, (Value.bool b65)), (10, (Value.bool b66)), (25, (Value.bool b67)), (24, (Value.bool b68)), (23, (Value.bool b69)), (19, (Value.tuple [(Value.bool b70), (Value.bool b71), (Value.bool b72)].toArray)), (22, (Value.tuple [(Value.bool b73), (Value.bool b74), (Value.bool b75)].toArray)), (21, (Value.int .u32 x76)), (20, (Value.agg cs77)), (9, (Value.pointer (some a78))), (18, (Value.agg cs79)), (17, (Value.pointer (some a80))), (7, (Value.int .i64 x81)), (2, (Value.int .u32 x82)), (1, (Value.int .u32 x83)), (13, (Value.slice s84a s84l s84c)), (14, (Value.int .i64 x85)), (15, (Value.int .i64 x86)), (6, (Value.bool b87))] []) w = (CS P (codeAt c34 [1, 1, 0, 1, 0, 0, 1, 1, 0, 0, 1, 1, 0]) none [7, 2, 1, 13, 6, 14, 15] [6, 7, 2, 1, 13, 14, 15] (f34_k11 K Y4) (Env.mk 69 [(12, (Value.bool b64)), (11, (Value.bool b65)), (10, (Value.bool b66)), (25, (Value.bool b67)), (24, (Value.bool b68)), (23, (Value.bool b69)), (19, (Value.tuple [(Value.bool b70), (Value.bool b71), (Value.bool b72)].toArray)), (22, (Value.tuple [(Value.bool b73), (Value.bool b74), (Value.bool b75)].toArray)), (21, (Value.int .u32 x76)), (20, (Value.agg cs77)), (9, (Value.pointer (some a78))), (18, (Value.agg cs79)), (17, (Value.pointer (some a80))), (7, (Value.int .i64 x81)), (2, (Value.int .u32 x82)), (1, (Value.int .u32 x83)), (13, (Value.slice s84a s84l s84c)), (14, (Value.int .i64 x85)), (15, (Value.int .i64 x86)), (6, (Value.bool b87))] []) w) := CS_block' (b := (codeAt c34 [1, 1, 0, 1, 0, 0, 1, 1, 0, 0, 1, 1, 0])) (by kernel_rfl) (by kernel_rfl)
  have h2 : CS P (codeAt c34 [1, 1, 0, 1, 0, 0, 1, 1, 0, 0, 1, 1, 0]) none [7, 2, 1, 13, 6, 14, 15] [6, 7, 2, 1, 13, 14, 15] (f34_k11 K Y4) (Env.mk 69 [(12, (Value.bool b64)), (11, (Value.bool b65)), (10, (Value.bool b66)), (25, (Value.bool b67)), (24, (Value.bool b68)), (23, (Value.bool b69)), (19, (Value.tuple [(Value.bool b70), (Value.bool b71), (Value.bool b72)].toArray)), (22, (Value.tuple [(Value.bool b73), (Value.bool b74), (Value.bool b75)].toArray)), (21, (Value.int .u32 x76)), (20, (Value.agg cs77)), (9, (Value.pointer (some a78))), (18, (Value.agg cs79)), (17, (Value.pointer (some a80))), (7, (Value.int .i64 x81)), (2, (Value.int .u32 x82)), (1, (Value.int .u32 x83)), (13, (Value.slice s84a s84l s84c)), (14, (Value.int .i64 x85)), (15, (Value.int .i64 x86)), (6, (Value.bool b87))] []) w = (CS P (codeAt c34 [1, 1, 0, 1, 0, 0, 1, 1, 0, 0, 1, 1, 0, 0]) none [26, 7, 2, 1, 13, 14, 15, 6, 9, 10] [6, 7, 2, 1, 13, 14, 15] (f34_k12 K Y4) (Env.mk 69 [(12, (Value.bool b64)), (11, (Value.bool b65)), (10, (Value.bool b66)), (25, (Value.bool b67)), (24, (Value.bool b68)), (23, (Value.bool b69)), (19, (Value.tuple [(Value.bool b70), (Value.bool b71), (Value.bool b72)].toArray)), (22, (Value.tuple [(Value.bool b73), (Value.bool b74), (Value.bool b75)].toArray)), (21, (Value.int .u32 x76)), (20, (Value.agg cs77)), (9, (Value.pointer (some a78))), (18, (Value.agg cs79)), (17, (Value.pointer (some a80))), (7, (Value.int .i64 x81)), (2, (Value.int .u32 x82)), (1, (Value.int .u32 x83)), (13, (Value.slice s84a s84l s84c)), (14, (Value.int .i64 x85)), (15, (Value.int .i64 x86)), (6, (Value.bool b87))] []) w) := CS_seq' (a := (codeAt c34 [1, 1, 0, 1, 0, 0, 1, 1, 0, 0, 1, 1, 0, 0])) (b := (codeAt c34 [1, 1, 0, 1, 0, 0, 1, 1, 0, 0, 1, 1, 0, 1])) (by kernel_rfl) (by kernel_rfl)
  have h3 : CS P (codeAt c34 [1, 1, 0, 1, 0, 0, 1, 1, 0, 0, 1, 1, 0, 0]) none [26, 7, 2, 1, 13, 14, 15, 6, 9, 10] [6, 7, 2, 1, 13, 14, 15] (f34_k12 K Y4) (Env.mk 69 [(12, (Value.bool b64)), (11, (Value.bool b65)), (10, (Value.bool b66)), (25, (Value.bool b67)), (24, (Value.bool b68)), (23, (Value.bool b69)), (19, (Value.tuple [(Value.bool b70), (Value.bool b71), (Value.bool b72)].toArray)), (22, (Value.tuple [(Value.bool b73), (Value.bool b74), (Value.bool b75)].toArray)), (21, (Value.int .u32 x76)), (20, (Value.agg cs77)), (9, (Value.pointer (some a78))), (18, (Value.agg cs79)), (17, (Value.pointer (some a80))), (7, (Value.int .i64 x81)), (2, (Value.int .u32 x82)), (1, (Value.int .u32 x83)), (13, (Value.slice s84a s84l s84c)), (14, (Value.int .i64 x85)), (15, (Value.int .i64 x86)), (6, (Value.bool b87))] []) w = (∃ x88 : Int, w.cell? a78 = some (Value.int .i64 x88) ∧ BIf ((x88 : Int) == 14) (∃ x89 : Int, w.cell? (a78.add 3) = some (Value.int .u32 x89) ∧ f34_s9 ((x89 : Int) == x82) x81 x82 x83 s84a s84l s84c x85 x86 b87 a78 b66 w K Y4) (f34_s9 false x81 x82 x83 s84a s84l s84c x85 x86 b87 a78 b66 w K Y4)) := by kernel_rfl
  exact h0.trans (h1.trans (h2.trans (h3)))
theorem f34_s7_eq (a48 : Addr) (cs49 : Array Value) (a50 : Addr) (x51 x52 x53 : Int) (s54a : Option Addr) (s54l s54c : Nat) (x55 x56 : Int) (b57 : Bool) (w : World) (K : KT) (Y4 : YT) : f34_s7 a48 cs49 a50 x51 x52 x53 s54a s54l s54c x55 x56 b57 w K Y4 = (LdA 6 a48 w (fun cs58 => CallL P 18 [(Value.agg cs58), (Value.int .u32 x53)] w (fun r59 w60 => ∃ b61 : Bool, ∃ b62 : Bool, ∃ b63 : Bool, r59 = (Value.tuple [(Value.bool b61), (Value.bool b62), (Value.bool b63)].toArray) ∧ f34_s8 b63 b62 b61 b63 b62 b61 b61 b62 b63 b61 b62 b63 x53 cs58 a48 cs49 a50 x51 x52 x53 s54a s54l s54c x55 x56 b57 w60 K Y4))) := by
  have h0 : f34_s7 a48 cs49 a50 x51 x52 x53 s54a s54l s54c x55 x56 b57 w K Y4 = CS P (codeAt c34 [1, 1, 0, 1, 0, 0, 1, 1, 0, 0, 1]) none [7, 2, 1, 13, 6, 14, 15] [6, 7, 2, 1, 13, 14, 15] (f34_k8 K Y4) (Env.mk 69 [(9, (Value.pointer (some a48))), (18, (Value.agg cs49)), (17, (Value.pointer (some a50))), (7, (Value.int .i64 x51)), (2, (Value.int .u32 x52)), (1, (Value.int .u32 x53)), (13, (Value.slice s54a s54l s54c)), (14, (Value.int .i64 x55)), (15, (Value.int .i64 x56)), (6, (Value.bool b57))] []) w := by kernel_rfl
  have h1 : CS P (codeAt c34 [1, 1, 0, 1, 0, 0, 1, 1, 0, 0, 1]) none [7, 2, 1, 13, 6, 14, 15] [6, 7, 2, 1, 13, 14, 15] (f34_k8 K Y4) (Env.mk 69 [(9, (Value.pointer (some a48))), (18, (Value.agg cs49)), (17, (Value.pointer (some a50))), (7, (Value.int .i64 x51)), (2, (Value.int .u32 x52)), (1, (Value.int .u32 x53)), (13, (Value.slice s54a s54l s54c)), (14, (Value.int .i64 x55)), (15, (Value.int .i64 x56)), (6, (Value.bool b57))] []) w = (CS P (codeAt c34 [1, 1, 0, 1, 0, 0, 1, 1, 0, 0, 1, 0]) none [7, 2, 1, 13, 14, 15, 6, 9, 10] [6, 7, 2, 1, 13, 14, 15] (f34_k10 K Y4) (Env.mk 69 [(9, (Value.pointer (some a48))), (18, (Value.agg cs49)), (17, (Value.pointer (some a50))), (7, (Value.int .i64 x51)), (2, (Value.int .u32 x52)), (1, (Value.int .u32 x53)), (13, (Value.slice s54a s54l s54c)), (14, (Value.int .i64 x55)), (15, (Value.int .i64 x56)), (6, (Value.bool b57))] []) w) := CS_seq' (a := (codeAt c34 [1, 1, 0, 1, 0, 0, 1, 1, 0, 0, 1, 0])) (b := (codeAt c34 [1, 1, 0, 1, 0, 0, 1, 1, 0, 0, 1, 1])) (by kernel_rfl) (by kernel_rfl)
  have h2 : CS P (codeAt c34 [1, 1, 0, 1, 0, 0, 1, 1, 0, 0, 1, 0]) none [7, 2, 1, 13, 14, 15, 6, 9, 10] [6, 7, 2, 1, 13, 14, 15] (f34_k10 K Y4) (Env.mk 69 [(9, (Value.pointer (some a48))), (18, (Value.agg cs49)), (17, (Value.pointer (some a50))), (7, (Value.int .i64 x51)), (2, (Value.int .u32 x52)), (1, (Value.int .u32 x53)), (13, (Value.slice s54a s54l s54c)), (14, (Value.int .i64 x55)), (15, (Value.int .i64 x56)), (6, (Value.bool b57))] []) w = (LdA 6 a48 w (fun cs58 => CallL P 18 [(Value.agg cs58), (Value.int .u32 x53)] w (fun r59 w60 => ∃ b61 : Bool, ∃ b62 : Bool, ∃ b63 : Bool, r59 = (Value.tuple [(Value.bool b61), (Value.bool b62), (Value.bool b63)].toArray) ∧ f34_s8 b63 b62 b61 b63 b62 b61 b61 b62 b63 b61 b62 b63 x53 cs58 a48 cs49 a50 x51 x52 x53 s54a s54l s54c x55 x56 b57 w60 K Y4))) := by kernel_rfl
  exact h0.trans (h1.trans (h2))
theorem f34_s6_eq (x36 x37 x38 : Int) (s39a : Option Addr) (s39l s39c : Nat) (x40 x41 : Int) (b42 : Bool) (w : World) (K : KT) (Y4 : YT) : f34_s6 x36 x37 x38 s39a s39l s39c x40 x41 b42 w K Y4 = (optS s39a (fun a43 => 0 ≤ (x41 : Int) ∧ (x41 : Int) < (s39l : Nat) ∧ LdA 6 (a43.add (Int.toNat x41 * 6)) w (fun cs44 => NewC (zcells P 35) 35 w (fun n45 w46 => StA 6 (Addr.mk n45 0 none) cs44 w46 (fun w47 => f34_s7 (Addr.mk n45 0 none) cs44 (a43.add (Int.toNat x41 * 6)) x36 x37 x38 s39a s39l s39c x40 x41 b42 w47 K Y4))))) := by
  have h0 : f34_s6 x36 x37 x38 s39a s39l s39c x40 x41 b42 w K Y4 = CS P (codeAt c34 [1, 1, 0, 1, 0, 0, 1, 1]) none [15, 7, 2, 1, 13, 6, 14] [6] (f34_kl4 K Y4) (Env.mk 69 [(7, (Value.int .i64 x36)), (2, (Value.int .u32 x37)), (1, (Value.int .u32 x38)), (13, (Value.slice s39a s39l s39c)), (14, (Value.int .i64 x40)), (15, (Value.int .i64 x41)), (6, (Value.bool b42))] []) w := by kernel_rfl
  have h1 : CS P (codeAt c34 [1, 1, 0, 1, 0, 0, 1, 1]) none [15, 7, 2, 1, 13, 6, 14] [6] (f34_kl4 K Y4) (Env.mk 69 [(7, (Value.int .i64 x36)), (2, (Value.int .u32 x37)), (1, (Value.int .u32 x38)), (13, (Value.slice s39a s39l s39c)), (14, (Value.int .i64 x40)), (15, (Value.int .i64 x41)), (6, (Value.bool b42))] []) w = (CS P (codeAt c34 [1, 1, 0, 1, 0, 0, 1, 1, 0]) none [7, 2, 1, 13, 6, 14, 15] [6] (f34_k7 K Y4) (Env.mk 69 [(7, (Value.int .i64 x36)), (2, (Value.int .u32 x37)), (1, (Value.int .u32 x38)), (13, (Value.slice s39a s39l s39c)), (14, (Value.int .i64 x40)), (15, (Value.int .i64 x41)), (6, (Value.bool b42))] []) w) := CS_seq' (a := (codeAt c34 [1, 1, 0, 1, 0, 0, 1, 1, 0])) (b := (codeAt c34 [1, 1, 0, 1, 0, 0, 1, 1, 1])) (by kernel_rfl) (by kernel_rfl)
  have h2 : CS P (codeAt c34 [1, 1, 0, 1, 0, 0, 1, 1, 0]) none [7, 2, 1, 13, 6, 14, 15] [6] (f34_k7 K Y4) (Env.mk 69 [(7, (Value.int .i64 x36)), (2, (Value.int .u32 x37)), (1, (Value.int .u32 x38)), (13, (Value.slice s39a s39l s39c)), (14, (Value.int .i64 x40)), (15, (Value.int .i64 x41)), (6, (Value.bool b42))] []) w = (CS P (codeAt c34 [1, 1, 0, 1, 0, 0, 1, 1, 0, 0]) none [7, 2, 1, 13, 6, 14, 15] [6, 7, 2, 1, 13, 14, 15] (f34_k8 K Y4) (Env.mk 69 [(7, (Value.int .i64 x36)), (2, (Value.int .u32 x37)), (1, (Value.int .u32 x38)), (13, (Value.slice s39a s39l s39c)), (14, (Value.int .i64 x40)), (15, (Value.int .i64 x41)), (6, (Value.bool b42))] []) w) := CS_block' (b := (codeAt c34 [1, 1, 0, 1, 0, 0, 1, 1, 0, 0])) (by kernel_rfl) (by kernel_rfl)
  have h3 : CS P (codeAt c34 [1, 1, 0, 1, 0, 0, 1, 1, 0, 0]) none [7, 2, 1, 13, 6, 14, 15] [6, 7, 2, 1, 13, 14, 15] (f34_k8 K Y4) (Env.mk 69 [(7, (Value.int .i64 x36)), (2, (Value.int .u32 x37)), (1, (Value.int .u32 x38)), (13, (Value.slice s39a s39l s39c)), (14, (Value.int .i64 x40)), (15, (Value.int .i64 x41)), (6, (Value.bool b42))] []) w = (CS P (codeAt c34 [1, 1, 0, 1, 0, 0, 1, 1, 0, 0, 0]) none [7, 2, 1, 13, 14, 15, 6, 9] [6, 7, 2, 1, 13, 14, 15] (f34_k9 K Y4) (Env.mk 69 [(7, (Value.int .i64 x36)), (2, (Value.int .u32 x37)), (1, (Value.int .u32 x38)), (13, (Value.slice s39a s39l s39c)), (14, (Value.int .i64 x40)), (15, (Value.int .i64 x41)), (6, (Value.bool b42))] []) w) := CS_seq' (a := (codeAt c34 [1, 1, 0, 1, 0, 0, 1, 1, 0, 0, 0])) (b := (codeAt c34 [1, 1, 0, 1, 0, 0, 1, 1, 0, 0, 1])) (by kernel_rfl) (by kernel_rfl)
  have h4 : CS P (codeAt c34 [1, 1, 0, 1, 0, 0, 1, 1, 0, 0, 0]) none [7, 2, 1, 13, 14, 15, 6, 9] [6, 7, 2, 1, 13, 14, 15] (f34_k9 K Y4) (Env.mk 69 [(7, (Value.int .i64 x36)), (2, (Value.int .u32 x37)), (1, (Value.int .u32 x38)), (13, (Value.slice s39a s39l s39c)), (14, (Value.int .i64 x40)), (15, (Value.int .i64 x41)), (6, (Value.bool b42))] []) w = (optS s39a (fun a43 => 0 ≤ (x41 : Int) ∧ (x41 : Int) < (s39l : Nat) ∧ LdA 6 (a43.add (Int.toNat x41 * 6)) w (fun cs44 => NewC (zcells P 35) 35 w (fun n45 w46 => StA 6 (Addr.mk n45 0 none) cs44 w46 (fun w47 => f34_s7 (Addr.mk n45 0 none) cs44 (a43.add (Int.toNat x41 * 6)) x36 x37 x38 s39a s39l s39c x40 x41 b42 w47 K Y4))))) := by kernel_rfl
  exact h0.trans (h1.trans (h2.trans (h3.trans (h4))))
def f34_s16 (w : World) (K : KT) : Prop := Join (fun e w => CS P (codeAt c34 [1, 1, 1]) none [6] [6] (f34_kb K) e w) (Env.mk 69 [] []) w
abbrev f34_k22 (K : KT) : Exit → YT := kseq P (codeAt c34 [1, 1, 1, 0]) (codeAt c34 [1, 1, 1, 1]) none [6] [6] (f34_kb K)
theorem f34_s16_eq (w : World) (K : KT) : f34_s16 w K = (K (Value.bool true) w) := by
  have h0 : f34_s16 w K = CS P (codeAt c34 [1, 1, 1]) none [6] [6] (f34_kb K) (Env.mk 69 [] []) w := by kernel_rfl
  have h1 : CS P (codeAt c34 [1, 1, 1]) none [6] [6] (f34_kb K) (Env.mk 69 [] []) w = (CS P (codeAt c34 [1, 1, 1, 0]) none [6] [6] (f34_k22 K) (Env.mk 69 [] []) w) := CS_seq' (a := (codeAt c34 [1, 1, 1, 0])) (b := (codeAt c34 [1, 1, 1, 1])) (by kernel_rfl) (by kernel_rfl)
  have h2 : CS P (codeAt c34 [1, 1, 1, 0]) none [6] [6] (f34_k22 K) (Env.mk 69 [] []) w = (K (Value.bool true) w) := by kernel_rfl
  exact h0.trans (h1.trans (h2))
theorem f34_s5_eq (b28 : Bool) (x29 x30 x31 x32 : Int) (s33a : Option Addr) (s33l s33c : Nat) (b34 : Bool) (x35 : Int) (w : World) (K : KT) (Y4 : YT) : f34_s5 b28 x29 x30 x31 x32 s33a s33l s33c b34 x35 w K Y4 = (BIf b28 (f34_s6 x30 x31 x32 s33a s33l s33c x35 x29 b34 w K Y4) (f34_s16 w K)) := by
  have h0 : f34_s5 b28 x29 x30 x31 x32 s33a s33l s33c b34 x35 w K Y4 = CS P (codeAt c34 [1, 1, 0, 1, 0, 0, 1]) none [15, 7, 2, 1, 13, 6, 14] [6] (f34_kl4 K Y4) (Env.mk 69 [(16, (Value.bool b28)), (15, (Value.int .i64 x29)), (7, (Value.int .i64 x30)), (2, (Value.int .u32 x31)), (1, (Value.int .u32 x32)), (13, (Value.slice s33a s33l s33c)), (6, (Value.bool b34)), (14, (Value.int .i64 x35))] []) w := by kernel_rfl
  have h1 : CS P (codeAt c34 [1, 1, 0, 1, 0, 0, 1]) none [15, 7, 2, 1, 13, 6, 14] [6] (f34_kl4 K Y4) (Env.mk 69 [(16, (Value.bool b28)), (15, (Value.int .i64 x29)), (7, (Value.int .i64 x30)), (2, (Value.int .u32 x31)), (1, (Value.int .u32 x32)), (13, (Value.slice s33a s33l s33c)), (6, (Value.bool b34)), (14, (Value.int .i64 x35))] []) w = (CS P (codeAt c34 [1, 1, 0, 1, 0, 0, 1, 0]) none [7, 2, 1, 13, 14, 15, 6] [6] (f34_k6 K Y4) (Env.mk 69 [(16, (Value.bool b28)), (15, (Value.int .i64 x29)), (7, (Value.int .i64 x30)), (2, (Value.int .u32 x31)), (1, (Value.int .u32 x32)), (13, (Value.slice s33a s33l s33c)), (6, (Value.bool b34)), (14, (Value.int .i64 x35))] []) w) := CS_seq' (a := (codeAt c34 [1, 1, 0, 1, 0, 0, 1, 0])) (b := (codeAt c34 [1, 1, 0, 1, 0, 0, 1, 1])) (by kernel_rfl) (by kernel_rfl)
  have h2 : CS P (codeAt c34 [1, 1, 0, 1, 0, 0, 1, 0]) none [7, 2, 1, 13, 14, 15, 6] [6] (f34_k6 K Y4) (Env.mk 69 [(16, (Value.bool b28)), (15, (Value.int .i64 x29)), (7, (Value.int .i64 x30)), (2, (Value.int .u32 x31)), (1, (Value.int .u32 x32)), (13, (Value.slice s33a s33l s33c)), (6, (Value.bool b34)), (14, (Value.int .i64 x35))] []) w = (BIf b28 (f34_s6 x30 x31 x32 s33a s33l s33c x35 x29 b34 w K Y4) (f34_s16 w K)) := by kernel_rfl
  exact h0.trans (h1.trans (h2))
theorem f34_lb4_eq (x21 x22 x23 x24 : Int) (s25a : Option Addr) (s25l s25c : Nat) (b26 : Bool) (x27 : Int) (w : World) (K : KT) (Y4 : YT) : f34_lb4 x21 x22 x23 x24 s25a s25l s25c b26 x27 w K Y4 = (f34_s5 (decide ((x21 : Int) < x27)) x21 x22 x23 x24 s25a s25l s25c b26 x27 w K Y4) := by
  have h0 : f34_lb4 x21 x22 x23 x24 s25a s25l s25c b26 x27 w K Y4 = CS P (codeAt c34 [1, 1, 0, 1, 0, 0]) none [15, 7, 2, 1, 13, 6, 14] [6] (f34_kl4 K Y4) (Env.mk 69 [(15, (Value.int .i64 x21)), (7, (Value.int .i64 x22)), (2, (Value.int .u32 x23)), (1, (Value.int .u32 x24)), (13, (Value.slice s25a s25l s25c)), (6, (Value.bool b26)), (14, (Value.int .i64 x27))] []) w := by kernel_rfl
  have h1 : CS P (codeAt c34 [1, 1, 0, 1, 0, 0]) none [15, 7, 2, 1, 13, 6, 14] [6] (f34_kl4 K Y4) (Env.mk 69 [(15, (Value.int .i64 x21)), (7, (Value.int .i64 x22)), (2, (Value.int .u32 x23)), (1, (Value.int .u32 x24)), (13, (Value.slice s25a s25l s25c)), (6, (Value.bool b26)), (14, (Value.int .i64 x27))] []) w = (CS P (codeAt c34 [1, 1, 0, 1, 0, 0, 0]) none [16, 7, 2, 1, 13, 14, 15, 6] [6] (f34_k5 K Y4) (Env.mk 69 [(15, (Value.int .i64 x21)), (7, (Value.int .i64 x22)), (2, (Value.int .u32 x23)), (1, (Value.int .u32 x24)), (13, (Value.slice s25a s25l s25c)), (6, (Value.bool b26)), (14, (Value.int .i64 x27))] []) w) := CS_seq' (a := (codeAt c34 [1, 1, 0, 1, 0, 0, 0])) (b := (codeAt c34 [1, 1, 0, 1, 0, 0, 1])) (by kernel_rfl) (by kernel_rfl)
  have h2 : CS P (codeAt c34 [1, 1, 0, 1, 0, 0, 0]) none [16, 7, 2, 1, 13, 14, 15, 6] [6] (f34_k5 K Y4) (Env.mk 69 [(15, (Value.int .i64 x21)), (7, (Value.int .i64 x22)), (2, (Value.int .u32 x23)), (1, (Value.int .u32 x24)), (13, (Value.slice s25a s25l s25c)), (6, (Value.bool b26)), (14, (Value.int .i64 x27))] []) w = (f34_s5 (decide ((x21 : Int) < x27)) x21 x22 x23 x24 s25a s25l s25c b26 x27 w K Y4) := by kernel_rfl
  exact h0.trans (h1.trans (h2))
theorem f34_s3_eq (x14 x15 : Int) (s16a : Option Addr) (s16l s16c : Nat) (x17 : Int) (s18a : Option Addr) (s18l s18c : Nat) (x19 x20 : Int) (w : World) (K : KT) : f34_s3 x14 x15 s16a s16l s16c x17 s18a s18l s18c x19 x20 w K = (LoopE (f34_lp4 K) (Env.mk 69 [(15, (Value.int .i64 x14)), (7, (Value.int .i64 x17)), (2, (Value.int .u32 x20)), (1, (Value.int .u32 x19)), (13, (Value.slice s16a s16l s16c)), (6, (Value.bool false)), (14, (Value.int .i64 x15))] []) w) := by
  have h0 : f34_s3 x14 x15 s16a s16l s16c x17 s18a s18l s18c x19 x20 w K = CS P (codeAt c34 [1, 1, 0, 1]) none [] [6] (f34_k2 K) (Env.mk 69 [(15, (Value.int .i64 x14)), (14, (Value.int .i64 x15)), (13, (Value.slice s16a s16l s16c)), (7, (Value.int .i64 x17)), (6, (Value.bool false)), (0, (Value.slice s18a s18l s18c)), (1, (Value.int .u32 x19)), (2, (Value.int .u32 x20))] []) w := by kernel_rfl
  have h1 : CS P (codeAt c34 [1, 1, 0, 1]) none [] [6] (f34_k2 K) (Env.mk 69 [(15, (Value.int .i64 x14)), (14, (Value.int .i64 x15)), (13, (Value.slice s16a s16l s16c)), (7, (Value.int .i64 x17)), (6, (Value.bool false)), (0, (Value.slice s18a s18l s18c)), (1, (Value.int .u32 x19)), (2, (Value.int .u32 x20))] []) w = (CS P (codeAt c34 [1, 1, 0, 1, 0]) none [] [6] (f34_k4 K) (Env.mk 69 [(15, (Value.int .i64 x14)), (14, (Value.int .i64 x15)), (13, (Value.slice s16a s16l s16c)), (7, (Value.int .i64 x17)), (6, (Value.bool false)), (0, (Value.slice s18a s18l s18c)), (1, (Value.int .u32 x19)), (2, (Value.int .u32 x20))] []) w) := CS_block' (b := (codeAt c34 [1, 1, 0, 1, 0])) (by kernel_rfl) (by kernel_rfl)
  have h2 : CS P (codeAt c34 [1, 1, 0, 1, 0]) none [] [6] (f34_k4 K) (Env.mk 69 [(15, (Value.int .i64 x14)), (14, (Value.int .i64 x15)), (13, (Value.slice s16a s16l s16c)), (7, (Value.int .i64 x17)), (6, (Value.bool false)), (0, (Value.slice s18a s18l s18c)), (1, (Value.int .u32 x19)), (2, (Value.int .u32 x20))] []) w = (LoopE (f34_lp4 K) (Env.mk 69 [(15, (Value.int .i64 x14)), (7, (Value.int .i64 x17)), (2, (Value.int .u32 x20)), (1, (Value.int .u32 x19)), (13, (Value.slice s16a s16l s16c)), (6, (Value.bool false)), (14, (Value.int .i64 x15))] []) w) := (CS_loop' (b := (codeAt c34 [1, 1, 0, 1, 0, 0])) (X' := [6]) (H := [15, 7, 2, 1, 13, 6, 14]) (by kernel_rfl) (by kernel_rfl) (by kernel_rfl)).trans (by kernel_rfl)
  exact h0.trans (h1.trans (h2))
theorem f34_s2_eq (x9 : Int) (s10a : Option Addr) (s10l s10c : Nat) (x11 x12 : Int) (w : World) (K : KT) : f34_s2 x9 s10a s10l s10c x11 x12 w K = (∃ x13 : Int, (∀ wq, Ext w wq → (Builtin.len_ #[22] 3 [(Value.slice s10a s10l s10c)].toArray).run P wq = .ok (Value.int .i64 x13) wq) ∧ f34_s3 0 x13 s10a s10l s10c x9 s10a s10l s10c x11 x12 w K) := by
  have h0 : f34_s2 x9 s10a s10l s10c x11 x12 w K = CS P (codeAt c34 [1, 1]) none [6] [6] (f34_kb K) (Env.mk 69 [(7, (Value.int .i64 x9)), (6, (Value.bool false)), (0, (Value.slice s10a s10l s10c)), (1, (Value.int .u32 x11)), (2, (Value.int .u32 x12))] []) w := by kernel_rfl
  have h1 : CS P (codeAt c34 [1, 1]) none [6] [6] (f34_kb K) (Env.mk 69 [(7, (Value.int .i64 x9)), (6, (Value.bool false)), (0, (Value.slice s10a s10l s10c)), (1, (Value.int .u32 x11)), (2, (Value.int .u32 x12))] []) w = (CS P (codeAt c34 [1, 1, 0]) none [] [6] (f34_k2 K) (Env.mk 69 [(7, (Value.int .i64 x9)), (6, (Value.bool false)), (0, (Value.slice s10a s10l s10c)), (1, (Value.int .u32 x11)), (2, (Value.int .u32 x12))] []) w) := CS_seq' (a := (codeAt c34 [1, 1, 0])) (b := (codeAt c34 [1, 1, 1])) (by kernel_rfl) (by kernel_rfl)
  have h2 : CS P (codeAt c34 [1, 1, 0]) none [] [6] (f34_k2 K) (Env.mk 69 [(7, (Value.int .i64 x9)), (6, (Value.bool false)), (0, (Value.slice s10a s10l s10c)), (1, (Value.int .u32 x11)), (2, (Value.int .u32 x12))] []) w = (CS P (codeAt c34 [1, 1, 0, 0]) none [15, 7, 2, 1, 13, 6, 14] [6] (f34_k3 K) (Env.mk 69 [(7, (Value.int .i64 x9)), (6, (Value.bool false)), (0, (Value.slice s10a s10l s10c)), (1, (Value.int .u32 x11)), (2, (Value.int .u32 x12))] []) w) := CS_seq' (a := (codeAt c34 [1, 1, 0, 0])) (b := (codeAt c34 [1, 1, 0, 1])) (by kernel_rfl) (by kernel_rfl)
  have h3 : CS P (codeAt c34 [1, 1, 0, 0]) none [15, 7, 2, 1, 13, 6, 14] [6] (f34_k3 K) (Env.mk 69 [(7, (Value.int .i64 x9)), (6, (Value.bool false)), (0, (Value.slice s10a s10l s10c)), (1, (Value.int .u32 x11)), (2, (Value.int .u32 x12))] []) w = (∃ x13 : Int, (∀ wq, Ext w wq → (Builtin.len_ #[22] 3 [(Value.slice s10a s10l s10c)].toArray).run P wq = .ok (Value.int .i64 x13) wq) ∧ f34_s3 0 x13 s10a s10l s10c x9 s10a s10l s10c x11 x12 w K) := by kernel_rfl
  exact h0.trans (h1.trans (h2.trans (h3)))
theorem f34_s1_eq (s6a : Option Addr) (s6l s6c : Nat) (x7 x8 : Int) (w : World) (K : KT) : f34_s1 s6a s6l s6c x7 x8 w K = (f34_s2 (-1) s6a s6l s6c x7 x8 w K) := by
  have h0 : f34_s1 s6a s6l s6c x7 x8 w K = CS P (codeAt c34 [1]) none [6] [6] (f34_kb K) (Env.mk 69 [(6, (Value.bool false)), (0, (Value.slice s6a s6l s6c)), (1, (Value.int .u32 x7)), (2, (Value.int .u32 x8))] []) w := by kernel_rfl
  have h1 : CS P (codeAt c34 [1]) none [6] [6] (f34_kb K) (Env.mk 69 [(6, (Value.bool false)), (0, (Value.slice s6a s6l s6c)), (1, (Value.int .u32 x7)), (2, (Value.int .u32 x8))] []) w = (CS P (codeAt c34 [1, 0]) none [7, 2, 1, 6, 0] [6] (f34_k1 K) (Env.mk 69 [(6, (Value.bool false)), (0, (Value.slice s6a s6l s6c)), (1, (Value.int .u32 x7)), (2, (Value.int .u32 x8))] []) w) := CS_seq' (a := (codeAt c34 [1, 0])) (b := (codeAt c34 [1, 1])) (by kernel_rfl) (by kernel_rfl)
  have h2 : CS P (codeAt c34 [1, 0]) none [7, 2, 1, 6, 0] [6] (f34_k1 K) (Env.mk 69 [(6, (Value.bool false)), (0, (Value.slice s6a s6l s6c)), (1, (Value.int .u32 x7)), (2, (Value.int .u32 x8))] []) w = (f34_s2 (-1) s6a s6l s6c x7 x8 w K) := by kernel_rfl
  exact h0.trans (h1.trans (h2))
theorem f34_s0_eq (s3a : Option Addr) (s3l s3c : Nat) (x4 x5 : Int) (w : World) (K : KT) : f34_s0 s3a s3l s3c x4 x5 w K = (f34_s1 s3a s3l s3c x4 x5 w K) := by
  have h0 : f34_s0 s3a s3l s3c x4 x5 w K = CS P (codeAt c34 []) none [6] [6] (f34_kb K) (Env.mk 69 [(0, (Value.slice s3a s3l s3c)), (1, (Value.int .u32 x4)), (2, (Value.int .u32 x5))] []) w := by kernel_rfl
  have h1 : CS P (codeAt c34 []) none [6] [6] (f34_kb K) (Env.mk 69 [(0, (Value.slice s3a s3l s3c)), (1, (Value.int .u32 x4)), (2, (Value.int .u32 x5))] []) w = (CS P (codeAt c34 [0]) none [2, 1, 6, 0] [6] (f34_k0 K) (Env.mk 69 [(0, (Value.slice s3a s3l s3c)), (1, (Value.int .u32 x4)), (2, (Value.int .u32 x5))] []) w) := CS_seq' (a := (codeAt c34 [0])) (b := (codeAt c34 [1])) (by kernel_rfl) (by kernel_rfl)
  have h2 : CS P (codeAt c34 [0]) none [2, 1, 6, 0] [6] (f34_k0 K) (Env.mk 69 [(0, (Value.slice s3a s3l s3c)), (1, (Value.int .u32 x4)), (2, (Value.int .u32 x5))] []) w = (f34_s1 s3a s3l s3c x4 x5 w K) := by kernel_rfl
  exact h0.trans (h1.trans (h2))
theorem f34_eq (s0a : Option Addr) (s0l s0c : Nat) (x1 x2 : Int) (w : World) (K : KT) : f34 s0a s0l s0c x1 x2 w K = (f34_s0 s0a s0l s0c x1 x2 w K) := by kernel_rfl
theorem c34_eq : Go.Proofs.Try.f34.body = some c34 := by kernel_rfl
theorem f34_un (s0a : Option Addr) (s0l s0c : Nat) (x1 x2 : Int) (w : World) (K : KT) : f34 s0a s0l s0c x1 x2 w K = CS P c34 none (resT Go.Proofs.Try.f34.results.toList) (resT Go.Proofs.Try.f34.results.toList) (bodyK P Go.Proofs.Try.f34.results.toList K) (env0 Go.Proofs.Try.f34.ntmps [(Value.slice s0a s0l s0c), (Value.int .u32 x1), (Value.int .u32 x2)]) w := by kernel_rfl
theorem f34_ok (s0a : Option Addr) (s0l s0c : Nat) (x1 x2 : Int) (w : World) (K : KT) (h : f34 s0a s0l s0c x1 x2 w K) : CallL P 34 [(Value.slice s0a s0l s0c), (Value.int .u32 x1), (Value.int .u32 x2)] w K := calls_of_CS Go.Proofs.Try.func34 c34_eq (Eq.mp (f34_un s0a s0l s0c x1 x2 w K) h)
/-! 6 candling.candlinglaw30.RaceMutexed -/
noncomputable def c6 : Code := match Go.Proofs.Try.f6.body with
  | some c => c
  | none => .skip
noncomputable def rs6 : List ResultVar := Go.Proofs.Try.f6.results.toList
abbrev f6_kb (K : KT) : Exit → YT := bodyK P rs6 K
def f6 (s0a : Option Addr) (s0l s0c : Nat) (x1 : Int) (w : World) (K : KT) : Prop := CS P c6 none [4] [4] (f6_kb K) (env0 69 [(Value.slice s0a s0l s0c), (Value.int .u32 x1)]) w
abbrev f6_k0 (K : KT) : Exit → YT := kseq P (codeAt c6 [0]) (codeAt c6 [1]) none [4] [4] (f6_kb K)
abbrev f6_k1 (K : KT) : Exit → YT := kseq P (codeAt c6 [1, 0]) (codeAt c6 [1, 1]) none [4] [4] (f6_kb K)
abbrev f6_k2 (K : KT) : Exit → YT := kseq P (codeAt c6 [1, 1, 0]) (codeAt c6 [1, 1, 1]) none [4] [4] (f6_kb K)
abbrev f6_k3 (K : KT) : Exit → YT := kseq P (codeAt c6 [1, 1, 0, 0]) (codeAt c6 [1, 1, 0, 1]) none [1, 4, 5, 0] [4] (f6_k2 K)
def f6_s0 (b6 b7 : Bool) (x8 : Int) (b9 : Bool) (s10a : Option Addr) (s10l s10c : Nat) (w : World) (K : KT) : Prop := Join (fun e w => CS P (codeAt c6 [1, 1, 0, 1]) none [1, 4, 5, 0] [4] (f6_k2 K) e w) (Env.mk 69 [(22, (Value.bool b6)), (5, (Value.bool b7)), (1, (Value.int .u32 x8)), (4, (Value.bool b9)), (0, (Value.slice s10a s10l s10c))] []) w
abbrev f6_k4 (K : KT) : Exit → YT := kseq P (codeAt c6 [1, 1, 0, 1, 0, 0]) (codeAt c6 [1, 1, 0, 1, 0, 1]) none [1, 4, 5, 0] [4] (f6_k2 K)
def f6_s1 (x11 : Int) (b12 b13 : Bool) (s14a : Option Addr) (s14l s14c : Nat) (w : World) (K : KT) : Prop := Join (fun e w => CS P (codeAt c6 [1, 1, 1]) none [4] [4] (f6_kb K) e w) (Env.mk 69 [(1, (Value.int .u32 x11)), (4, (Value.bool b12)), (5, (Value.bool b13)), (0, (Value.slice s14a s14l s14c))] []) w
abbrev f6_k5 (K : KT) : Exit → YT := kseq P (codeAt c6 [1, 1, 1, 0]) (codeAt c6 [1, 1, 1, 1]) none [4] [4] (f6_kb K)
abbrev f6_k6 (K : KT) : Exit → YT := kseq P (codeAt c6 [1, 1, 1, 1, 0]) (codeAt c6 [1, 1, 1, 1, 1]) none [4] [4] (f6_kb K)
abbrev f6_k7 (K : KT) : Exit → YT := kseq P (codeAt c6 [1, 1, 1, 1, 0, 0]) (codeAt c6 [1, 1, 1, 1, 0, 1]) none [5, 6, 0] [4] (f6_k6 K)
abbrev f6_k8 (K : KT) : Exit → YT := kblock 0 (f6_k6 K)
def f6_lp2 (K : KT) (Y2 : YT) (e : Env) (w : World) : Prop := Join (fun e w => CS P (codeAt c6 [1, 1, 1, 1, 0, 1, 0, 0]) none [27, 1, 6, 25, 4, 5, 0, 26] [4, 5, 6, 0] (kloop [27, 1, 6, 25, 4, 5, 0, 26] Y2 (f6_k8 K)) e w) e w
abbrev f6_kl2 (K : KT) (Y2 : YT) : Exit → YT := kloop [27, 1, 6, 25, 4, 5, 0, 26] Y2 (f6_k8 K)
def f6_lb2 (x22 x23 : Int) (s24a : Option Addr) (s24l s24c : Nat) (s25a : Option Addr) (s25l s25c : Nat) (b26 b27 : Bool) (s28a : Option Addr) (s28l s28c : Nat) (x29 : Int) (w : World) (K : KT) (Y2 : YT) : Prop := Join (fun e w => CS P (codeAt c6 [1, 1, 1, 1, 0, 1, 0, 0]) none [27, 1, 6, 25, 4, 5, 0, 26] [4, 5, 6, 0] (f6_kl2 K Y2) e w) (Env.mk 69 [(27, (Value.int .i64 x22)), (1, (Value.int .u32 x23)), (6, (Value.slice s24a s24l s24c)), (25, (Value.slice s25a s25l s25c)), (4, (Value.bool b26)), (5, (Value.bool b27)), (0, (Value.slice s28a s28l s28c)), (26, (Value.int .i64 x29))] []) w
abbrev f6_k9 (K : KT) (Y2 : YT) : Exit → YT := kseq P (codeAt c6 [1, 1, 1, 1, 0, 1, 0, 0, 0]) (codeAt c6 [1, 1, 1, 1, 0, 1, 0, 0, 1]) none [27, 1, 6, 25, 4, 5, 0, 26] [4, 5, 6, 0] (f6_kl2 K Y2)
abbrev f6_k10 (K : KT) (Y2 : YT) : Exit → YT := kseq P (codeAt c6 [1, 1, 1, 1, 0, 1, 0, 0, 1, 0]) (codeAt c6 [1, 1, 1, 1, 0, 1, 0, 0, 1, 1]) none [27, 1, 6, 25, 4, 5, 0, 26] [4, 5, 6, 0] (f6_kl2 K Y2)
def f6_s3 (x30 : Int) (s31a : Option Addr) (s31l s31c : Nat) (b32 b33 : Bool) (s34a : Option Addr) (s34l s34c : Nat) (x35 x36 : Int) (s37a : Option Addr) (s37l s37c : Nat) (w : World) (K : KT) (Y2 : YT) : Prop := Join (fun e w => CS P (codeAt c6 [1, 1, 1, 1, 0, 1, 0, 0, 1, 1]) none [27, 1, 6, 25, 4, 5, 0, 26] [4, 5, 6, 0] (f6_kl2 K Y2) e w) (Env.mk 69 [(1, (Value.int .u32 x30)), (25, (Value.slice s31a s31l s31c)), (4, (Value.bool b32)), (5, (Value.bool b33)), (0, (Value.slice s34a s34l s34c)), (26, (Value.int .i64 x35)), (27, (Value.int .i64 x36)), (6, (Value.slice s37a s37l s37c))] []) w
abbrev f6_k11 (K : KT) (Y2 : YT) : Exit → YT := kseq P (codeAt c6 [1, 1, 1, 1, 0, 1, 0, 0, 1, 1, 0]) (codeAt c6 [1, 1, 1, 1, 0, 1, 0, 0, 1, 1, 1]) none [27, 1, 6, 25, 4, 5, 0, 26] [4, 5, 6, 0] (f6_kl2 K Y2)
abbrev f6_k12 (K : KT) (Y2 : YT) : Exit → YT := kblock 1 (f6_k11 K Y2)
abbrev f6_k13 (K : KT) (Y2 : YT) : Exit → YT := kseq P (codeAt c6 [1, 1, 1, 1, 0, 1, 0, 0, 1, 1, 0, 0, 0]) (codeAt c6 [1, 1, 1, 1, 0, 1, 0, 0, 1, 1, 0, 0, 1]) none [1, 6, 25, 4, 5, 0, 26, 27] [4, 5, 6, 0, 1, 25, 26, 27] (f6_k12 K Y2)
def f6_s4 (x58 : Int) (s59a : Option Addr) (s59l s59c : Nat) (s60a : Option Addr) (s60l s60c : Nat) (b61 b62 : Bool) (s63a : Option Addr) (s63l s63c : Nat) (x64 x65 : Int) (w : World) (K : KT) (Y2 : YT) : Prop := Join (fun e w => CS P (codeAt c6 [1, 1, 1, 1, 0, 1, 0, 0, 1, 1, 1]) none [27, 1, 6, 25, 4, 5, 0, 26] [4, 5, 6, 0] (f6_kl2 K Y2) e w) (Env.mk 69 [(1, (Value.int .u32 x58)), (6, (Value.slice s59a s59l s59c)), (25, (Value.slice s60a s60l s60c)), (4, (Value.bool b61)), (5, (Value.bool b62)), (0, (Value.slice s63a s63l s63c)), (26, (Value.int .i64 x64)), (27, (Value.int .i64 x65))] []) w
theorem f6_s4_eq (x58 : Int) (s59a : Option Addr) (s59l s59c : Nat) (s60a : Option Addr) (s60l s60c : Nat) (b61 b62 : Bool) (s63a : Option Addr) (s63l s63c : Nat) (x64 x65 : Int) (w : World) (K : KT) (Y2 : YT) : f6_s4 x58 s59a s59l s59c s60a s60l s60c b61 b62 s63a s63l s63c x64 x65 w K Y2 = (Y2 (Env.mk 69 [(27, (Value.int .i64 (IntKind.wrap .i64 ((x65 : Int) + 1)))), (1, (Value.int .u32 x58)), (6, (Value.slice s59a s59l s59c)), (25, (Value.slice s60a s60l s60c)), (4, (Value.bool b61)), (5, (Value.bool b62)), (0, (Value.slice s63a s63l s63c)), (26, (Value.int .i64 x64))] []) w) := by kernel_rfl
theorem f6_s3_eq (x30 : Int) (s31a : Option Addr) (s31l s31c : Nat) (b32 b33 : Bool) (s34a : Option Addr) (s34l s34c : Nat) (x35 x36 : Int) (s37a : Option Addr) (s37l s37c : Nat) (w : World) (K : KT) (Y2 : YT) : f6_s3 x30 s31a s31l s31c b32 b33 s34a s34l s34c x35 x36 s37a s37l s37c w K Y2 = (optS s31a (fun a38 => 0 ≤ (x36 : Int) ∧ (x36 : Int) < (s31l : Nat) ∧ LdA 6 (a38.add (Int.toNat x36 * 6)) w (fun cs39 => NewC (zcells P 35) 35 w (fun n40 w41 => StA 6 (Addr.mk n40 0 none) cs39 w41 (fun w42 => ∃ x43 : Int, w42.drew.cell? ((Addr.mk n40 0 none).add 1) = some (Value.int .i64 x43) ∧ (CallL P 26 [(Value.int .i64 14), (Value.int .i64 x43), (Value.int .u32 x30), (Value.int .i64 0)] w42.drew (fun r44 w45 => ∃ cs46 : Array Value, r44 = (Value.agg cs46) ∧ ∃ x47 : Int, w45.cell? ((Addr.mk n40 0 none).add 1) = some (Value.int .i64 x47) ∧ (LdA 6 (Addr.mk n40 0 none) w45 (fun cs48 => CallL P 26 [(Value.int .i64 15), (Value.int .i64 x47), (Value.int .u32 x30), (Value.int .i64 0)] w45 (fun r49 w50 => ∃ cs51 : Array Value, r49 = (Value.agg cs51) ∧ sizesAre 6 [(Value.agg cs46), (Value.agg cs48), (Value.agg cs51)] ∧ NewC (([(Value.agg cs46), (Value.agg cs48), (Value.agg cs51)].map fun (v : Value) => v.cells.toList).flatten.toArray) 35 w50 (fun n55 w53 => ∃ (s56a : Option Addr) (s56l s56c : Nat), ∃ w57 : World, (Builtin.append_ #[22, 22] 22 [(Value.slice s37a s37l s37c), (Value.slice (some (Addr.mk n55 0 none)) 3 3)].toArray).run P w53 = .ok (Value.slice s56a s56l s56c) w57 ∧ f6_s4 x30 s56a s56l s56c s31a s31l s31c b32 b33 s34a s34l s34c x35 x36 w57 K Y2)))) ∧ (CallL P 26 [(Value.int .i64 15), (Value.int .i64 x47), (Value.int .u32 x30), (Value.int .i64 0)] w45 (fun r66 w67 => ∃ cs68 : Array Value, r66 = (Value.agg cs68) ∧ LdA 6 (Addr.mk n40 0 none) w67 (fun cs69 => sizesAre 6 [(Value.agg cs46), (Value.agg cs69), (Value.agg cs68)] ∧ NewC (([(Value.agg cs46), (Value.agg cs69), (Value.agg cs68)].map fun (v : Value) => v.cells.toList).flatten.toArray) 35 w67 (fun n73 w71 => ∃ (s74a : Option Addr) (s74l s74c : Nat), ∃ w75 : World, (Builtin.append_ #[22, 22] 22 [(Value.slice s37a s37l s37c), (Value.slice (some (Addr.mk n73 0 none)) 3 3)].toArray).run P w71 = .ok (Value.slice s74a s74l s74c) w75 ∧ f6_s4 x30 s74a s74l s74c s31a s31l s31c b32 b33 s34a s34l s34c x35 x36 w75 K Y2)))))) ∧ (LdA 6 (Addr.mk n40 0 none) w42.drew (fun cs76 => (CallL P 26 [(Value.int .i64 14), (Value.int .i64 x43), (Value.int .u32 x30), (Value.int .i64 0)] w42.drew (fun r77 w78 => ∃ cs79 : Array Value, r77 = (Value.agg cs79) ∧ ∃ x80 : Int, w78.cell? ((Addr.mk n40 0 none).add 1) = some (Value.int .i64 x80) ∧ CallL P 26 [(Value.int .i64 15), (Value.int .i64 x80), (Value.int .u32 x30), (Value.int .i64 0)] w78 (fun r81 w82 => ∃ cs83 : Array Value, r81 = (Value.agg cs83) ∧ sizesAre 6 [(Value.agg cs79), (Value.agg cs76), (Value.agg cs83)] ∧ NewC (([(Value.agg cs79), (Value.agg cs76), (Value.agg cs83)].map fun (v : Value) => v.cells.toList).flatten.toArray) 35 w82 (fun n87 w85 => ∃ (s88a : Option Addr) (s88l s88c : Nat), ∃ w89 : World, (Builtin.append_ #[22, 22] 22 [(Value.slice s37a s37l s37c), (Value.slice (some (Addr.mk n87 0 none)) 3 3)].toArray).run P w85 = .ok (Value.slice s88a s88l s88c) w89 ∧ f6_s4 x30 s88a s88l s88c s31a s31l s31c b32 b33 s34a s34l s34c x35 x36 w89 K Y2)))) ∧ (∃ x90 : Int, w42.drew.cell? ((Addr.mk n40 0 none).add 1) = some (Value.int .i64 x90) ∧ CallL P 26 [(Value.int .i64 14), (Value.int .i64 x43), (Value.int .u32 x30), (Value.int .i64 0)] w42.drew (fun r91 w92 => ∃ cs93 : Array Value, r91 = (Value.agg cs93) ∧ CallL P 26 [(Value.int .i64 15), (Value.int .i64 x90), (Value.int .u32 x30), (Value.int .i64 0)] w92 (fun r94 w95 => ∃ cs96 : Array Value, r94 = (Value.agg cs96) ∧ sizesAre 6 [(Value.agg cs93), (Value.agg cs76), (Value.agg cs96)] ∧ NewC (([(Value.agg cs93), (Value.agg cs76), (Value.agg cs96)].map fun (v : Value) => v.cells.toList).flatten.toArray) 35 w95 (fun n100 w98 => ∃ (s101a : Option Addr) (s101l s101c : Nat), ∃ w102 : World, (Builtin.append_ #[22, 22] 22 [(Value.slice s37a s37l s37c), (Value.slice (some (Addr.mk n100 0 none)) 3 3)].toArray).run P w98 = .ok (Value.slice s101a s101l s101c) w102 ∧ f6_s4 x30 s101a s101l s101c s31a s31l s31c b32 b33 s34a s34l s34c x35 x36 w102 K Y2)))))) ∧ (∃ x103 : Int, w42.drew.cell? ((Addr.mk n40 0 none).add 1) = some (Value.int .i64 x103) ∧ (CallL P 26 [(Value.int .i64 14), (Value.int .i64 x43), (Value.int .u32 x30), (Value.int .i64 0)] w42.drew (fun r104 w105 => ∃ cs106 : Array Value, r104 = (Value.agg cs106) ∧ (LdA 6 (Addr.mk n40 0 none) w105 (fun cs107 => CallL P 26 [(Value.int .i64 15), (Value.int .i64 x103), (Value.int .u32 x30), (Value.int .i64 0)] w105 (fun r108 w109 => ∃ cs110 : Array Value, r108 = (Value.agg cs110) ∧ sizesAre 6 [(Value.agg cs106), (Value.agg cs107), (Value.agg cs110)] ∧ NewC (([(Value.agg cs106), (Value.agg cs107), (Value.agg cs110)].map fun (v : Value) => v.cells.toList).flatten.toArray) 35 w109 (fun n114 w112 => ∃ (s115a : Option Addr) (s115l s115c : Nat), ∃ w116 : World, (Builtin.append_ #[22, 22] 22 [(Value.slice s37a s37l s37c), (Value.slice (some (Addr.mk n114 0 none)) 3 3)].toArray).run P w112 = .ok (Value.slice s115a s115l s115c) w116 ∧ f6_s4 x30 s115a s115l s115c s31a s31l s31c b32 b33 s34a s34l s34c x35 x36 w116 K Y2)))) ∧ (CallL P 26 [(Value.int .i64 15), (Value.int .i64 x103), (Value.int .u32 x30), (Value.int .i64 0)] w105 (fun r117 w118 => ∃ cs119 : Array Value, r117 = (Value.agg cs119) ∧ LdA 6 (Addr.mk n40 0 none) w118 (fun cs120 => sizesAre 6 [(Value.agg cs106), (Value.agg cs120), (Value.agg cs119)] ∧ NewC (([(Value.agg cs106), (Value.agg cs120), (Value.agg cs119)].map fun (v : Value) => v.cells.toList).flatten.toArray) 35 w118 (fun n124 w122 => ∃ (s125a : Option Addr) (s125l s125c : Nat), ∃ w126 : World, (Builtin.append_ #[22, 22] 22 [(Value.slice s37a s37l s37c), (Value.slice (some (Addr.mk n124 0 none)) 3 3)].toArray).run P w122 = .ok (Value.slice s125a s125l s125c) w126 ∧ f6_s4 x30 s125a s125l s125c s31a s31l s31c b32 b33 s34a s34l s34c x35 x36 w126 K Y2)))))) ∧ (LdA 6 (Addr.mk n40 0 none) w42.drew (fun cs127 => CallL P 26 [(Value.int .i64 14), (Value.int .i64 x43), (Value.int .u32 x30), (Value.int .i64 0)] w42.drew (fun r128 w129 => ∃ cs130 : Array Value, r128 = (Value.agg cs130) ∧ CallL P 26 [(Value.int .i64 15), (Value.int .i64 x103), (Value.int .u32 x30), (Value.int .i64 0)] w129 (fun r131 w132 => ∃ cs133 : Array Value, r131 = (Value.agg cs133) ∧ sizesAre 6 [(Value.agg cs130), (Value.agg cs127), (Value.agg cs133)] ∧ NewC (([(Value.agg cs130), (Value.agg cs127), (Value.agg cs133)].map fun (v : Value) => v.cells.toList).flatten.toArray) 35 w132 (fun n137 w135 => ∃ (s138a : Option Addr) (s138l s138c : Nat), ∃ w139 : World, (Builtin.append_ #[22, 22] 22 [(Value.slice s37a s37l s37c), (Value.slice (some (Addr.mk n137 0 none)) 3 3)].toArray).run P w135 = .ok (Value.slice s138a s138l s138c) w139 ∧ f6_s4 x30 s138a s138l s138c s31a s31l s31c b32 b33 s34a s34l s34c x35 x36 w139 K Y2))))))))))) := by kernel_rfl
def f6_s5 (b140 : Bool) (s141a : Option Addr) (s141l s141c : Nat) (s142a : Option Addr) (s142l s142c : Nat) (w : World) (K : KT) : Prop := Join (fun e w => CS P (codeAt c6 [1, 1, 1, 1, 1]) none [4] [4] (f6_kb K) e w) (Env.mk 69 [(5, (Value.bool b140)), (6, (Value.slice s141a s141l s141c)), (0, (Value.slice s142a s142l s142c))] []) w
abbrev f6_k14 (K : KT) : Exit → YT := kseq P (codeAt c6 [1, 1, 1, 1, 1, 0]) (codeAt c6 [1, 1, 1, 1, 1, 1]) none [4] [4] (f6_kb K)
abbrev f6_k15 (K : KT) : Exit → YT := kseq P (codeAt c6 [1, 1, 1, 1, 1, 1, 0]) (codeAt c6 [1, 1, 1, 1, 1, 1, 1]) none [4] [4] (f6_kb K)
abbrev f6_k16 (K : KT) : Exit → YT := kseq P (codeAt c6 [1, 1, 1, 1, 1, 1, 1, 0]) (codeAt c6 [1, 1, 1, 1, 1, 1, 1, 1]) none [4] [4] (f6_kb K)
def f6_s6 (b152 : Bool) (w : World) (K : KT) : Prop := Join (fun e w => CS P (codeAt c6 [1, 1, 1, 1, 1, 1, 1, 1]) none [4] [4] (f6_kb K) e w) (Env.mk 69 [(4, (Value.bool b152))] []) w
theorem f6_s6_eq (b152 : Bool) (w : World) (K : KT) : f6_s6 b152 w K = (K (Value.bool b152) w) := by kernel_rfl
theorem f6_s5_eq (b140 : Bool) (s141a : Option Addr) (s141l s141c : Nat) (s142a : Option Addr) (s142l s142c : Nat) (w : World) (K : KT) : f6_s5 b140 s141a s141l s141c s142a s142l s142c w K = (CallL P 27 [(Value.slice s142a s142l s142c)] w (fun r143 w144 => ∃ (s145a : Option Addr) (s145l s145c : Nat), ∃ (s146a : Option Addr) (s146l s146c : Nat), ∃ x147 : Int, r143 = (Value.tuple [(Value.slice s145a s145l s145c), (Value.slice s146a s146l s146c), (Value.int .i64 x147)].toArray) ∧ CallL P 16 [(Value.slice s141a s141l s141c)] w144 (fun r148 w149 => ∃ (s150a : Option Addr) (s150l s150c : Nat), ∃ x151 : Int, r148 = (Value.tuple [(Value.slice s150a s150l s150c), (Value.int .i64 x151)].toArray) ∧ BIf ((x147 : Int) != 0) (f6_s6 b140 w149 K) (BIf ((x151 : Int) == 0) (∃ x153 : Int, (∀ wq, Ext w149 wq → (Builtin.len_ #[25] 3 [(Value.slice s150a s150l s150c)].toArray).run P wq = .ok (Value.int .i64 x153) wq) ∧ BIf ((x153 : Int) == 0) (f6_s6 b140 w149 K) (f6_s6 false w149 K)) (f6_s6 false w149 K))))) := by kernel_rfl
theorem f6_lb2_eq (x22 x23 : Int) (s24a : Option Addr) (s24l s24c : Nat) (s25a : Option Addr) (s25l s25c : Nat) (b26 b27 : Bool) (s28a : Option Addr) (s28l s28c : Nat) (x29 : Int) (w : World) (K : KT) (Y2 : YT) : f6_lb2 x22 x23 s24a s24l s24c s25a s25l s25c b26 b27 s28a s28l s28c x29 w K Y2 = (BIf (decide ((x22 : Int) < x29)) (f6_s3 x23 s25a s25l s25c b26 b27 s28a s28l s28c x29 x22 s24a s24l s24c w K Y2) (f6_s5 b27 s24a s24l s24c s28a s28l s28c w K)) := by kernel_rfl
theorem f6_s1_eq (x11 : Int) (b12 b13 : Bool) (s14a : Option Addr) (s14l s14c : Nat) (w : World) (K : KT) : f6_s1 x11 b12 b13 s14a s14l s14c w K = (∃ (s19a : Option Addr) (s19l s19c : Nat), ∃ w20 : World, (Instr.buildSlice 22 0 ([] : List (Nat × Value)).toArray).run P w = .ok (Value.slice s19a s19l s19c) w20 ∧ ∃ x21 : Int, (∀ wq, Ext w20 wq → (Builtin.len_ #[22] 3 [(Value.slice s14a s14l s14c)].toArray).run P wq = .ok (Value.int .i64 x21) wq) ∧ LoopE (f6_lp2 K) (Env.mk 69 [(27, (Value.int .i64 0)), (1, (Value.int .u32 x11)), (6, (Value.slice s19a s19l s19c)), (25, (Value.slice s14a s14l s14c)), (4, (Value.bool b12)), (5, (Value.bool b13)), (0, (Value.slice s14a s14l s14c)), (26, (Value.int .i64 x21))] []) w20) := by kernel_rfl
theorem f6_s0_eq (b6 b7 : Bool) (x8 : Int) (b9 : Bool) (s10a : Option Addr) (s10l s10c : Nat) (w : World) (K : KT) : f6_s0 b6 b7 x8 b9 s10a s10l s10c w K = (BIf b6 (K (Value.bool b7) w) (f6_s1 x8 b9 b7 s10a s10l s10c w K)) := by kernel_rfl
theorem f6_eq (s0a : Option Addr) (s0l s0c : Nat) (x1 : Int) (w : World) (K : KT) : f6 s0a s0l s0c x1 w K = (CallL P 13 [] w (fun r2 w3 => ∃ b4 : Bool, r2 = (Value.bool b4) ∧ ∃ x5 : Int, (∀ wq, Ext w3 wq → (Builtin.len_ #[22] 3 [(Value.slice s0a s0l s0c)].toArray).run P wq = .ok (Value.int .i64 x5) wq) ∧ BIf (decide ((x5 : Int) > 100)) (f6_s0 true b4 x1 false s0a s0l s0c w3 K) (CallL P 14 [(Value.slice s0a s0l s0c)] w3 (fun r154 w155 => ∃ x156 : Int, r154 = (Value.int .i64 x156) ∧ f6_s0 (decide ((x156 : Int) > 2000)) b4 x1 false s0a s0l s0c w155 K)))) := by kernel_rfl
theorem c6_eq : Go.Proofs.Try.f6.body = some c6 := by kernel_rfl
theorem f6_un (s0a : Option Addr) (s0l s0c : Nat) (x1 : Int) (w : World) (K : KT) : f6 s0a s0l s0c x1 w K = CS P c6 none (resT Go.Proofs.Try.f6.results.toList) (resT Go.Proofs.Try.f6.results.toList) (bodyK P Go.Proofs.Try.f6.results.toList K) (env0 Go.Proofs.Try.f6.ntmps [(Value.slice s0a s0l s0c), (Value.int .u32 x1)]) w := by kernel_rfl
theorem f6_ok (s0a : Option Addr) (s0l s0c : Nat) (x1 : Int) (w : World) (K : KT) (h : f6 s0a s0l s0c x1 w K) : CallL P 6 [(Value.slice s0a s0l s0c), (Value.int .u32 x1)] w K := calls_of_CS Go.Proofs.Try.func6 c6_eq (Eq.mp (f6_un s0a s0l s0c x1 w K) h)
/-! 27 candling.race.Order -/
noncomputable def c27 : Code := match Go.Proofs.Try.f27.body with
  | some c => c
  | none => .skip
noncomputable def rs27 : List ResultVar := Go.Proofs.Try.f27.results.toList
abbrev f27_kb (K : KT) : Exit → YT := bodyK P rs27 K
def f27 (s0a : Option Addr) (s0l s0c : Nat) (w : World) (K : KT) : Prop := CS P c27 none [2, 3, 4] [2, 3, 4] (f27_kb K) (env0 17 [(Value.slice s0a s0l s0c)]) w
abbrev f27_k0 (K : KT) : Exit → YT := kseq P (codeAt c27 [0]) (codeAt c27 [1]) none [2, 3, 4] [2, 3, 4] (f27_kb K)
abbrev f27_k1 (K : KT) : Exit → YT := kseq P (codeAt c27 [1, 0]) (codeAt c27 [1, 1]) none [2, 3, 4] [2, 3, 4] (f27_kb K)
abbrev f27_k2 (K : KT) : Exit → YT := kseq P (codeAt c27 [1, 1, 0]) (codeAt c27 [1, 1, 1]) none [2, 3, 4] [2, 3, 4] (f27_kb K)
theorem f27_eq (s0a : Option Addr) (s0l s0c : Nat) (w : World) (K : KT) : f27 s0a s0l s0c w K = (CallL P 47 [(Value.slice s0a s0l s0c)] w (fun r1 w2 => ∃ cs3 : Array Value, ∃ x4 : Int, r1 = (Value.tuple [(Value.agg cs3), (Value.int .i64 x4)].toArray) ∧ NewC (zcells P 89) 89 w2 (fun n5 w6 => StA 3 (Addr.mk n5 0 none) cs3 w6 (fun w7 => ∃ (s8a : Option Addr) (s8l s8c : Nat), w7.drew.cell? (Addr.mk n5 0 none) = some (Value.slice s8a s8l s8c) ∧ ∃ (s9a : Option Addr) (s9l s9c : Nat), w7.drew.cell? ((Addr.mk n5 0 none).add 1) = some (Value.slice s9a s9l s9c) ∧ K (Value.tuple [(Value.slice s8a s8l s8c), (Value.slice s9a s9l s9c), (Value.int .i64 x4)].toArray) w7.drew)))) := by kernel_rfl
theorem c27_eq : Go.Proofs.Try.f27.body = some c27 := by kernel_rfl
theorem f27_un (s0a : Option Addr) (s0l s0c : Nat) (w : World) (K : KT) : f27 s0a s0l s0c w K = CS P c27 none (resT Go.Proofs.Try.f27.results.toList) (resT Go.Proofs.Try.f27.results.toList) (bodyK P Go.Proofs.Try.f27.results.toList K) (env0 Go.Proofs.Try.f27.ntmps [(Value.slice s0a s0l s0c)]) w := by kernel_rfl
theorem f27_ok (s0a : Option Addr) (s0l s0c : Nat) (w : World) (K : KT) (h : f27 s0a s0l s0c w K) : CallL P 27 [(Value.slice s0a s0l s0c)] w K := calls_of_CS Go.Proofs.Try.func27 c27_eq (Eq.mp (f27_un s0a s0l s0c w K) h)
/-! 19 candling.candlinglaw30.moved -/
noncomputable def c19 : Code := match Go.Proofs.Try.f19.body with
  | some c => c
  | none => .skip
noncomputable def rs19 : List ResultVar := Go.Proofs.Try.f19.results.toList
abbrev f19_kb (K : KT) : Exit → YT := bodyK P rs19 K
def f19 (cs0 : Array Value) (x1 x2 : Int) (cs3 : Array Value) (w : World) (K : KT) : Prop := CS P c19 none [8] [8] (f19_kb K) (env0 54 [(Value.agg cs0), (Value.int .u32 x1), (Value.int .u32 x2), (Value.agg cs3)]) w
abbrev f19_k0 (K : KT) : Exit → YT := kseq P (codeAt c19 [0]) (codeAt c19 [1]) none [8] [8] (f19_kb K)
abbrev f19_k1 (K : KT) : Exit → YT := kseq P (codeAt c19 [1, 0]) (codeAt c19 [1, 1]) none [8] [8] (f19_kb K)
abbrev f19_k2 (K : KT) : Exit → YT := kseq P (codeAt c19 [1, 0, 0]) (codeAt c19 [1, 0, 1]) none [8, 4, 7, 2, 1] [8] (f19_k1 K)
def f19_s0 (b12 : Bool) (a13 a14 a15 : Addr) (x16 x17 : Int) (w : World) (K : KT) : Prop := Join (fun e w => CS P (codeAt c19 [1, 0, 1]) none [8, 4, 7, 2, 1] [8] (f19_k1 K) e w) (Env.mk 54 [(16, (Value.bool b12)), (8, (Value.pointer (some a13))), (4, (Value.pointer (some a14))), (7, (Value.pointer (some a15))), (2, (Value.int .u32 x16)), (1, (Value.int .u32 x17))] []) w
def f19_s1 (a21 a22 a23 : Addr) (x24 x25 : Int) (w : World) (K : KT) : Prop := Join (fun e w => CS P (codeAt c19 [1, 1]) none [8] [8] (f19_kb K) e w) (Env.mk 54 [(8, (Value.pointer (some a21))), (4, (Value.pointer (some a22))), (7, (Value.pointer (some a23))), (2, (Value.int .u32 x24)), (1, (Value.int .u32 x25))] []) w
abbrev f19_k3 (K : KT) : Exit → YT := kseq P (codeAt c19 [1, 1, 0]) (codeAt c19 [1, 1, 1]) none [8] [8] (f19_kb K)
abbrev f19_k4 (K : KT) : Exit → YT := kseq P (codeAt c19 [1, 1, 0, 0]) (codeAt c19 [1, 1, 0, 1]) none [8, 4] [8] (f19_k3 K)
abbrev f19_k5 (K : KT) : Exit → YT := kblock 0 (f19_k3 K)
abbrev f19_k6 (K : KT) : Exit → YT := kseq P (codeAt c19 [1, 1, 0, 1, 0, 0]) (codeAt c19 [1, 1, 0, 1, 0, 1]) none [8, 4] [8, 4] (f19_k5 K)
abbrev f19_k7 (K : KT) : Exit → YT := kseq P (codeAt c19 [1, 1, 0, 1, 0, 0, 0]) (codeAt c19 [1, 1, 0, 1, 0, 0, 1]) none [29, 8, 4, 7, 2, 1, 23] [8, 4] (f19_k6 K)
def f19_s2 (b27 : Bool) (a28 a29 a30 : Addr) (x31 x32 x33 : Int) (w : World) (K : KT) : Prop := Join (fun e w => CS P (codeAt c19 [1, 1, 0, 1, 0, 1]) none [8, 4] [8, 4] (f19_k5 K) e w) (Env.mk 54 [(29, (Value.bool b27)), (8, (Value.pointer (some a28))), (4, (Value.pointer (some a29))), (7, (Value.pointer (some a30))), (2, (Value.int .u32 x31)), (1, (Value.int .u32 x32)), (23, (Value.int .i64 x33))] []) w
abbrev f19_k8 (K : KT) : Exit → YT := kseq P (codeAt c19 [1, 1, 0, 1, 0, 1, 0, 0]) (codeAt c19 [1, 1, 0, 1, 0, 1, 0, 1]) none [8, 4] [8, 4] (f19_k5 K)
def f19_s3 (b36 : Bool) (a37 a38 a39 : Addr) (w : World) (K : KT) : Prop := Join (fun e w => CS P (codeAt c19 [1, 1, 0, 1, 0, 1, 0, 1]) none [8, 4] [8, 4] (f19_k5 K) e w) (Env.mk 54 [(39, (Value.bool b36)), (8, (Value.pointer (some a37))), (4, (Value.pointer (some a38))), (7, (Value.pointer (some a39)))] []) w
def f19_s4 (a43 a44 : Addr) (w : World) (K : KT) : Prop := Join (fun e w => CS P (codeAt c19 [1, 1, 1]) none [8] [8] (f19_kb K) e w) (Env.mk 54 [(8, (Value.pointer (some a43))), (4, (Value.pointer (some a44)))] []) w
abbrev f19_k9 (K : KT) : Exit → YT := kseq P (codeAt c19 [1, 1, 1, 0]) (codeAt c19 [1, 1, 1, 1]) none [8] [8] (f19_kb K)
theorem f19_s4_eq (a43 a44 : Addr) (w : World) (K : KT) : f19_s4 a43 a44 w K = (LdA 6 a44 w (fun cs45 => StA 6 a43 cs45 w (fun w46 => LdA 6 a43 w46 (fun cs47 => K (Value.agg cs47) w46)))) := by kernel_rfl
theorem f19_s3_eq (b36 : Bool) (a37 a38 a39 : Addr) (w : World) (K : KT) : f19_s3 b36 a37 a38 a39 w K = (BIf b36 (∃ x40 : Int, w.cell? (a38.add 5) = some (Value.int .i64 x40) ∧ 0 ≤ (x40 : Int) ∧ (x40 : Int) < (8 : Nat) ∧ ∃ x41 : Int, w.cell? (a39.add (Int.toNat x40 * 1)) = some (Value.int .i64 x41) ∧ St1 (a38.add 5) (Value.int .i64 x41) w (fun w42 => f19_s4 a37 a38 w42 K)) (f19_s4 a37 a38 w K)) := by kernel_rfl
abbrev f19_k10 (K : KT) : Exit → YT := kseq P (codeAt c19 [1, 1, 0, 1, 0, 1, 1, 0]) (codeAt c19 [1, 1, 0, 1, 0, 1, 1, 1]) none [8, 4] [8, 4] (f19_k5 K)
abbrev f19_k11 (K : KT) : Exit → YT := kseq P (codeAt c19 [1, 1, 0, 1, 0, 1, 1, 0, 0]) (codeAt c19 [1, 1, 0, 1, 0, 1, 1, 0, 1]) none [45, 8, 4, 2, 1] [8, 4] (f19_k10 K)
def f19_s5 (b48 : Bool) (a49 a50 : Addr) (x51 x52 : Int) (w : World) (K : KT) : Prop := Join (fun e w => CS P (codeAt c19 [1, 1, 0, 1, 0, 1, 1, 1]) none [8, 4] [8, 4] (f19_k5 K) e w) (Env.mk 54 [(45, (Value.bool b48)), (8, (Value.pointer (some a49))), (4, (Value.pointer (some a50))), (2, (Value.int .u32 x51)), (1, (Value.int .u32 x52))] []) w
theorem f19_s5_eq (b48 : Bool) (a49 a50 : Addr) (x51 x52 : Int) (w : World) (K : KT) : f19_s5 b48 a49 a50 x51 x52 w K = (BIf b48 (∃ x53 : Int, w.cell? (a50.add 3) = some (Value.int .u32 x53) ∧ St1 (a50.add 3) (Value.int .u32 (IntKind.wrap .u32 ((x53 : Int) + x51))) w (fun w54 => f19_s4 a49 a50 w54 K)) (∃ x55 : Int, w.cell? (a50.add 3) = some (Value.int .u32 x55) ∧ St1 (a50.add 3) (Value.int .u32 (IntKind.wrap .u32 ((x55 : Int) + x52))) w (fun w56 => f19_s4 a49 a50 w56 K))) := by kernel_rfl
theorem f19_s2_eq (b27 : Bool) (a28 a29 a30 : Addr) (x31 x32 x33 : Int) (w : World) (K : KT) : f19_s2 b27 a28 a29 a30 x31 x32 x33 w K = (BIf b27 (∃ x34 : Int, w.cell? (a29.add 5) = some (Value.int .i64 x34) ∧ BIf (decide ((x34 : Int) ≥ 0)) (∃ x35 : Int, w.cell? (a29.add 5) = some (Value.int .i64 x35) ∧ f19_s3 (decide ((x35 : Int) < 8)) a28 a29 a30 w K) (f19_s3 false a28 a29 a30 w K)) (BIf ((x33 : Int) == 14) (f19_s5 true a28 a29 x31 x32 w K) (f19_s5 ((x33 : Int) == 15) a28 a29 x31 x32 w K))) := by kernel_rfl
theorem f19_s1_eq (a21 a22 a23 : Addr) (x24 x25 : Int) (w : World) (K : KT) : f19_s1 a21 a22 a23 x24 x25 w K = (∃ x26 : Int, w.cell? a22 = some (Value.int .i64 x26) ∧ BIf ((x26 : Int) == 11) (f19_s2 true a21 a22 a23 x24 x25 x26 w K) (f19_s2 ((x26 : Int) == 13) a21 a22 a23 x24 x25 x26 w K)) := by kernel_rfl
theorem f19_s0_eq (b12 : Bool) (a13 a14 a15 : Addr) (x16 x17 : Int) (w : World) (K : KT) : f19_s0 b12 a13 a14 a15 x16 x17 w K = (BIf b12 (∃ x18 : Int, w.cell? (a14.add 1) = some (Value.int .i64 x18) ∧ 0 ≤ (x18 : Int) ∧ (x18 : Int) < (8 : Nat) ∧ ∃ x19 : Int, w.cell? (a15.add (Int.toNat x18 * 1)) = some (Value.int .i64 x19) ∧ St1 (a14.add 1) (Value.int .i64 x19) w (fun w20 => f19_s1 a13 a14 a15 x16 x17 w20 K)) (f19_s1 a13 a14 a15 x16 x17 w K)) := by kernel_rfl
theorem f19_eq (cs0 : Array Value) (x1 x2 : Int) (cs3 : Array Value) (w : World) (K : KT) : f19 cs0 x1 x2 cs3 w K = (NewC cs0 35 w (fun n4 w5 => NewC cs3 40 w5 (fun n6 w7 => NewC (zcells P 35) 35 w7 (fun n8 w9 => ∃ x10 : Int, w9.cell? ((Addr.mk n4 0 none).add 1) = some (Value.int .i64 x10) ∧ BIf (decide ((x10 : Int) ≥ 0)) (∃ x11 : Int, w9.cell? ((Addr.mk n4 0 none).add 1) = some (Value.int .i64 x11) ∧ f19_s0 (decide ((x11 : Int) < 8)) (Addr.mk n8 0 none) (Addr.mk n4 0 none) (Addr.mk n6 0 none) x2 x1 w9 K) (f19_s0 false (Addr.mk n8 0 none) (Addr.mk n4 0 none) (Addr.mk n6 0 none) x2 x1 w9 K))))) := by kernel_rfl
theorem c19_eq : Go.Proofs.Try.f19.body = some c19 := by kernel_rfl
theorem f19_un (cs0 : Array Value) (x1 x2 : Int) (cs3 : Array Value) (w : World) (K : KT) : f19 cs0 x1 x2 cs3 w K = CS P c19 none (resT Go.Proofs.Try.f19.results.toList) (resT Go.Proofs.Try.f19.results.toList) (bodyK P Go.Proofs.Try.f19.results.toList K) (env0 Go.Proofs.Try.f19.ntmps [(Value.agg cs0), (Value.int .u32 x1), (Value.int .u32 x2), (Value.agg cs3)]) w := by kernel_rfl
theorem f19_ok (cs0 : Array Value) (x1 x2 : Int) (cs3 : Array Value) (w : World) (K : KT) (h : f19 cs0 x1 x2 cs3 w K) : CallL P 19 [(Value.agg cs0), (Value.int .u32 x1), (Value.int .u32 x2), (Value.agg cs3)] w K := calls_of_CS Go.Proofs.Try.func19 c19_eq (Eq.mp (f19_un cs0 x1 x2 cs3 w K) h)
end Go.Fx.Try
namespace Go.Fx.Mo
section assoc
variable {K V : Type} [DecidableEq K]
theorem look_mem {m : List (K × V)} {k : K} {v : V} (h : look m k = some v) : (k, v) ∈ m := by
  unfold look at h
  cases hf : m.find? fun p => p.1 == k with
  | none => rw [hf] at h; cases h
  | some p =>
    rw [hf] at h
    simp at h
    have h1 := List.find?_some hf
    have h2 := List.mem_of_find?_eq_some hf
    simp at h1
    subst h1; subst h
    exact h2
theorem put_mem {m : List (K × V)} {k : K} {v : V} {q : K × V} (h : q ∈ put m k v) : q ∈ m ∨ q.2 = v := by
  unfold put at h
  split at h
  · obtain ⟨p, hp, rfl⟩ := List.mem_map.1 h
    split
    · exact .inr rfl
    · exact .inl hp
  · rcases List.mem_append.1 h with h | h
    · exact .inl h
    · simp at h; subst h; exact .inr rfl
theorem put_keys (m : List (K × V)) (k : K) (v : V) : (put m k v).map (·.1) = if (look m k).isSome then m.map (·.1) else m.map (·.1) ++ [k] := by
  unfold put
  cases h : look m k with
  | none => simp
  | some u =>
    simp only [Option.isSome_some, if_true, List.map_map]
    apply List.map_congr_left
    intro p _
    simp only [Function.comp]
    split <;> rfl
theorem put_nodup {m : List (K × V)} (h : (m.map (·.1)).Nodup) (k : K) (v : V) : ((put m k v).map (·.1)).Nodup := by
  rw [put_keys]
  split
  · exact h
  · rename_i hn
    have hn : look m k = none := by simpa using hn
    refine List.nodup_append.2 ⟨h, by simp, fun a ha b hb => ?_⟩
    simp at hb
    subst hb
    rintro rfl
    obtain ⟨p, hp, he⟩ := List.mem_map.1 ha
    exact look_none.1 hn p hp he
theorem putAll_look : ∀ (u m : List (K × V)), (u.map (·.1)).Nodup → ∀ k, look (putAll m u) k = (look u k).or (look m k)
  | [], m, _, k => by simp [putAll, look]
  | p :: r, m, h, k => by
    simp only [List.map_cons, List.nodup_cons] at h
    rw [putAll, putAll_look r _ h.2 k, put_look]
    have e : look (p :: r) k = if p.1 = k then some p.2 else look r k := by
      unfold look
      rw [List.find?_cons]
      by_cases hk : p.1 = k
      · simp [hk]
      · have : (p.1 == k) = false := by simpa using hk
        rw [this, if_neg hk]
    rw [e]
    by_cases hk : k = p.1
    · subst hk
      have : look r p.1 = none := look_none.2 fun q hq he => h.1 (List.mem_map.2 ⟨q, hq, he⟩)
      simp [this]
    · rw [if_neg hk, if_neg (Ne.symm hk)]
theorem putAll_mem : ∀ (u m : List (K × V)) {q : K × V}, q ∈ putAll m u → q ∈ m ∨ ∃ p ∈ u, q.2 = p.2
  | [], m, q, h => .inl h
  | p :: r, m, q, h => by
    rcases putAll_mem r _ h with h | ⟨p', hp, he⟩
    · rcases put_mem h with h | h
      · exact .inl h
      · exact .inr ⟨p, by simp, h⟩
    · exact .inr ⟨p', by simp [hp], he⟩
end assoc
/-- A clock of eight numbers up to B. -/
def CB (c : Clk) (B : Int) : Prop := c.length = 8 ∧ ∀ t, 0 ≤ at0 c t ∧ at0 c t ≤ B
theorem CB.mono {c : Clk} {B B' : Int} (h : CB c B) (hb : B ≤ B') : CB c B' := ⟨h.1, fun t => ⟨(h.2 t).1, by have := (h.2 t).2; omega⟩⟩
theorem zeroC_at (t : Int) : at0 zeroC t = 0 := by
  unfold at0 zeroC
  rw [List.getD_eq_getElem?_getD, List.getElem?_replicate]
  split <;> rfl
theorem CB.zero {B : Int} (h : 0 ≤ B) : CB zeroC B := ⟨rfl, fun t => by rw [zeroC_at]; omega⟩
theorem joinC_at {c d : Clk} (hc : c.length = 8) (hd : d.length = 8) (t : Int) : at0 (joinC c d) t = if at0 d t > at0 c t then at0 d t else at0 c t := by
  unfold at0 joinC
  simp only [List.getD_eq_getElem?_getD, List.getElem?_zipWith]
  by_cases h : t.toNat < 8
  · rw [List.getElem?_eq_getElem (by omega), List.getElem?_eq_getElem (by omega)]; rfl
  · rw [List.getElem?_eq_none (by omega), List.getElem?_eq_none (by omega)]; simp
theorem CB.join {c d : Clk} {B : Int} (hc : CB c B) (hd : CB d B) : CB (joinC c d) B := by
  refine ⟨by simp [joinC, hc.1, hd.1], fun t => ?_⟩
  rw [joinC_at hc.1 hd.1]
  have h1 := hc.2 t
  have h2 := hd.2 t
  split <;> omega
theorem join_l {c d : Clk} (hc : c.length = 8) (hd : d.length = 8) (t : Int) : at0 c t ≤ at0 (joinC c d) t := by rw [joinC_at hc hd]; split <;> omega
theorem join_r {c d : Clk} (hc : c.length = 8) (hd : d.length = 8) (t : Int) : at0 d t ≤ at0 (joinC c d) t := by rw [joinC_at hc hd]; split <;> omega
theorem set_at {c : Clk} {i : Nat} (hi : i < c.length) (x t : Int) : at0 (c.set i x) t = if t.toNat = i then x else at0 c t := by
  unfold at0
  simp only [List.getD_eq_getElem?_getD, List.getElem?_set]
  by_cases h : i = t.toNat
  · simp [h, h ▸ hi]
  · simp [h, Ne.symm h]
/-- The threads' clocks are up to B. -/
structure ThB (T : Th) (B : Int) : Prop where
  clocks : T.clocks.length = 8
  each : ∀ c ∈ T.clocks, CB c B
  objs : ∀ q ∈ T.objs, CB q.2 B
  pos : 0 ≤ B
theorem ThB.mono {T : Th} {B B' : Int} (h : ThB T B) (hb : B ≤ B') : ThB T B' := ⟨h.clocks, fun c hc => (h.each c hc).mono hb, fun q hq => (h.objs q hq).mono hb, by have := h.pos; omega⟩
theorem ThB.getC {T : Th} {B : Int} (h : ThB T B) (i : Int) : CB (getC T.clocks i) B := by
  unfold Mo.getC
  rw [List.getD_eq_getElem?_getD]
  cases hx : T.clocks[i.toNat]? with
  | none => exact CB.zero h.pos
  | some c => exact h.each c (List.mem_of_getElem? hx)
/-- How a plan that began as p0 has grown. -/
structure PM (T : Th) (e : Ev) (p0 p : Pl) (B : Int) : Prop where
  own : CB p.own B
  objs : ∀ q ∈ p.objs, CB q.2 B
  nd : (p.objs.map (·.1)).Nodup
  grow : ∀ t, at0 p0.own t ≤ at0 p.own t
  ob : ∀ k t, at0 (clockOf T p0 k) t ≤ at0 (clockOf T p k) t
  tk : 0 ≤ p.tk ∧ p.tk ≤ at0 p.own e.th
theorem clockOf_CB {T : Th} {p : Pl} {B : Int} (hT : ThB T B) (hp : ∀ q ∈ p.objs, CB q.2 B) (k : Ob) : CB (clockOf T p k) B := by
  unfold clockOf
  split
  · rename_i c hc; exact hp _ (look_mem hc)
  · cases hx : look T.objs k with
    | none => exact CB.zero hT.pos
    | some c => exact hT.objs _ (look_mem hx)
theorem PM.same {T : Th} {e : Ev} {p0 p q : Pl} {B : Int} (h : PM T e p0 p B) (h1 : q.own = p.own) (h2 : q.objs = p.objs) (h3 : q.tk = p.tk) : PM T e p0 q B :=
  ⟨by rw [h1]; exact h.own, by rw [h2]; exact h.objs, by rw [h2]; exact h.nd, by rw [h1]; exact h.grow, fun k t => by have := h.ob k t; unfold clockOf at this ⊢; rw [h2]; exact this, by rw [h1, h3]; exact h.tk⟩
theorem PM.mono {T : Th} {e : Ev} {p0 p : Pl} {B B' : Int} (h : PM T e p0 p B) (hb : B ≤ B') : PM T e p0 p B' :=
  ⟨h.own.mono hb, fun q hq => (h.objs q hq).mono hb, h.nd, h.grow, h.ob, h.tk⟩
theorem tick_own {e : Ev} {p : Pl} {o : Ord} {B : Int} (h : CB p.own B) (ht : 0 ≤ e.th ∧ e.th < 8) (hB : B < 4611686018427387904) (t : Int) : at0 (tick e p o).own t = if t.toNat = e.th.toNat then at0 p.own e.th + 1 else at0 p.own t := by
  have h1 := h.2 e.th
  show at0 (p.own.set e.th.toNat (w64 (at0 p.own e.th + 1))) t = _
  rw [set_at (by rw [h.1]; omega), w64_small (by omega) (by omega)]
theorem at0_nat {c : Clk} {t u : Int} (h : t.toNat = u.toNat) : at0 c t = at0 c u := by unfold at0; rw [h]
theorem tick_CB {e : Ev} {p : Pl} {o : Ord} {B : Int} (h : CB p.own B) (ht : 0 ≤ e.th ∧ e.th < 8) (hB : B < 4611686018427387904) : CB (tick e p o).own (B + 1) := by
  refine ⟨by show (p.own.set _ _).length = 8; rw [List.length_set, h.1], fun t => ?_⟩
  rw [tick_own h ht hB]
  have h1 := h.2 e.th
  have h2 := h.2 t
  split <;> omega
theorem tick_grow {e : Ev} {p : Pl} {o : Ord} {B : Int} (h : CB p.own B) (ht : 0 ≤ e.th ∧ e.th < 8) (hB : B < 4611686018427387904) (t : Int) : at0 p.own t ≤ at0 (tick e p o).own t := by
  rw [tick_own h ht hB]
  split
  · rename_i he; rw [at0_nat he]; omega
  · omega
theorem PM.tick {T : Th} {e : Ev} {p0 p : Pl} {B : Int} (h : PM T e p0 p B) (ht : 0 ≤ e.th ∧ e.th < 8) (hB : B < 4611686018427387904) (o : Ord) : PM T e p0 (tick e p o) (B + 1) := by
  refine ⟨tick_CB h.own ht hB, fun q hq => (h.objs q hq).mono (by omega), h.nd, fun t => Int.le_trans (h.grow t) (tick_grow h.own ht hB t), h.ob, ?_⟩
  have h1 := h.own.2 e.th
  have h2 := tick_own (o := o) h.own ht hB e.th
  rw [if_pos rfl] at h2
  rw [h2]
  show 0 ≤ (if p.tk = 0 then at0 (Mo.tick e p o).own e.th else p.tk) ∧ (if p.tk = 0 then at0 (Mo.tick e p o).own e.th else p.tk) ≤ _
  rw [h2]
  have := h.tk
  split <;> omega
theorem number_objs (T : Th) (p : Pl) (x : Ob) : (number T p x).2.own = p.own ∧ (number T p x).2.objs = p.objs ∧ (number T p x).2.tk = p.tk := by
  unfold number
  split
  · exact ⟨rfl, rfl, rfl⟩
  · split <;> exact ⟨rfl, rfl, rfl⟩
theorem PM.number {T : Th} {e : Ev} {p0 p : Pl} {B : Int} (h : PM T e p0 p B) (x : Ob) : PM T e p0 (number T p x).2 B :=
  have n := number_objs T p x
  h.same n.1 n.2.1 n.2.2
theorem PM.acquire {T : Th} {e : Ev} {p0 p : Pl} {B : Int} (hT : ThB T B) (h : PM T e p0 p B) (x : Ob) : PM T e p0 (acquire T p x) B :=
  have hc := clockOf_CB hT h.objs x
  ⟨h.own.join hc, h.objs, h.nd, fun t => Int.le_trans (h.grow t) (join_l h.own.1 hc.1 t), h.ob, h.tk.1, Int.le_trans h.tk.2 (join_l h.own.1 hc.1 e.th)⟩
theorem release_clock (T : Th) (p : Pl) (x k : Ob) : clockOf T (release T p x) k = if k = x then joinC (clockOf T p x) p.own else clockOf T p k := by
  show (match look (put p.objs x (joinC (clockOf T p x) p.own)) k with | some c => c | none => (look T.objs k).getD zeroC) = _
  rw [put_look]
  by_cases hk : k = x
  · simp [hk]
  · simp only [hk, if_false]; rfl
theorem PM.release {T : Th} {e : Ev} {p0 p : Pl} {B : Int} (hT : ThB T B) (h : PM T e p0 p B) (x : Ob) : PM T e p0 (release T p x) B := by
  have hc := clockOf_CB hT h.objs x
  refine ⟨h.own, fun q hq => ?_, put_nodup h.nd _ _, h.grow, fun k t => ?_, h.tk⟩
  · rcases put_mem hq with hq | hq
    · exact h.objs q hq
    · rw [hq]; exact hc.join h.own
  · rw [release_clock]
    split
    · rename_i hk; subst hk; exact Int.le_trans (h.ob k t) (join_l hc.1 h.own.1 t)
    · exact h.ob k t
theorem PM.atomicL {T : Th} {e : Ev} {p0 : Pl} (ht : 0 ≤ e.th ∧ e.th < 8) : ∀ (l : List Int) (x : Ob) (p : Pl) (B : Int), ThB T B → PM T e p0 p B → B + l.length < 4611686018427387904 → PM T e p0 (atomicL T e l x p) (B + l.length)
  | [], _, p, B, _, h, _ => h.mono (by simp)
  | a :: r, last, p, B, hT, h, hB => by
    simp only [List.length_cons] at hB ⊢
    unfold Mo.atomicL
    simp only
    split
    · exact (PM.atomicL ht r last p B hT h (by omega)).mono (by omega)
    · refine (PM.atomicL ht r _ _ (B + 1) (hT.mono (by omega)) ?_ (by omega)).mono (by omega)
      exact (((h.number _).acquire hT _).tick ht (by omega) _).release (hT.mono (by omega)) _
theorem refused_th {T : Th} {e : Ev} (h : refused T e = false) : 0 ≤ e.th ∧ e.th < 8 := by
  unfold refused at h
  simp only [Bool.or_eq_false_iff, decide_eq_false_iff_not] at h
  omega
theorem refused_at {T : Th} {e : Ev} (h : refused T e = false) (hk : e.kind = 4) : e.n ≤ 16 := by
  unfold refused at h
  have : (accesses e).2.1 = true := by unfold accesses; rw [if_neg (by omega), if_neg (by omega), if_pos hk]
  rw [this] at h
  simp only [Bool.or_eq_false_iff, Bool.true_and, decide_eq_false_iff_not] at h
  omega
theorem PM.act {T : Th} {e : Ev} {p0 p : Pl} {B : Int} (hr : refused T e = false) (hT : ThB T B) (h : PM T e p0 p B) (hB : B + 16 < 4611686018427387904) : PM T e p0 (act T e p) (B + 16) := by
  have ht := refused_th hr
  unfold Mo.act
  split
  · rename_i hk
    have := refused_at hr hk
    have hl : (bytes e.a e.n).length = e.n.toNat := by simp [bytes]
    exact (PM.atomicL ht _ _ _ B hT h (by rw [hl]; omega)).mono (by rw [hl]; omega)
  · split
    · unfold spawn
      split
      · exact PM.mono (B := B) (h.same rfl rfl rfl) (by omega)
      · exact PM.mono (B := B + 1) ((h.tick ht (by omega) ⟨5, 0, e.n, 0⟩).same rfl rfl rfl) (by omega)
    · split
      · unfold Mo.join
        split
        · exact PM.mono (B := B) (h.same rfl rfl rfl) (by omega)
        · have hc := hT.getC e.n
          have h' : PM T e p0 { p with own := joinC p.own (getC T.clocks e.n) } B :=
            ⟨h.own.join hc, h.objs, h.nd, fun t => Int.le_trans (h.grow t) (join_l h.own.1 hc.1 t), h.ob, h.tk.1, Int.le_trans h.tk.2 (join_l h.own.1 hc.1 e.th)⟩
          exact PM.mono (B := B + 1) ((h'.tick ht (by omega) ⟨6, 0, e.n, 0⟩).same rfl rfl rfl) (by omega)
      · split
        · exact PM.mono (B := B + 1) (((h.number _).acquire hT _).tick ht (by omega) _) (by omega)
        · split
          · exact PM.mono (B := B + 1) (((h.number _).tick ht (by omega) _).release (hT.mono (by omega)) _) (by omega)
          · exact PM.mono (B := B + 1) (h.tick ht (by omega) _) (by omega)
theorem pl0_PM {T : Th} {e : Ev} {B : Int} (hT : ThB T B) : PM T e (pl0 T e) (pl0 T e) B :=
  ⟨hT.getC e.th, by simp [pl0], by simp [pl0], fun _ => Int.le_refl _, fun _ _ => Int.le_refl _, Int.le_refl _, ((hT.getC e.th).2 e.th).1⟩
theorem plan_act {T : Th} {e : Ev} {p : Pl} (h : plan T e = some p) : refused T e = false ∧ p = act T e (pl0 T e) ∧ p.bad = false := by
  unfold plan at h
  split at h
  · cases h
  · rename_i hr
    split at h
    · cases h
    · rename_i hb
      cases h
      exact ⟨by simpa using hr, rfl, by simpa using hb⟩
theorem plan_PM {T : Th} {e : Ev} {p : Pl} {B : Int} (h : plan T e = some p) (hT : ThB T B) (hB : B + 16 < 4611686018427387904) : PM T e (pl0 T e) p (B + 16) := by
  obtain ⟨hr, rfl, _⟩ := plan_act h
  exact PM.act hr hT (pl0_PM hT) hB
theorem pl0_clock (T : Th) (e : Ev) (k : Ob) : clockOf T (pl0 T e) k = (look T.objs k).getD zeroC := rfl
/-- What a thread that locks a mutex has behind it. -/
theorem lock_own {T : Th} {e : Ev} {p : Pl} {B : Int} (h : plan T e = some p) (hT : ThB T B) (hB : B + 16 < 4611686018427387904) (hk : e.kind = 14) (t : Int) : at0 ((look T.objs (false, e.a)).getD zeroC) t ≤ at0 p.own t := by
  obtain ⟨hr, rfl, _⟩ := plan_act h
  have ht := refused_th hr
  unfold act
  rw [if_neg (by omega), if_neg (by omega), if_neg (by omega), if_pos hk]
  have h0 := (pl0_PM (e := e) hT).number (false, e.a)
  have hc := clockOf_CB hT h0.objs (false, e.a)
  have e1 : clockOf T (number T (pl0 T e) (false, e.a)).2 (false, e.a) = (look T.objs (false, e.a)).getD zeroC := by
    rw [← pl0_clock T e]; unfold clockOf; rw [(number_objs T (pl0 T e) (false, e.a)).2.1]
  refine Int.le_trans ?_ (tick_grow (h0.acquire hT (false, e.a)).own ht (by omega) t)
  rw [← e1]
  exact join_r h0.own.1 hc.1 t
/-- What a mutex has behind an unlock of it. -/
theorem unlock_clock {T : Th} {e : Ev} {p : Pl} {B : Int} (h : plan T e = some p) (hT : ThB T B) (hB : B + 16 < 4611686018427387904) (hk : e.kind = 15) (t : Int) : at0 p.own t ≤ at0 (clockOf T p (false, e.a)) t := by
  obtain ⟨hr, rfl, _⟩ := plan_act h
  have ht := refused_th hr
  unfold act
  rw [if_neg (by omega), if_neg (by omega), if_neg (by omega), if_neg (by omega), if_pos hk]
  have h0 := ((pl0_PM (e := e) hT).number (false, e.a)).tick ht (by omega) ⟨2, 0, 0, (number T (pl0 T e) (false, e.a)).1⟩
  have hc := clockOf_CB (hT.mono (by omega : B ≤ B + 1)) h0.objs (false, e.a)
  show at0 (release T _ (false, e.a)).own t ≤ at0 (clockOf T (release T _ (false, e.a)) (false, e.a)) t
  rw [release_clock, if_pos rfl]
  exact join_r hc.1 h0.own.1 t
theorem perform_objs {T : Th} {e : Ev} {p : Pl} (hn : (p.objs.map (·.1)).Nodup) (k : Ob) : (look (perform T e p).objs k).getD zeroC = clockOf T p k := by
  have : (perform T e p).objs = putAll T.objs p.objs := by unfold perform; simp only; split <;> split <;> split <;> rfl
  rw [this, putAll_look _ _ hn]
  unfold clockOf
  cases look p.objs k <;> rfl
theorem perform_clocks (T : Th) (e : Ev) (p : Pl) : (perform T e p).clocks = if p.fork ≥ 0 then (T.clocks.set e.th.toNat p.own).set p.fork.toNat (joinC (getC (T.clocks.set e.th.toNat p.own) p.fork) p.own) else T.clocks.set e.th.toNat p.own := by
  unfold perform; simp only; split <;> split <;> split <;> rfl
theorem getC_set {l : List Clk} {i : Nat} (hi : i < l.length) (c : Clk) (u : Int) : getC (l.set i c) u = if u.toNat = i then c else getC l u := by
  unfold getC
  simp only [List.getD_eq_getElem?_getD, List.getElem?_set]
  by_cases h : i = u.toNat
  · simp [h, h ▸ hi]
  · simp [h, Ne.symm h]
theorem perform_ThB {T : Th} {e : Ev} {p : Pl} {B : Int} (h : plan T e = some p) (hT : ThB T B) (hB : B + 16 < 4611686018427387904) : ThB (perform T e p) (B + 16) := by
  have hp := plan_PM h hT hB
  have hT' := hT.mono (by omega : B ≤ B + 16)
  have hset : ∀ c ∈ T.clocks.set e.th.toNat p.own, CB c (B + 16) := fun c hc => by
    rcases List.mem_or_eq_of_mem_set hc with hc | rfl
    · exact hT'.each c hc
    · exact hp.own
  have hg : ∀ u, CB (getC (T.clocks.set e.th.toNat p.own) u) (B + 16) := fun u => by
    unfold getC
    rw [List.getD_eq_getElem?_getD]
    cases hx : (T.clocks.set e.th.toNat p.own)[u.toNat]? with
    | none => exact CB.zero hT'.pos
    | some c => exact hset c (List.mem_of_getElem? hx)
  refine ⟨?_, fun c hc => ?_, fun q hq => ?_, hT'.pos⟩
  · rw [perform_clocks]; split <;> simp [hT.clocks]
  · rw [perform_clocks] at hc
    split at hc
    · rcases List.mem_or_eq_of_mem_set hc with hc | rfl
      · exact hset c hc
      · exact (hg _).join hp.own
    · exact hset c hc
  · have : (perform T e p).objs = putAll T.objs p.objs := by unfold perform; simp only; split <;> split <;> split <;> rfl
    rw [this] at hq
    rcases putAll_mem _ _ hq with hq | ⟨r, hr, he⟩
    · exact hT'.objs q hq
    · rw [he]; exact hp.objs r hr
theorem perform_own {T : Th} {e : Ev} {p : Pl} {B : Int} (h : plan T e = some p) (hT : ThB T B) (hB : B + 16 < 4611686018427387904) (t : Int) : at0 p.own t ≤ at0 (getC (perform T e p).clocks e.th) t := by
  have hp := plan_PM h hT hB
  have ht := refused_th (plan_refused h)
  have hi : e.th.toNat < T.clocks.length := by rw [hT.clocks]; omega
  rw [perform_clocks]
  split
  · rw [getC_set (by rw [List.length_set, hT.clocks]; have := (plan_fork h).1; omega)]
    split
    · rename_i hf
      have : getC (T.clocks.set e.th.toNat p.own) p.fork = p.own := by rw [getC_set hi, if_pos hf.symm]
      rw [this]
      exact join_l hp.own.1 hp.own.1 t
    · rw [getC_set hi, if_pos rfl]; exact Int.le_refl _
  · rw [getC_set hi, if_pos rfl]; exact Int.le_refl _
theorem perform_grow {T : Th} {e : Ev} {p : Pl} {B : Int} (h : plan T e = some p) (hT : ThB T B) (hB : B + 16 < 4611686018427387904) (u t : Int) : at0 (getC T.clocks u) t ≤ at0 (getC (perform T e p).clocks u) t := by
  have hp := plan_PM h hT hB
  have ht := refused_th (plan_refused h)
  have hi : e.th.toNat < T.clocks.length := by rw [hT.clocks]; omega
  have h1 : ∀ u, at0 (getC T.clocks u) t ≤ at0 (getC (T.clocks.set e.th.toNat p.own) u) t := fun u => by
    rw [getC_set hi]
    split
    · rename_i hu
      have : getC T.clocks u = (pl0 T e).own := by unfold getC pl0; simp only [getC, hu]
      rw [this]
      exact hp.grow t
    · exact Int.le_refl _
  have hl : ∀ u, (getC (T.clocks.set e.th.toNat p.own) u).length = 8 := fun u => by
    rw [getC_set hi]
    split
    · exact hp.own.1
    · exact (hT.getC u).1
  rw [perform_clocks]
  split
  · rw [getC_set (by rw [List.length_set, hT.clocks]; have := (plan_fork h).1; omega)]
    split
    · rename_i hf
      have : getC (T.clocks.set e.th.toNat p.own) p.fork = getC (T.clocks.set e.th.toNat p.own) u := by unfold getC; rw [hf]
      rw [this]
      exact Int.le_trans (h1 u) (join_l (hl u) hp.own.1 t)
    · exact h1 u
  · exact h1 u
theorem begin_ThB : ThB begin' 0 := by
  refine ⟨rfl, fun c hc => ?_, by simp [begin'], by omega⟩
  have : c = zeroC := by simp [begin'] at hc; exact hc
  subst this
  exact CB.zero (by omega)
end Go.Fx.Mo
namespace Go.Fx.Mo
def guardL (b mu : Int) : List Ev → Int → Bool
  | [], _ => true
  | e :: r, holder =>
    if e.kind = 14 ∧ e.a = mu then (if holder ≥ 0 ∧ holder ≠ e.th then false else guardL b mu r e.th)
    else if e.kind = 15 ∧ e.a = mu then (if holder ≠ e.th then false else guardL b mu r (-1))
    else if (touches e b).1 = true ∧ holder ≠ e.th then false else guardL b mu r holder
theorem allIn_before {h : Hist} {b : Int} {y : Acc} {j : Nat} : ∀ {had : List Acc} {out : List Race}, (∀ x ∈ had, before h x j = true) → allIn h b y j had out = some out
  | [], out, _ => rfl
  | x :: r, out, hx => by
    unfold allIn
    rw [hx x (by simp), Bool.or_true, if_pos rfl]
    exact allIn_before fun q hq => hx q (by simp [hq])
theorem u64_nonneg (x : Int) : 0 ≤ IntKind.wrap .u64 x := by
  simp only [IntKind.wrap, IntKind.bits, IntKind.signed]
  simp
  omega
theorem access_touches {T : Th} {e : Ev} {i b : Int} {y : Acc} (hr : refused T e = false) (h : accessAt e i b = some y) : (touches e b).1 = true := by
  unfold accessAt at h
  split at h
  · cases h
  · rename_i hc
    simp only [Bool.or_eq_true, not_or, Bool.not_eq_true', Bool.not_eq_false, decide_eq_true_eq] at hc
    have hn := refused_n hr hc.1
    have h1 : w64u (w32 (b - e.a)) < w64u e.n := by omega
    have h2 := u64_nonneg (w32 (b - e.a))
    have h3 : e.n ≠ 0 := by
      intro h0
      rw [h0] at h1
      have : w64u 0 = 0 := by rfl
      unfold w64u at h1 this
      omega
    unfold touches
    simp only [hc.1, Bool.true_and, Bool.and_eq_true, decide_eq_true_eq]
    exact ⟨by omega, h1⟩
structure GI (mu : Int) (T : Th) (ev : List Made) (holder : Int) (had : List Acc) : Prop where
  lt : ∀ x ∈ had, x.ev.toNat < ev.length
  free : holder < 0 → ∀ x ∈ had, (ev.getD x.ev.toNat ⟨0, []⟩).first ≤ at0 ((look T.objs (false, mu)).getD zeroC) x.th
  held : 0 ≤ holder → ∀ x ∈ had, (ev.getD x.ev.toNat ⟨0, []⟩).first ≤ at0 (getC T.clocks holder) x.th
theorem getD_left {ev ext : List Made} {k : Nat} (h : k < ev.length) : (ev ++ ext).getD k ⟨0, []⟩ = ev.getD k ⟨0, []⟩ := by
  rw [List.getD_eq_getElem?_getD, List.getD_eq_getElem?_getD, List.getElem?_append_left h]
theorem pl0_own (T : Th) (e : Ev) : (pl0 T e).own = getC T.clocks e.th := rfl
theorem guard_allL (b mu : Int) : ∀ (l : List Ev) (j : Nat) (T : Th) (h0 h : Hist) (holder : Int) (had : List Acc) (out out' : List Race) (B : Int), runL l j T h0 = some h → h0.events.length = j → ThB T B → B + 16 * (l.length + 1) < 4611686018427387904 →
    guardL b mu l holder = true → (holder = -1 ∨ 0 ≤ holder) → GI mu T h0.events holder had → allL h b l j had out = some out' → out' = out
  | [], j, T, h0, h, holder, had, out, out', B, _, _, _, _, _, _, _, ha => by simp [allL] at ha; exact ha.symm
  | e :: r, j, T, h0, h, holder, had, out, out', B, hrun, hj, hT, hB, hg, hh, hI, ha => by
    simp only [List.length_cons] at hB
    unfold runL at hrun
    split at hrun
    · cases hrun
    rename_i p hp
    have hr := plan_refused hp
    have ht := refused_th hr
    have hB1 : B + 16 < 4611686018427387904 := by omega
    have hpm := plan_PM hp hT hB1
    have hT' := perform_ThB hp hT hB1
    obtain ⟨ext, hext, _⟩ := runL_ext r _ _ _ _ hrun
    have hev : h.events = (h0.events ++ [⟨p.tk, p.own⟩]) ++ ext := hext
    have hlen : (h0.events ++ [(⟨p.tk, p.own⟩ : Made)]).length = j + 1 := by simp [hj]
    have hfirst : ∀ k, k < j → (h0.events ++ [(⟨p.tk, p.own⟩ : Made)]).getD k ⟨0, []⟩ = h0.events.getD k ⟨0, []⟩ := fun k hk => getD_left (by omega)
    have hat : (h0.events ++ [(⟨p.tk, p.own⟩ : Made)]).getD j ⟨0, []⟩ = ⟨p.tk, p.own⟩ := by
      rw [List.getD_eq_getElem?_getD, List.getElem?_append_right (by omega), hj]; simp
    have hlt : ∀ x ∈ had, x.ev.toNat < j := fun x hx => by have := hI.lt x hx; omega
    have hrec : ∀ holder' had' , guardL b mu r holder' = true → (holder' = -1 ∨ 0 ≤ holder') → GI mu (perform T e p) (h0.events ++ [⟨p.tk, p.own⟩]) holder' had' → allL h b r (j + 1) had' out = some out' → out' = out :=
      fun holder' had' k1 k2 k3 k4 => guard_allL b mu r (j + 1) (perform T e p) _ h holder' had' out out' (B + 16) (by simpa using hrun) hlen hT' (by omega) k1 k2 k3 k4
    have hnone : (accesses e).2.2 = false → accessAt e j b = none := fun hn => by unfold accessAt; rw [hn]; rfl
    have hM : ∀ t, at0 ((look T.objs (false, mu)).getD zeroC) t ≤ at0 ((look (perform T e p).objs (false, mu)).getD zeroC) t := fun t => by
      rw [perform_objs hpm.nd]; exact hpm.ob (false, mu) t
    unfold guardL at hg
    split at hg
    · rename_i hk
      split at hg
      · cases hg
      rename_i hho
      unfold allL at ha
      rw [hnone (by unfold accesses; rw [if_neg (by omega), if_neg (by omega), if_neg (by omega)])] at ha
      refine hrec e.th had hg (.inr ht.1) ⟨fun x hx => by rw [hlen]; have := hlt x hx; omega, fun hn => by omega, fun _ x hx => ?_⟩ ha
      rw [hfirst _ (hlt x hx)]
      rcases hh with rfl | hh
      · refine Int.le_trans (hI.free (by omega) x hx) (Int.le_trans ?_ (perform_own hp hT hB1 x.th))
        rw [← hk.2]
        exact lock_own hp hT hB1 hk.1 x.th
      · have : holder = e.th := by omega
        subst this
        exact Int.le_trans (hI.held hh x hx) (perform_grow hp hT hB1 _ x.th)
    · split at hg
      · rename_i hk
        split at hg
        · cases hg
        rename_i hho
        have hho : holder = e.th := by omega
        subst hho
        unfold allL at ha
        rw [hnone (by unfold accesses; rw [if_neg (by omega), if_neg (by omega), if_neg (by omega)])] at ha
        refine hrec (-1) had hg (.inl rfl) ⟨fun x hx => by rw [hlen]; have := hlt x hx; omega, fun _ x hx => ?_, fun hn => by omega⟩ ha
        rw [hfirst _ (hlt x hx), perform_objs hpm.nd, ← hk.2]
        refine Int.le_trans (hI.held ht.1 x hx) (Int.le_trans ?_ (unlock_clock hp hT hB1 hk.1 x.th))
        rw [← pl0_own]
        exact hpm.grow x.th
      · split at hg
        · cases hg
        rename_i hto
        unfold allL at ha
        split at ha
        · refine hrec holder had hg hh ⟨fun x hx => by rw [hlen]; have := hlt x hx; omega, fun hn x hx => ?_, fun hn x hx => ?_⟩ ha
          · rw [hfirst _ (hlt x hx)]; exact Int.le_trans (hI.free hn x hx) (hM x.th)
          · rw [hfirst _ (hlt x hx)]; exact Int.le_trans (hI.held hn x hx) (perform_grow hp hT hB1 _ x.th)
        · rename_i y hy
          have hho : holder = e.th := by
            have := access_touches hr hy
            by_cases hx : holder = e.th
            · exact hx
            · exact absurd ⟨this, hx⟩ hto
          subst hho
          obtain ⟨hy1, hy2⟩ := accessAt_ev hy
          have hown : ∀ x ∈ had, (h0.events.getD x.ev.toNat ⟨0, []⟩).first ≤ at0 p.own x.th := fun x hx => by
            refine Int.le_trans (hI.held ht.1 x hx) ?_
            rw [← pl0_own]
            exact hpm.grow x.th
          rw [allIn_before (fun x hx => by
            have e1 : h.events.getD j ⟨0, []⟩ = ⟨p.tk, p.own⟩ := by rw [hev]; exact (getD_left (ev := h0.events ++ [⟨p.tk, p.own⟩]) (by rw [hlen]; omega)).trans hat
            have e2 : h.events.getD x.ev.toNat ⟨0, []⟩ = h0.events.getD x.ev.toNat ⟨0, []⟩ := by rw [hev]; exact (getD_left (ev := h0.events ++ [⟨p.tk, p.own⟩]) (by rw [hlen]; have := hlt x hx; omega)).trans (hfirst _ (hlt x hx))
            unfold before
            rw [e1, e2]
            simpa using hown x hx)] at ha
          refine hrec e.th (had ++ [y]) hg (.inr ht.1) ⟨fun x hx => ?_, fun hn => by omega, fun _ x hx => ?_⟩ ha
          · rw [hlen]
            rcases List.mem_append.1 hx with hx | hx
            · have := hlt x hx; omega
            · simp at hx; subst hx; rw [hy1]; simp
          · rcases List.mem_append.1 hx with hx | hx
            · rw [hfirst _ (hlt x hx)]; exact Int.le_trans (hown x hx) (perform_own hp hT hB1 x.th)
            · simp at hx
              subst hx
              rw [hy1, hy2, Int.toNat_natCast, hat]
              exact Int.le_trans hpm.tk.2 (perform_own hp hT hB1 _)
theorem all_guarded {l : List Ev} {b mu : Int} {x : List Race} (hl : l.length ≤ 20000) (hg : guardL b mu l (-1) = true) (h : all l b = .inl x) : x = [] := by
  unfold all at h
  split at h
  · cases h
  · rename_i hh hrun
    split at h
    · cases h
    · rename_i out ho
      simp only [Sum.inl.injEq] at h
      subst h
      unfold run at hrun
      rw [if_neg (by omega)] at hrun
      split at hrun
      · rename_i hz hrl
        cases hrun
        exact guard_allL b mu l 0 begin' ⟨[], [], []⟩ hh (-1) [] [] out 0 hrl rfl begin_ThB (by omega) hg (.inl rfl) ⟨by simp, by simp, by simp⟩ ho
      · cases hrun
end Go.Fx.Mo
namespace Go.Fx.Try
open Go Go.Fx Go.Fx.Mo
open Go.Proofs
variable {w0 w : World} {H : List (Nat × Obj)} {K : Value → World → Prop}
set_option maxRecDepth 20000
def GInv (w0 : World) (H : List (Nat × Obj)) (l : List Ev) (b mu : Int) (sa : Option Addr) (sc : Nat) (m : Nat) (ee : Env) (w : World) : Prop :=
  ∃ (i : Nat) (ho : Int), i ≤ l.length ∧ m = l.length - i ∧ ee = Env.mk 69 [(15, (Value.int .i64 i)), (7, (Value.int .i64 ho)), (2, (Value.int .u32 mu)), (1, (Value.int .u32 b)), (13, (Value.slice sa l.length sc)), (6, (Value.bool false)), (14, (Value.int .i64 l.length))] [] ∧
    guardL b mu (l.drop i) ho = guardL b mu l (-1) ∧ St w0 w H
theorem guarded_ok {l : List Ev} {ov : Value} (b mu : Int) (h : St w0 w H) (hrow : ∀ w', St w0 w' H → Row w' 6 ov l.length (evsCs l)) (hll : l.length ≤ 200) (hK : ∀ w', St w0 w' H → K (.bool (guardL b mu l (-1))) w') : CallL P 34 [ov, .int .u32 b, .int .u32 mu] w K := by
  obtain ⟨sa, sc, hov⟩ := (hrow w h).form
  rw [hov]
  refine f34_ok _ _ _ _ _ _ _ ?_
  rw [f34_eq, f34_s0_eq, f34_s1_eq, f34_s2_eq]
  refine ⟨l.length, fun wq _ => run_len_22 wq, ?_⟩
  rw [f34_s3_eq]
  refine ⟨GInv w0 H l b mu sa sc, ⟨l.length, 0, -1, by omega, rfl, rfl, rfl, h⟩, ?_⟩
  rintro m ee w3 ⟨i, ho, hi, rfl, rfl, hg, h3⟩
  show f34_lb4 _ _ _ _ _ _ _ _ _ _ _ _
  rw [f34_lb4_eq, f34_s5_eq, BIf_iff]
  constructor
  · intro hlt
    have hlt : i < l.length := by simpa using hlt
    rw [f34_s6_eq]
    obtain ⟨a, c, hac, hld⟩ := (hrow w3 h3).ldA hlt
    rw [hov] at hac
    obtain ⟨hsa, -⟩ : sa = some a ∧ sc = c := by simpa using hac
    subst hsa
    refine ⟨by omega, by omega, hld _ ?_⟩
    rw [evs_at hlt]
    obtain ⟨ze, hze, hzel⟩ := z35
    rw [hze]
    refine h3.newC fun n5 w5 hn5 h5 => h5.stA (k := 0) rfl (by simp [Evcs_len]) (by simp [hzel]) (Evcs_one _) fun w6 h6 => ?_
    have h6 : St w0 w6 ((n5, Cs (splice ze 0 (Evcs l[i])) 35) :: H) := h6
    rw [splice_whole (by rw [Evcs_len, hzel])] at h6
    rw [List.drop_eq_getElem_cons hlt] at hg
    generalize hx : l[i] = x at h6 hg ⊢
    have s12 : ∀ w7 ho', St w0 w7 ((n5, Cs (Evcs x) 35) :: H) → guardL b mu (l.drop (i + 1)) ho' = guardL b mu l (-1) →
        f34_s12 ho' mu b (some a) l.length sc false l.length i w7 K (fun e' w' => ∃ m, m < l.length - i ∧ GInv w0 H l b mu (some a) sc m e' w') := by
      intro w7 ho' h7 hg'
      rw [f34_s12_eq]
      refine ⟨l.length - (i + 1), by omega, i + 1, ho', by omega, rfl, ?_, hg', h7.tail hn5⟩
      rw [wrap_i64 (by omega) (by omega)]; rfl
    have no : ∀ w7, St w0 w7 ((n5, Cs (Evcs x) 35) :: H) → false = guardL b mu l (-1) → K (.bool false) w7 := fun w7 h7 he => by rw [he]; exact hK w7 (h7.tail hn5)
    rw [f34_s7_eq]
    refine h6.ldA (k := 0) (i := 0) rfl (by simp [Evcs_len]) ?_
    refine touches_ok h6 x b fun w7 h7 => ⟨_, _, _, rfl, ?_⟩
    have cth : w7.cell? ((Addr.mk n5 0 none).add 1) = some (Value.int .i64 x.th) := by rw [add_lit']; exact h7.cell (k := 0) rfl
    have ca : w7.cell? ((Addr.mk n5 0 none).add 3) = some (Value.int .u32 x.a) := by rw [add_lit']; exact h7.cell (k := 0) rfl
    have hg0 := hg
    conv at hg => lhs; unfold guardL
    have s9 : ∀ v, (v = true ↔ x.kind = 14 ∧ x.a = mu) → f34_s9 v ho mu b (some a) l.length sc l.length i false (Addr.mk n5 0 none) (touches x b).1 w7 K (fun e' w' => ∃ m, m < l.length - i ∧ GInv w0 H l b mu (some a) sc m e' w') := by
      intro v hv
      rw [f34_s9_eq, BIf_iff]
      refine ⟨fun h1 => ?_, fun h1 => ?_⟩
      · rw [if_pos (hv.1 h1)] at hg
        have s10 : ∀ u, (u = true ↔ ho ≥ 0 ∧ ho ≠ x.th) → f34_s10 u ho mu b (some a) l.length sc l.length i false (Addr.mk n5 0 none) w7 K (fun e' w' => ∃ m, m < l.length - i ∧ GInv w0 H l b mu (some a) sc m e' w') := by
          intro u hu
          rw [f34_s10_eq, BIf_iff]
          refine ⟨fun h2 => ?_, fun h2 => ?_⟩
          · rw [if_pos (hu.1 h2)] at hg
            exact no w7 h7 hg
          · rw [if_neg (fun hh => by rw [hu.2 hh] at h2; cases h2)] at hg
            rw [f34_s11_eq]
            exact ⟨x.th, cth, s12 w7 x.th h7 hg⟩
        rw [BIf_iff]
        exact ⟨fun h2 => ⟨x.th, cth, s10 _ ⟨fun h3 => ⟨by simpa using h2, by simpa using h3⟩, fun hh => by simpa using hh.2⟩⟩, fun h2 => s10 false ⟨fun hh => (by cases hh), fun hh => by simp at h2; omega⟩⟩
      · rw [if_neg (fun hh => by rw [hv.2 hh] at h1; cases h1)] at hg
        have s13 : ∀ u, (u = true ↔ x.kind = 15 ∧ x.a = mu) → f34_s13 u ho mu b (some a) l.length sc l.length i false (Addr.mk n5 0 none) (touches x b).1 w7 K (fun e' w' => ∃ m, m < l.length - i ∧ GInv w0 H l b mu (some a) sc m e' w') := by
          intro u hu
          rw [f34_s13_eq, BIf_iff]
          refine ⟨fun h2 => ⟨x.th, cth, ?_⟩, fun h2 => ?_⟩
          · rw [if_pos (hu.1 h2)] at hg
            rw [BIf_iff]
            refine ⟨fun h3 => ?_, fun h3 => ?_⟩
            · rw [if_pos (by simpa using h3)] at hg
              exact no w7 h7 hg
            · rw [if_neg (by simpa using h3)] at hg
              rw [f34_s14_eq]
              exact s12 w7 (-1) h7 hg
          · rw [if_neg (fun hh => by rw [hu.2 hh] at h2; cases h2)] at hg
            have s15 : ∀ t, (t = true ↔ (touches x b).1 = true ∧ ho ≠ x.th) → f34_s15 t ho mu b (some a) l.length sc l.length i false w7 K (fun e' w' => ∃ m, m < l.length - i ∧ GInv w0 H l b mu (some a) sc m e' w') := by
              intro t ht
              rw [f34_s15_eq, BIf_iff]
              refine ⟨fun h3 => ?_, fun h3 => ?_⟩
              · rw [if_pos (ht.1 h3)] at hg
                exact no w7 h7 hg
              · rw [if_neg (fun hh => by rw [ht.2 hh] at h3; cases h3)] at hg
                exact s12 w7 ho h7 hg
            rw [BIf_iff]
            refine ⟨fun h3 => ⟨x.th, cth, s15 _ ⟨fun h4 => ⟨h3, by simpa using h4⟩, fun hh => by simpa using hh.2⟩⟩, fun h3 => s15 false ⟨fun hh => (by cases hh), fun hh => by rw [hh.1] at h3; cases h3⟩⟩
        refine ⟨x.kind, h7.cell (k := 0) rfl, ?_⟩
        rw [BIf_iff]
        exact ⟨fun h2 => ⟨x.a, ca, s13 _ ⟨fun h3 => ⟨by simpa using h2, by simpa using h3⟩, fun hh => by simpa using hh.2⟩⟩, fun h2 => s13 false ⟨fun hh => (by cases hh), fun hh => by simp [hh.1] at h2⟩⟩
    rw [f34_s8_eq]
    refine ⟨x.kind, h7.cell (k := 0) rfl, ?_⟩
    rw [BIf_iff]
    exact ⟨fun h2 => ⟨x.a, ca, s9 _ ⟨fun h3 => ⟨by simpa using h2, by simpa using h3⟩, fun hh => by simpa using hh.2⟩⟩, fun h2 => s9 false ⟨fun hh => (by cases hh), fun hh => by simp [hh.1] at h2⟩⟩
  · intro hge
    have : i = l.length := by simp at hge; omega
    subst this
    rw [List.drop_length] at hg
    have hg : true = guardL b mu l (-1) := hg
    rw [f34_s16_eq, hg]
    exact hK w3 h3
theorem locks_ok {l : List Ev} {ov : Value} (b mu : Int) (h : St w0 w H) (hrow : ∀ w', St w0 w' H → Row w' 6 ov l.length (evsCs l)) (hK : ∀ w', St w0 w' H → K (.bool true) w') : CallL P 9 [ov, .int .u32 b, .int .u32 mu] w K := by
  obtain ⟨sa, sc, hov⟩ := (hrow w h).form
  rw [hov]
  refine f9_ok _ _ _ _ _ _ _ ?_
  rw [f9_eq]
  refine sane_ok h fun w1 h1 => ⟨true, rfl, l.length, fun wq _ => run_len_22 wq, ?_⟩
  have s0 : ∀ v w1, St w0 w1 H → (v = false → l.length ≤ 200 ∧ guardL b mu l (-1) = true) → f9_s0 v true b sa l.length sc w1 K := by
    intro v w1 h1 hv
    rw [f9_s0_eq, BIf_iff]
    refine ⟨fun _ => hK w1 h1, fun hf => ?_⟩
    obtain ⟨hl, hg⟩ := hv hf
    rw [f9_s1_eq]
    have fin : ∀ w3, St w0 w3 H → f9_s2 true w3 K := fun w3 h3 => by rw [f9_s2_eq]; exact hK w3 h3
    refine all_ok h1 (fun w' h' => by rw [← hov]; exact hrow w' h') (by omega) b (fun x hx hx0 w3 h3 => ⟨none, 0, 0, x, rfl, ?_⟩) (fun out hx hlen w3 rv Lo hS hN h3 => ?_)
    · rw [show (x != 0) = true by simpa using hx0, BIf_true]
      exact fin w3 h3
    · have := all_guarded (by omega) hg hx
      subst this
      obtain ⟨ra, rc, hrv⟩ := hS.form
      subst hrv
      refine ⟨ra, _, rc, 0, rfl, ?_⟩
      rw [show ((0 : Int) != 0) = false by decide, BIf_false]
      refine ⟨0, fun wq _ => run_len_25 wq, ?_⟩
      rw [show ((0 : Int) == 0) = true by decide, BIf_true]
      exact fin w3 (h3.sub hN)
  rw [BIf_iff]
  refine ⟨fun _ => s0 true w1 h1 (by intro hh; cases hh), fun hle => ?_⟩
  have hle : l.length ≤ 200 := by simp at hle; omega
  rw [← hov]
  refine guarded_ok b mu h1 hrow hle fun w2 h2 => ⟨_, rfl, ?_⟩
  exact s0 _ w2 h2 fun hf => ⟨hle, by simpa using hf⟩
end Go.Fx.Try
namespace Go.Proofs.Ytamciedmojpjaaa
open Go Go.Fx Go.Fx.Try Go.Fx.Mo
open Go.ChangeShapes Go.WideShapes Go.ChangeAt Go.RowKit
set_option maxRecDepth 100000
theorem raceLocks_lifted (os : Os) (started : os.Started) (H : Type) (enc : TypeId × Value → H) :
    ReturnsInHanded {} Try.checked os 9 .any (Rows.raceLocksSpec.pre6 enc Try.prog Try.f9 Rows.raceLocksRow.domain false) (Rows.raceLocksSpec.post enc Try.prog Try.f9 false true false false) := by
  refine returnsInHanded_of_change (C := Try.checked) own started (by kernel_rfl) Try.func9
    (ChangeSpec.witness6 (enc := enc) (C := Try.checked) false ⟨#[], #[.slice none 0 0, .int .u32 0, .int .u32 0], []⟩ 8 (by kernel_rfl) (by kernel_rfl) (by kernel_rfl) (by kernel_rfl)) ?_
  intro W base args ds gs before hval0 hW _ _
  have hval : ∀ (j : Nat) t v, Try.f9.params[j]? = some t → args[j]? = some v → Value.okWide Try.prog W .any base t v := hval0
  have hW' := hW
  obtain ⟨p, q, hA0, hV, rfl, hfz, hnd⟩ := hW
  have hA : DataW.TrodAll enc Try.prog W 0 (fun _ => true) true Try.f9.params.toList args.toList ds p := hA0
  rw [Try.params9] at hA hval
  obtain ⟨v0, v1, v2, d0, d1, d2, p0, p1, p2, rfl, rfl, rfl, h0, h1, h2⟩ := trodAll_three hA
  obtain ⟨rfl, rfl⟩ := trodVars_none hV
  obtain ⟨l, hrow, _⟩ := open_events (okWide_slice Try.underlying22 (hval 0 22 v0 rfl rfl)) h0
  obtain ⟨b, rfl, rfl, rfl, hwf1⟩ := open_int Try.underlying33 (hval 1 33 v1 rfl rfl) h1
  obtain ⟨mu, rfl, rfl, rfl, hwf2⟩ := open_int Try.underlying33 (hval 2 33 v2 rfl rfl) h2
  have hcall := locks_ok (w0 := W) (H := []) (K := fun v w' => v = .bool true ∧ Below W.heap.size W w') b mu (St.refl W) (fun w' h' => Row.old hrow (New.nil W) h') (fun w' h' => ⟨rfl, h'.below⟩)
  refine Calls.mono hcall fun e W' he => ?_
  unfold retK at he
  split at he
  · obtain ⟨rfl, hB⟩ := he
    have hlt : ∀ x ∈ p0, x.block < W.heap.size := fun x hx => hW'.lt x (by simp [hx])
    have h0' := Below.trod laidOut readable22 types22 h0 hB hlt
    exact ⟨_, rfl, _, _, _, [], p0 ++ ([] ++ []), [], hW', trodAll_mk1 (shut_bool Try.underlying4 _), trodAll_mk3 h0' (shut_int Try.underlying33 hwf1) (shut_int Try.underlying33 hwf2), rfl, hB.frame _, fun h => by cases h⟩
  · exact he.elim
theorem raceLocks_holds : Rows.RaceLocksSaid :=
  OpenClaim.holds_of_wide 9 Try.f9 rfl rfl rfl rfl rfl rfl rfl ⟨rfl, rfl, rfl, rfl, rfl⟩ rfl rfl rfl rfl rfl (by kernel_rfl) Try.func9 (by kernel_rfl)
    (of_decide_eq_true (by kernel_rfl)) (by unfold Func.isWrapper; first | (rw [if_pos (by decide +kernel)]; kernel_rfl) | (rw [if_neg (by decide +kernel)]; exact ⟨rfl, rfl⟩))
    (fun os started H enc _ => raceLocks_lifted os started H enc)
#print axioms raceLocks_holds
end Go.Proofs.Ytamciedmojpjaaa
