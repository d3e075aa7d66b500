/- The law's examples hold. -/
import Derived.Test.YtamciedmojpjaaaGk
import Derived.Test.YtamciedmojpjaaaGe
namespace Go.Fx.Try
open Go Go.Fx Go.Fx.Mo
open Go.Proofs
variable {w0 w : World} {H : List (Nat × Obj)} {K : Value → World → Prop}
set_option maxRecDepth 20000
abbrev saneH (n14 n3 n12 : Nat) (H : List (Nat × Obj)) : List (Nat × Obj) := (n14, Cs (Evcs evLoad) 35) :: (n12, Cs (Evcs evStore) 35) :: (n3, Cs (Evcs evSpawn) 35) :: H
section
variable {n14 n3 n12 : Nat}
theorem drop2 {n : Nat} {o : Obj} {Lo : List (Nat × Obj)} (h : St w0 w (Lo ++ ((n, o) :: H))) (hN : New w0 Lo) (hn : w0.heap.size ≤ n) : St w0 w H := (h.sub hN).tail hn
theorem sane_s9 {n109 n111 : Nat} (h : St w0 w ((n111, Cs (Evcs evY) 35) :: (n109, Cs (Evcs evX) 35) :: saneH n14 n3 n12 H)) (hK : ∀ w', St w0 w' ((n111, Cs (Evcs evY) 35) :: (n109, Cs (Evcs evX) 35) :: saneH n14 n3 n12 H) → K (.bool true) w') :
    f13_s9 (Addr.mk n14 0 none) (Addr.mk n111 0 none) (Addr.mk n109 0 none) (Addr.mk n3 0 none) w K := by
  rw [f13_s9_eq]
  obtain ⟨ze, hze, hzel⟩ := z35
  rw [hze]
  refine ev_ok h 3 0 4100 4 fun w1 h1 => ⟨_, rfl, ?_⟩
  refine ev_ok h1 2 1 4100 4 fun w2 h2 => ⟨_, rfl, ?_⟩
  refine h2.newC fun n152 w3 hn152 h3 => h3.newC fun n154 w4 hn154 h4 => ?_
  refine h4.stA (k := 1) rfl (by simp [Evcs_len]) (by simp [hzel]) (Evcs_one _) fun w5 h5 => h5.stA (k := 0) rfl (by simp [Evcs_len]) (by simp [hzel]) (Evcs_one _) fun w6 h6 => ?_
  have h6 : St w0 w6 ((n154, Cs (splice ze 0 (Evcs evLate)) 35) :: (n152, Cs (splice ze 0 (Evcs evOther)) 35) :: (n111, Cs (Evcs evY) 35) :: (n109, Cs (Evcs evX) 35) :: saneH n14 n3 n12 H) := h6
  rw [splice_whole (by rw [Evcs_len, hzel]), splice_whole (by rw [Evcs_len, hzel])] at h6
  refine h6.ldA (k := 6) (i := 0) rfl (by simp [Evcs_len]) (h6.ldA (k := 1) (i := 0) rfl (by simp [Evcs_len]) (h6.ldA (k := 3) (i := 0) rfl (by simp [Evcs_len]) (h6.ldA (k := 2) (i := 0) rfl (by simp [Evcs_len]) (h6.ldA (k := 0) (i := 0) rfl (by simp [Evcs_len]) ?_))))
  refine lay_evs ex7 h6 fun n166 w7 hn166 h7 => ?_
  refine first_at sort48 races7 (by decide) h7 (n := n166) (.head _) fun w8 a c Lo hS hN h8 => ⟨a, _, c, true, rfl, ?_⟩
  have h8 := drop2 h8 hN hn166
  refine h8.ldA (k := 4) (i := 0) rfl (by simp [Evcs_len]) ?_
  refine lay_evs [evLoad] h8 fun n175 w9 hn175 h9 => ?_
  refine races_ok sort48 (l := [evLoad]) h9 (evs_row (.head _)) (by decide) (fun x hx hx0 w10 h10 => ⟨none, 0, 0, x, rfl, ?_⟩) (fun out hx => by rw [races8] at hx; cases hx)
  have hx : x = 300 := by rw [races8] at hx; cases hx; rfl
  subst hx
  rw [BIf_true]
  refine ⟨0, fun wq _ => run_len_81 wq, ?_⟩
  rw [show ((0 : Int) == 0) = true by decide, BIf_true, f13_s10_eq]
  exact hK w10 (((h10.tail hn175).tail hn154).tail hn152)
theorem sane_s7 (h : St w0 w (saneH n14 n3 n12 H)) (hK : ∀ w', St w0 w' (saneH n14 n3 n12 H) → K (.bool true) w') : f13_s7 (Addr.mk n14 0 none) (Addr.mk n3 0 none) w K := by
  rw [f13_s7_eq]
  obtain ⟨ze, hze, hzel⟩ := z35
  rw [hze]
  refine ev_ok h 4 0 4096 4 fun w1 h1 => ⟨_, rfl, ?_⟩
  refine ev_ok h1 4 1 4096 4 fun w2 h2 => ⟨_, rfl, ?_⟩
  refine h2.newC fun n109 w3 hn109 h3 => h3.newC fun n111 w4 hn111 h4 => ?_
  refine h4.stA (k := 1) rfl (by simp [Evcs_len]) (by simp [hzel]) (Evcs_one _) fun w5 h5 => h5.stA (k := 0) rfl (by simp [Evcs_len]) (by simp [hzel]) (Evcs_one _) fun w6 h6 => ?_
  have h6 : St w0 w6 ((n111, Cs (splice ze 0 (Evcs evY)) 35) :: (n109, Cs (splice ze 0 (Evcs evX)) 35) :: saneH n14 n3 n12 H) := h6
  rw [splice_whole (by rw [Evcs_len, hzel]), splice_whole (by rw [Evcs_len, hzel])] at h6
  refine h6.ldA (k := 4) (i := 0) rfl (by simp [Evcs_len]) (h6.ldA (k := 1) (i := 0) rfl (by simp [Evcs_len]) (h6.ldA (k := 0) (i := 0) rfl (by simp [Evcs_len]) ?_))
  refine lay_evs ex5 h6 fun n121 w7 hn121 h7 => ?_
  refine first_at sort48 races5 (by decide) h7 (n := n121) (.head _) fun w8 a c Lo hS hN h8 => ⟨a, _, c, true, rfl, ?_⟩
  have h8 := drop2 h8 hN hn121
  refine h8.ldA (k := 4) (i := 0) rfl (by simp [Evcs_len]) (h8.ldA (k := 1) (i := 0) rfl (by simp [Evcs_len]) (h8.ldA (k := 2) (i := 0) rfl (by simp [Evcs_len]) ?_))
  refine lay_evs ex6 h8 fun n132 w9 hn132 h9 => ?_
  refine first_at sort48 races6 (by decide) h9 (n := n132) (.head _) fun w10 a' c' Lo' hS' hN' h10 => ⟨a', _, c', true, rfl, ?_⟩
  rw [Bool.not_true, BIf_false, BIf_false]
  refine ⟨0, fun wq _ => run_len_81 wq, ?_⟩
  rw [show ((0 : Int) != 0) = false by decide, BIf_false]
  refine ⟨4, fun wq _ => run_len_81 wq, ?_⟩
  rw [show ((4 : Int) != 4) = false by decide, BIf_false]
  obtain ⟨g, cc, hg, hld⟩ := slO_ldA hS' (w := w10) (i := 0) (fun y hy => h10.has _ _ (by simp [hy])) (by decide)
  obtain ⟨hsa, -⟩ : a' = some ⟨g, 0, none⟩ ∧ c' = cc := by simpa using hg
  subst hsa
  refine ⟨by decide, by decide, hld _ ⟨_, build85 4096 1 2, false, fun wq => ?_, ?_⟩⟩
  · exact eq85 4096 1 2 wq 136 137
  · rw [f13_s8_eq, BIf_false]
    exact sane_s9 (drop2 h10 hN' hn132) fun w' h' => hK w' ((h'.tail hn111).tail hn109)
theorem ex3_set : (evsCs ex3).set 27 (.int .u32 6) = evsCs ex4 := by kernel_rfl
theorem sane_s5 {n81 : Nat} (hn81 : w0.heap.size ≤ n81) (h : St w0 w ((n81, Cs (evsCs ex3) 35) :: saneH n14 n3 n12 H)) (hK : ∀ w', St w0 w' (saneH n14 n3 n12 H) → K (.bool true) w') : f13_s5 (Addr.mk n14 0 none) (Addr.mk n3 0 none) (some (Addr.mk n81 0 none)) 6 6 w K := by
  rw [f13_s5_eq]
  refine first_at sort48 races3 (by decide) h (n := n81) (.head _) fun w8 a c Lo hS hN h8 => ⟨a, _, c, true, rfl, ?_⟩
  have h8 := h8.sub hN
  refine clone_ok (l := ex3) h8 (n := n81) (.head _) (by decide) fun w9 v L hv hvN h9 => ?_
  rcases hv.2 with ⟨_, h0, _⟩ | ⟨g, cap, cur, hve, hL, hle, hcm, hcl, htk⟩
  · cases h0
  · subst hve
    subst hL
    refine ⟨some ⟨g, 0, none⟩, 6, cap, rfl, by decide, by decide, ?_⟩
    show St1 (((Addr.mk g 0 none).add 24).add 3) _ _ _
    rw [add_lit', add_lit']
    have hle : 6 ≤ cap := hle
    refine h9.st1 (k := 0) rfl (by rw [hcl]; omega) rfl fun w10 h10 => ?_
    have h10 : St w0 w10 ((g, Cs (cur.set 27 (.int .u32 6)) 35) :: (n81, Cs (evsCs ex3) 35) :: saneH n14 n3 n12 H) := h10
    have hcur : (cur.set 27 (.int .u32 6)).take 36 = evsCs ex4 := by
      have e : cur.take 36 = evsCs ex3 := htk
      rw [List.take_set, e]
      exact ex3_set
    have hrow : ∀ w', St w0 w' ((g, Cs (cur.set 27 (.int .u32 6)) 35) :: (n81, Cs (evsCs ex3) 35) :: saneH n14 n3 n12 H) → Row w' 6 (.slice (some ⟨g, 0, none⟩) 6 cap) 6 (evsCs ex4) := fun w' h' =>
      ⟨evsCs_len ex4, .inr ⟨_, _, rfl, fun i hi => by
        have hi : i < 36 := hi
        rw [add_lit', h'.cell (k := 0) rfl, Nat.zero_add, ← hcur, List.getElem?_take, if_pos hi]⟩⟩
    refine firsts_ok sort48 (l := ex4) h10 hrow (by decide) (fun x hx => by rw [races4] at hx; cases hx) fun out' hx hlen w11 rv Lo' hS' hN' h11 => ?_
    rw [races4] at hx
    cases hx
    obtain ⟨a', c', hrv⟩ := hS'.form
    subst hrv
    refine ⟨a', _, c', true, rfl, ?_⟩
    rw [Bool.not_true, BIf_false, BIf_false]
    refine ⟨0, fun wq _ => run_len_81 wq, ?_⟩
    rw [show ((0 : Int) != 0) = false by decide, BIf_false]
    refine ⟨4, fun wq _ => run_len_81 wq, ?_⟩
    rw [show ((4 : Int) != 4) = false by decide, f13_s6_eq, BIf_false]
    have hg : w0.heap.size ≤ g := by simpa [New] using hvN
    exact sane_s7 (((h11.sub hN').tail hg).tail hn81) hK
theorem sane_s4 (h : St w0 w (saneH n14 n3 n12 H)) (hK : ∀ w', St w0 w' (saneH n14 n3 n12 H) → K (.bool true) w') : f13_s4 (Addr.mk n14 0 none) (Addr.mk n3 0 none) (Addr.mk n12 0 none) w K := by
  rw [f13_s4_eq]
  have hd := h.drew
  have l14 : ∀ {w' : World} {K' : Array Value → Prop}, St w0 w' (saneH n14 n3 n12 H) → K' (Evcs evLoad).toArray → LdA 6 (Addr.mk n14 0 none) w' K' := fun h' hk => h'.ldA (k := 0) (i := 0) rfl (by simp [Evcs_len]) hk
  have l12 : ∀ {w' : World} {K' : Array Value → Prop}, St w0 w' (saneH n14 n3 n12 H) → K' (Evcs evStore).toArray → LdA 6 (Addr.mk n12 0 none) w' K' := fun h' hk => h'.ldA (k := 1) (i := 0) rfl (by simp [Evcs_len]) hk
  have l3 : ∀ {w' : World} {K' : Array Value → Prop}, St w0 w' (saneH n14 n3 n12 H) → K' (Evcs evSpawn).toArray → LdA 6 (Addr.mk n3 0 none) w' K' := fun h' hk => h'.ldA (k := 2) (i := 0) rfl (by simp [Evcs_len]) hk
  have fin : ∀ {w' : World}, St w0 w' (saneH n14 n3 n12 H) → sizesAre 6 [evV evSpawn, evV (ev 14 0 5 0), evV evStore, evV (ev 15 0 5 0), evV (ev 14 1 5 0), evV evLoad] ∧
      NewC (([evV evSpawn, evV (ev 14 0 5 0), evV evStore, evV (ev 15 0 5 0), evV (ev 14 1 5 0), evV evLoad].map fun (v : Value) => v.cells.toList).flatten.toArray) 35 w' (fun n81 w79 => f13_s5 (Addr.mk n14 0 none) (Addr.mk n3 0 none) (some (Addr.mk n81 0 none)) 6 6 w79 K) := fun h' =>
    lay_evs ex3 h' fun n81 w79 hn81 h79 => sane_s5 hn81 h79 hK
  clear h
  repeat' first
    | exact fin (by assumption)
    | refine l14 (by assumption) ?_
    | refine l12 (by assumption) ?_
    | refine l3 (by assumption) ?_
    | refine ev_ok (by assumption) _ _ _ _ fun w' h' => ⟨_, rfl, ?_⟩
    | refine ⟨?_, ?_⟩
end
end Go.Fx.Try
namespace Go.Fx.Try
open Go Go.Fx Go.Fx.Mo
open Go.Proofs
variable {w0 w : World} {H : List (Nat × Obj)} {K : Value → World → Prop}
set_option maxRecDepth 20000
section
variable {n14 n3 n12 : Nat}
set_option maxHeartbeats 4000000 in
theorem sane_s1 (h : St w0 w (saneH n14 n3 n12 H)) (hK : ∀ w', St w0 w' (saneH n14 n3 n12 H) → K (.bool true) w') : f13_s1 (Addr.mk n14 0 none) (Addr.mk n3 0 none) (Addr.mk n12 0 none) w K := by
  rw [f13_s1_eq]
  have hd := h.drew
  have l14 : ∀ {w' : World} {K' : Array Value → Prop}, St w0 w' (saneH n14 n3 n12 H) → K' (Evcs evLoad).toArray → LdA 6 (Addr.mk n14 0 none) w' K' := fun h' hk => h'.ldA (k := 0) (i := 0) rfl (by simp [Evcs_len]) hk
  have l12 : ∀ {w' : World} {K' : Array Value → Prop}, St w0 w' (saneH n14 n3 n12 H) → K' (Evcs evStore).toArray → LdA 6 (Addr.mk n12 0 none) w' K' := fun h' hk => h'.ldA (k := 1) (i := 0) rfl (by simp [Evcs_len]) hk
  have l3 : ∀ {w' : World} {K' : Array Value → Prop}, St w0 w' (saneH n14 n3 n12 H) → K' (Evcs evSpawn).toArray → LdA 6 (Addr.mk n3 0 none) w' K' := fun h' hk => h'.ldA (k := 2) (i := 0) rfl (by simp [Evcs_len]) hk
  have fin : ∀ {w' : World}, St w0 w' (saneH n14 n3 n12 H) → sizesAre 6 [evV evStore, evV evSpawn, evV evLoad, evV (ev 12 1 0 0), evV (ev 13 0 0 1), evV evStore] ∧
      NewC (([evV evStore, evV evSpawn, evV evLoad, evV (ev 12 1 0 0), evV (ev 13 0 0 1), evV evStore].map fun (v : Value) => v.cells.toList).flatten.toArray) 35 w' (fun n49 w47 => CallL P 43 [(Value.slice (some (Addr.mk n49 0 none)) 6 6)] w47 (fun r50 w51 => ∃ (s52a : Option Addr) (s52l s52c : Nat), ∃ b53 : Bool, r50 = (Value.tuple [(Value.slice s52a s52l s52c), (Value.bool b53)].toArray) ∧ f13_s2 (Addr.mk n14 0 none) (Addr.mk n3 0 none) (Addr.mk n12 0 none) s52a s52l s52c b53 w51 K)) := fun h' =>
    lay_evs ex2 h' fun n49 w47 hn49 h47 => first_at (l := ex2) sort48 races2 (by decide) h47 (n := n49) (.head _) fun w8 a c Lo hS hN h8 => ⟨a, _, c, true, rfl, by
      rw [f13_s2_eq, Bool.not_true, BIf_false]
      refine ⟨0, fun wq _ => run_len_81 wq, ?_⟩
      rw [show ((0 : Int) != 0) = false by decide, f13_s3_eq, BIf_false]
      exact sane_s4 (drop2 h8 hN hn49) hK⟩
  clear h
  repeat' first
    | exact fin (by assumption)
    | refine l14 (by assumption) ?_
    | refine l12 (by assumption) ?_
    | refine l3 (by assumption) ?_
    | refine ev_ok (by assumption) _ _ _ _ fun w' h' => ⟨_, rfl, ?_⟩
    | refine ⟨?_, ?_⟩
theorem four_cs : triplesCs (four 1 2 (acc 0 true false) (acc 1 false false)) = [I64 4096, I64 1, I64 2, I64 4097, I64 1, I64 2, I64 4098, I64 1, I64 2, I64 4099, I64 1, I64 2] := by kernel_rfl
theorem sane_ok (h : St w0 w H) (hK : ∀ w', St w0 w' H → K (.bool true) w') : CallL P 13 [] w K := by
  refine f13_ok _ _ ?_
  obtain ⟨ze, hze, hzel⟩ := z35
  rw [f13_eq, hze]
  refine ev_ok h 11 0 0 1 fun w1 h1 => ⟨_, rfl, ?_⟩
  refine h1.newC fun n3 w2 hn3 h2 => h2.stA (k := 0) rfl (by simp [Evcs_len]) (by simp [hzel]) (Evcs_one _) fun w3 h3 => ?_
  have h3 : St w0 w3 ((n3, Cs (splice ze 0 (Evcs evSpawn)) 35) :: H) := h3
  rw [splice_whole (by rw [Evcs_len, hzel])] at h3
  refine ev_ok h3 3 0 4096 4 fun w4 h4 => ⟨_, rfl, ?_⟩
  refine ev_ok h4 2 1 4096 4 fun w5 h5 => ⟨_, rfl, ?_⟩
  refine h5.newC fun n12 w6 hn12 h6 => h6.newC fun n14 w7 hn14 h7 => ?_
  refine h7.stA (k := 1) rfl (by simp [Evcs_len]) (by simp [hzel]) (Evcs_one _) fun w8 h8 => h8.stA (k := 0) rfl (by simp [Evcs_len]) (by simp [hzel]) (Evcs_one _) fun w9 h9 => ?_
  have h9 : St w0 w9 ((n14, Cs (splice ze 0 (Evcs evLoad)) 35) :: (n12, Cs (splice ze 0 (Evcs evStore)) 35) :: (n3, Cs (Evcs evSpawn) 35) :: H) := h9
  rw [splice_whole (by rw [Evcs_len, hzel]), splice_whole (by rw [Evcs_len, hzel])] at h9
  refine h9.ldA (k := 2) (i := 0) rfl (by simp [Evcs_len]) (h9.ldA (k := 1) (i := 0) rfl (by simp [Evcs_len]) (h9.ldA (k := 0) (i := 0) rfl (by simp [Evcs_len]) ?_))
  refine lay_evs ex1 h9 fun n24 w10 hn24 h10 => ?_
  refine first_at (l := ex1) sort48 races1 (by decide) h10 (n := n24) (.head _) fun w11 a c Lo hS hN h11 => ⟨a, _, c, true, rfl, ?_⟩
  rw [Bool.not_true, BIf_false]
  refine ⟨_, build85 4096 1 2, _, build85 4097 1 2, _, build85 4098 1 2, _, build85 4099 1 2, ⟨rfl, rfl, rfl, rfl, trivial⟩, ?_⟩
  refine h11.newC fun n85 w12 hn85 h12 => ?_
  have h12 : St w0 w12 ((n85, Cs (triplesCs (four 1 2 (acc 0 true false) (acc 1 false false))) 85) :: (Lo ++ ((n24, Cs (evsCs ex1) 35) :: saneH n14 n3 n12 H))) := by
    rw [four_cs]; exact h12
  refine same3_ok (l := four 1 2 (acc 0 true false) (acc 1 false false)) h12 (fun w' h' => hS.row fun y hy => h'.has _ _ (by simp [hy])) (fun w' h' => ⟨by rw [four_cs]; rfl, .inr ⟨_, _, rfl, fun i _ => by rw [add_lit', h'.cell (k := 0) rfl, Nat.zero_add]⟩⟩) (by decide) fun w13 h13 => ⟨true, rfl, ?_⟩
  rw [f13_s0_eq, Bool.not_true, BIf_false]
  refine sane_s1 (drop2 (h13.tail hn85) hN hn24) fun w' h' => hK w' (((h'.tail hn14).tail hn12).tail hn3)
end
end Go.Fx.Try
