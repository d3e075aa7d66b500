/- Events that come in as an argument. -/
import Derived.Test.YtamciedmojpjaaaGk
import Derived.Test.YtamciedmojpjaaaRows
import Derived.Deep.Slices
import Derived.ProofKit
import Derived.OpenShut
import Derived.JoinedOf
import Derived.Carry
namespace Go.Fx
open Go
theorem St.below {w0 w : World} (h : St w0 w []) : RowKit.Below w0.heap.size w0 w := ⟨h.kept.os, h.kept.tape, h.kept.output, h.le, fun k hk => h.old k hk (by simp)⟩
namespace Try
open Go.Fx.Mo
open Go.Proofs
set_option maxRecDepth 20000
theorem cells35 : P.cellsOf 35 = 6 := by kernel_rfl
theorem cells3 : P.cellsOf 3 = 1 := by kernel_rfl
theorem cells33 : P.cellsOf 33 = 1 := by kernel_rfl
variable {H : Type} {enc : TypeId × Value → H} {W : World}
theorem open_event {base : Nat} {spare : Nat → Bool} {held : Bool} {fuel : Nat} {cs : List Value} {x : DataW H × List MemPlace} (h : DataW.trod enc P W base spare held fuel 35 cs = some x) : ∃ e : Ev, cs = Evcs e := by
  obtain ⟨xs, n, _, _, hl, hlen, hf⟩ := DataW.trod_struct Try.underlying35 h
  rw [cells35] at hl
  match cs, hl with
  | [c0, c1, c2, c3, c4, c5], _ =>
  have hx : ∀ i, i < 6 → ∃ y, xs[i]? = some y := fun i hi => ⟨xs[i]'(by rw [hlen]; exact hi), List.getElem?_eq_getElem _⟩
  obtain ⟨y0, e0⟩ := hx 0 (by omega)
  obtain ⟨y1, e1⟩ := hx 1 (by omega)
  obtain ⟨y2, e2⟩ := hx 2 (by omega)
  obtain ⟨y3, e3⟩ := hx 3 (by omega)
  obtain ⟨y4, e4⟩ := hx 4 (by omega)
  obtain ⟨y5, e5⟩ := hx 5 (by omega)
  obtain ⟨k0, g0, _⟩ := DataW.trod_int Try.underlying3 ((hf 0 _ rfl).trans e0)
  obtain ⟨k1, g1, _⟩ := DataW.trod_int Try.underlying3 ((hf 1 _ rfl).trans e1)
  obtain ⟨k2, g2, _⟩ := DataW.trod_int Try.underlying33 ((hf 2 _ rfl).trans e2)
  obtain ⟨k3, g3, _⟩ := DataW.trod_int Try.underlying33 ((hf 3 _ rfl).trans e3)
  obtain ⟨k4, g4, _⟩ := DataW.trod_int Try.underlying33 ((hf 4 _ rfl).trans e4)
  obtain ⟨k5, g5, _⟩ := DataW.trod_int Try.underlying3 ((hf 5 _ rfl).trans e5)
  simp [cells3, cells33] at g0 g1 g2 g3 g4 g5
  subst g0 g1 g2 g3 g4 g5
  exact ⟨⟨k0, k1, k2, k3, k4, k5⟩, rfl⟩
theorem evs_cell (l : List Ev) {i j : Nat} (hi : i < l.length) (hj : j < 6) : (evsCs l)[i * 6 + j]? = (Evcs l[i])[j]? := by
  have h := evs_at hi
  have := congrArg (fun l => l[j]?) h
  simp only [List.getElem?_take, hj, if_true, List.getElem?_drop] at this
  exact this
theorem open_events {base : Nat} {spare : Nat → Bool} {held : Bool} {v : Value} {d : DataW H} {p : List MemPlace} (hv : ∃ a len cap, v = .slice a len cap) (h : DataW.Trod enc P W base spare held 22 v d p) : ∃ l : List Ev, Row W 6 v l.length (evsCs l) ∧ l.length ≤ maxLen := by
  obtain ⟨fuel, hf⟩ := h
  obtain ⟨a0, len0, cap0, rfl⟩ := hv
  rcases Deep.open_slice Try.underlying22 hf with ⟨hc, _⟩ | ⟨a, len, cap, m, n, D, Pl, hc, _, hle, hcm, hm, _, hall⟩
  · have hv : Value.slice a0 len0 cap0 = .slice none 0 0 := by simpa [Value.cells] using hc
    exact ⟨[], ⟨rfl, .inl ⟨hv, rfl⟩⟩, by simp⟩
  · have hv : Value.slice a0 len0 cap0 = .slice (some a) len cap := by simpa [Value.cells] using hc
    have hlm : len ≤ m := by rw [hm]; split <;> omega
    obtain ⟨E, hE⟩ := Deep.choose_lt (α := Ev) (n := len) (p := fun i e => ∀ j, j < 6 → W.cell? (a.add (i * 6 + j)) = (Evcs e)[j]?) (fun i hi => by
      obtain ⟨cs', h1, h2⟩ := hall i (by omega)
      obtain ⟨e, rfl⟩ := open_event h2
      rw [cells35] at h1
      obtain ⟨_, _, h3⟩ := World.cells?_some h1
      exact ⟨e, fun j hj => by rw [← h3 j hj, add_add']⟩)
    have hlen : ((List.range len).map E).length = len := by simp
    refine ⟨(List.range len).map E, ⟨evsCs_len _, .inr ⟨a, cap, by rw [hlen]; exact hv, fun i hi => ?_⟩⟩, by rw [hlen]; omega⟩
    rw [hlen] at hi
    have hq : i / 6 < ((List.range len).map E).length := by rw [hlen]; omega
    have h1 := hE (i / 6) (by omega) (i % 6) (by omega)
    have h2 := evs_cell ((List.range len).map E) (i := i / 6) (j := i % 6) hq (by omega)
    have e : i / 6 * 6 + i % 6 = i := by omega
    rw [e] at h1 h2
    rw [h1, h2]
    simp
theorem own : ownKnob P.godebug = none := by kernel_rfl
theorem laidOut : laidOutB P = true := by kernel_rfl
theorem readable22 : P.readableRec 22 = true := by kernel_rfl
theorem types22 : 22 < P.types.size := of_decide_eq_true (by kernel_rfl)
end Try
end Go.Fx
