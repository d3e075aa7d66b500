/- RaceClones returns true for every three lists of events, and they read behind the call as they read before: the sort of numbers, Racy, Size, Clone, alike, the law. -/
import Derived.Test.YtamciedmojpjaaaGl
import Derived.Test.YtamciedmojpjaaaGp
import Derived.Sort.AssemblyPlain
import Derived.Test.YtamciedmojpjaaaGq
import Derived.Shelf.SlSortCmp.Xorshift
import Derived.Sort.Walk13a
import Derived.ChangeKeysEq
import Derived.Shelf.SlMaps.Clone
import Derived.Test.YtamciedmojpjaaaGm
namespace Go.Fx.Try
open Go Go.Fx Go.Fx.Mo
open Go.Proofs
open Go.Sort (swp swp_size insInner insOuter insertionSort siftDown heapBuild heapPop heapSort ltInt)
variable {w0 w : World} {H X : List (Nat × Obj)} {K : Value → World → Prop}
set_option maxRecDepth 20000
/-- Numbers in a block, and what stands behind them. -/
abbrev uCs (d : Array Int) (z : List Value) : List Value := d.toList.map encU ++ z
theorem uCs_get {d : Array Int} {z : List Value} {i : Nat} (hi : i < d.size) : (uCs d z)[i]? = some (.int .u32 d[i]!) := by
  rw [List.getElem?_append_left (by simpa using hi), List.getElem?_map]
  simp [hi]
theorem uCs_len (d : Array Int) (z : List Value) : (uCs d z).length = d.size + z.length := by simp
theorem uCs_swp {d : Array Int} {z : List Value} {p q : Nat} (hp : p < d.size) (hq : q < d.size) : ((uCs d z).set p (.int .u32 d[q]!)).set q (.int .u32 d[p]!) = uCs (swp d p q) z := by
  unfold uCs swp
  rw [List.set_append_left _ _ (by simpa using hp), List.set_append_left _ _ (by simpa using hq)]
  congr 1
  simp only [Array.toList_setIfInBounds, List.map_set]
theorem less_ok (h : St w0 w X) (x y : Int) (hK : ∀ w', St w0 w' X → K (.bool (ltInt x y)) w') : CallL P 140 [.int .u32 x, .int .u32 y] w K := by
  refine f140_ok _ _ _ _ ?_
  rw [f140_eq]
  refine isnan52 x ⟨_, rfl, ?_⟩
  rw [BIf_false, f140_s0_eq]
  exact hK w h
section
variable {g : Nat} {T : TypeId} {d : Array Int} {z : List Value} {ei ej : Int} {i j : Nat}
theorem less_at (hi : ei = (i : Int)) (hj : ej = (j : Int)) (hin : i < d.size) (hjn : j < d.size) (h : St w0 w X) (hm : (g, Cs (uCs d z) T) ∈ X) (hK : ∀ w', St w0 w' X → K (.bool (ltInt d[i]! d[j]!)) w') :
    optS (some (Addr.mk g 0 none)) (fun a => 0 ≤ ei ∧ ei < (d.size : Nat) ∧ optS (some (Addr.mk g 0 none)) (fun a' => 0 ≤ ej ∧ ej < (d.size : Nat) ∧ ∃ x : Int, w.drew.cell? (a.add (Int.toNat ei * 1)) = some (Value.int .u32 x) ∧ ∃ y : Int, w.drew.cell? (a'.add (Int.toNat ej * 1)) = some (Value.int .u32 y) ∧
      CallL P 140 [(Value.int .u32 x), (Value.int .u32 y)] w.drew K)) := by
  subst hi hj
  have hd := h.drew
  refine ⟨by omega, by omega, by omega, by omega, d[i]!, ?_, d[j]!, ?_, less_ok hd _ _ hK⟩
  · rw [add_lit', cell_of (hd.has _ _ hm), show 0 + Int.toNat (i : Int) * 1 = i by omega]; exact uCs_get hin
  · rw [add_lit', cell_of (hd.has _ _ hm), show 0 + Int.toNat (j : Int) * 1 = j by omega]; exact uCs_get hjn
theorem swap_at {Q : World → Prop} (hi : ei = (i : Int)) (hj : ej = (j : Int)) (hin : i < d.size) (hjn : j < d.size) (h : St w0 w ((g, Cs (uCs d z) T) :: H)) (hK : ∀ w', St w0 w' ((g, Cs (uCs (swp d i j) z) T) :: H) → Q w') :
    optS (some (Addr.mk g 0 none)) (fun a => 0 ≤ ej ∧ ej < (d.size : Nat) ∧ optS (some (Addr.mk g 0 none)) (fun a' => 0 ≤ ei ∧ ei < (d.size : Nat) ∧ ∃ x : Int, w.drew.cell? (a.add (Int.toNat ej * 1)) = some (Value.int .u32 x) ∧ ∃ y : Int, w.drew.cell? (a'.add (Int.toNat ei * 1)) = some (Value.int .u32 y) ∧
      optS (some (Addr.mk g 0 none)) (fun a2 => 0 ≤ ei ∧ ei < (d.size : Nat) ∧ St1 (a2.add (Int.toNat ei * 1)) (Value.int .u32 x) w.drew (fun w2 => optS (some (Addr.mk g 0 none)) (fun a3 => 0 ≤ ej ∧ ej < (d.size : Nat) ∧ St1 (a3.add (Int.toNat ej * 1)) (Value.int .u32 y) w2 Q))))) := by
  subst hi hj
  have hd := h.drew
  refine ⟨by omega, by omega, by omega, by omega, d[j]!, ?_, d[i]!, ?_, by omega, by omega, ?_⟩
  · rw [add_lit', hd.cell (k := 0) rfl, show 0 + Int.toNat (j : Int) * 1 = j by omega]; exact uCs_get hjn
  · rw [add_lit', hd.cell (k := 0) rfl, show 0 + Int.toNat (i : Int) * 1 = i by omega]; exact uCs_get hin
  rw [add_lit', show 0 + Int.toNat (i : Int) * 1 = i by omega]
  refine hd.st1 (k := 0) rfl (by rw [uCs_len]; omega) rfl fun w2 h2 => ⟨by omega, by omega, ?_⟩
  rw [add_lit', show 0 + Int.toNat (j : Int) * 1 = j by omega]
  refine h2.st1 (k := 0) rfl (by rw [List.length_set, uCs_len]; omega) rfl fun w3 h3 => hK w3 ?_
  have h3 : St w0 w3 ((g, Cs (((uCs d z).set i (.int .u32 d[j]!)).set j (.int .u32 d[i]!)) T) :: H) := h3
  rw [uCs_swp hin hjn] at h3
  exact h3
end
section
variable {g c : Nat} {T : TypeId} {z : List Value}
theorem insInner_size (a : Nat) : ∀ (j : Nat) (d : Array Int), (insInner ltInt a j d).size = d.size
  | 0, d => rfl
  | j + 1, d => by
    unfold insInner
    split
    · rw [insInner_size a j, swp_size]
    · rfl
theorem insOuter_size (a b : Nat) : ∀ (m i : Nat) (d : Array Int), b - i = m → (insOuter ltInt a b i d).size = d.size
  | 0, i, d, h => by rw [insOuter, if_neg (by omega)]
  | m + 1, i, d, h => by rw [insOuter, if_pos (by omega), insOuter_size a b m (i + 1) _ (by omega), insInner_size]
theorem insertionSort_size (d : Array Int) (a b : Nat) : (insertionSort ltInt d a b).size = d.size := insOuter_size a b _ _ _ rfl
/-- What the loops of insertionSort keep: N is the whole, D what it comes to. -/
def I1Inv (w0 : World) (H : List (Nat × Obj)) (g c : Nat) (T : TypeId) (z : List Value) (a b n : Nat) (D : Array Int) (m : Nat) (ee : Env) (w : World) : Prop :=
  ∃ (i : Nat) (d : Array Int), a < i ∧ i ≤ max b (a + 1) ∧ m = b - i ∧ d.size = n ∧ insOuter ltInt a b i d = D ∧ ee = Env.mk 49 [(0, (Value.slice (some (Addr.mk g 0 none)) n c)), (6, (Value.int .i64 i)), (1, (Value.int .i64 a)), (2, (Value.int .i64 b))] [] ∧ St w0 w ((g, Cs (uCs d z) T) :: H)
def I2Inv (w0 : World) (H : List (Nat × Obj)) (g c : Nat) (T : TypeId) (z : List Value) (a b i n : Nat) (D : Array Int) (m : Nat) (ee : Env) (w : World) : Prop :=
  ∃ (j : Nat) (d : Array Int), a ≤ j ∧ j ≤ i ∧ m = j ∧ d.size = n ∧ insInner ltInt a j d = D ∧ ee = Env.mk 49 [(7, (Value.int .i64 j)), (0, (Value.slice (some (Addr.mk g 0 none)) n c)), (1, (Value.int .i64 a)), (2, (Value.int .i64 b)), (6, (Value.int .i64 i))] [] ∧ St w0 w ((g, Cs (uCs d z) T) :: H)
theorem insertion_ok {d : Array Int} {a b : Nat} (h : St w0 w ((g, Cs (uCs d z) T) :: H)) (hab : a ≤ b) (hb : b ≤ d.size) (hn : d.size < 1000000000000) (hK : ∀ w', St w0 w' ((g, Cs (uCs (insertionSort ltInt d a b) z) T) :: H) → K (.tuple [].toArray) w') :
    CallL P 134 [.slice (some (Addr.mk g 0 none)) d.size c, .int .i64 a, .int .i64 b] w K := by
  refine f134_ok _ _ _ _ _ _ _ ?_
  rw [f134_eq, f134_s0_eq, f134_s1_eq]
  refine ⟨I1Inv w0 H g c T z a b d.size (insertionSort ltInt d a b), ⟨b - (a + 1), a + 1, d, by omega, by omega, rfl, rfl, rfl, ?_, h⟩, ?_⟩
  · rw [wrap_i64 (by omega) (by omega)]; rfl
  generalize hnn : d.size = n at hb hn
  generalize insertionSort ltInt d a b = D at hK
  rintro m ee w1 ⟨i, d1, hai, hib, rfl, hd1, hD, rfl, h1⟩
  show f134_lb2 _ _ _ _ _ _ _ _ _
  rw [f134_lb2_eq, BIf_iff]
  constructor
  · intro hlt
    have hlt : i < b := by simpa using hlt
    rw [f134_s3_eq, f134_s4_eq]
    rw [insOuter, if_pos hlt] at hD
    have out : ∀ w2 d2, d2.size = n → insOuter ltInt a b (i + 1) d2 = D → St w0 w2 ((g, Cs (uCs d2 z) T) :: H) → f134_s9 (some (Addr.mk g 0 none)) n c a b i w2 K (fun e' w' => ∃ m, m < b - i ∧ I1Inv w0 H g c T z a b n D m e' w') := by
      intro w2 d2 k1 k2 k3
      rw [f134_s9_eq]
      refine ⟨b - (i + 1), by omega, i + 1, d2, by omega, by omega, rfl, k1, k2, ?_, k3⟩
      rw [wrap_i64 (by omega) (by omega)]; rfl
    refine ⟨I2Inv w0 H g c T z a b i n (insInner ltInt a i d1), ⟨i, i, d1, by omega, by omega, rfl, hd1, rfl, rfl, h1⟩, ?_⟩
    rintro j ee w2 ⟨_, d2, haj, hji, rfl, hd2, hD2, rfl, h2⟩
    show f134_lb5 _ _ _ _ _ _ _ _ _ _ _
    rw [f134_lb5_eq, BIf_iff]
    have stop : ∀ w3, insInner ltInt a j d2 = d2 → St w0 w3 ((g, Cs (uCs d2 z) T) :: H) → f134_s9 (some (Addr.mk g 0 none)) n c a b i w3 K (fun e' w' => ∃ m, m < b - i ∧ I1Inv w0 H g c T z a b n D m e' w') := by
      intro w3 k1 k2
      refine out w3 d2 hd2 ?_ k2
      rw [← hD, ← hD2, k1]
    constructor
    · intro hja
      have hja : j > a := by simpa using hja
      obtain ⟨q, rfl⟩ : ∃ k, j = k + 1 := ⟨j - 1, by omega⟩
      have ej : IntKind.wrap .i64 (((q + 1 : Nat) : Int) - 1) = (q : Int) := by rw [wrap_i64 (by omega) (by omega)]; omega
      have hjn : q + 1 < n := by omega
      subst hd2
      refine less_at (i := q + 1) (j := q) rfl ej hjn (by omega) h2 (.head _) fun w3 h3 => ⟨_, rfl, ?_⟩
      rw [f134_s6_eq, BIf_iff]
      constructor
      · intro hl
        rw [f134_s7_eq]
        refine swap_at (i := q + 1) (j := q) rfl ej hjn (by omega) h3 fun w4 h4 => ?_
        rw [f134_s8_eq]
        refine ⟨q, by omega, q, swp d2 (q + 1) q, by omega, by omega, rfl, by rw [swp_size], ?_, by rw [ej], h4⟩
        rw [← hD2, insInner, if_pos (by simp [hl]; omega)]
      · intro hl
        refine stop w3 ?_ h3
        rw [insInner, if_neg (by simp [hl])]
    · intro hja
      have hja : ¬ j > a := by simpa using hja
      rw [f134_s6_eq, BIf_false]
      refine stop _ ?_ h2.drew
      cases j with
      | zero => rfl
      | succ j => rw [insInner, if_neg (by simp; omega)]
  · intro hge
    have hge : ¬ i < b := by simpa using hge
    rw [insOuter, if_neg hge] at hD
    subst hD
    exact hK w1 h1
/-! ### The heap -/
theorem siftDown_size (hi first : Nat) (root : Nat) (d : Array Int) : (siftDown ltInt hi first root d).size = d.size := by
  induction hm : hi - root using Nat.strongRecOn generalizing root d with
  | ind m ih =>
    subst hm
    rw [siftDown]
    split
    · rfl
    · rename_i h1
      split
      · split
        · rfl
        · split
          · rename_i h2; rw [ih (hi - (2 * root + 2)) (by omega) _ _ rfl, swp_size]
          · rfl
      · split
        · rfl
        · rw [ih (hi - (2 * root + 1)) (by omega) _ _ rfl, swp_size]
theorem heapBuild_size (hi first : Nat) : ∀ (k : Nat) (d : Array Int), (heapBuild ltInt hi first k d).size = d.size
  | 0, d => rfl
  | k + 1, d => by unfold heapBuild; rw [heapBuild_size hi first k, siftDown_size]
theorem heapPop_size (first : Nat) : ∀ (k : Nat) (d : Array Int), (heapPop ltInt first k d).size = d.size
  | 0, d => rfl
  | k + 1, d => by unfold heapPop; rw [heapPop_size first k, siftDown_size, swp_size]
theorem heapSort_size (d : Array Int) (a b : Nat) : (heapSort ltInt d a b).size = d.size := by unfold heapSort; rw [heapPop_size, heapBuild_size]
def SdInv (w0 : World) (H : List (Nat × Obj)) (g c : Nat) (T : TypeId) (z : List Value) (hi first n : Nat) (D : Array Int) (m : Nat) (ee : Env) (w : World) : Prop :=
  ∃ (root : Nat) (d : Array Int), m = hi - root ∧ root ≤ 1000000000000 ∧ d.size = n ∧ siftDown ltInt hi first root d = D ∧ ee = Env.mk 76 [(8, (Value.int .i64 root)), (3, (Value.int .i64 first)), (0, (Value.slice (some (Addr.mk g 0 none)) n c)), (2, (Value.int .i64 hi))] [] ∧ St w0 w ((g, Cs (uCs d z) T) :: H)
theorem siftDown_ok {d : Array Int} {lo hi first : Nat} {elo ehi : Int} (he1 : elo = (lo : Int)) (he2 : ehi = (hi : Int)) (h : St w0 w ((g, Cs (uCs d z) T) :: H)) (hlo : lo ≤ 1000000000000) (hb : first + hi ≤ d.size) (hn : d.size < 1000000000000) (hK : ∀ w', St w0 w' ((g, Cs (uCs (siftDown ltInt hi first lo d) z) T) :: H) → K (.tuple [].toArray) w') :
    CallL P 143 [.slice (some (Addr.mk g 0 none)) d.size c, .int .i64 elo, .int .i64 ehi, .int .i64 first] w K := by
  subst he1 he2
  refine f143_ok _ _ _ _ _ _ _ _ ?_
  rw [f143_eq, f143_s0_eq, f143_s1_eq]
  refine ⟨SdInv w0 H g c T z hi first d.size (siftDown ltInt hi first lo d), ⟨hi - lo, lo, d, rfl, hlo, rfl, rfl, rfl, h⟩, ?_⟩
  generalize hnn : d.size = n at hb hn
  generalize siftDown ltInt hi first lo d = D at hK
  rintro m ee w1 ⟨root, d1, rfl, hr, hd1, hD, rfl, h1⟩
  show f143_lb2 _ _ _ _ _ _ _ _ _
  have e1 : IntKind.wrap .i64 (IntKind.wrap .i64 ((2 : Int) * (root : Int)) + 1) = ((2 * root + 1 : Nat) : Int) := by
    rw [wrap_i64 (x := 2 * (root : Int)) (by omega) (by omega), wrap_i64 (by omega) (by omega)]; omega
  rw [f143_lb2_eq, BIf_iff, e1]
  rw [siftDown] at hD
  constructor
  · intro hge
    have hge : 2 * root + 1 ≥ hi := by simp at hge; omega
    rw [dif_pos hge] at hD
    subst hD
    exact hK w1 h1
  · intro hlt
    have hlt : ¬ 2 * root + 1 ≥ hi := by simp at hlt; omega
    rw [dif_neg hlt] at hD
    subst hd1
    have step : ∀ w2 (ch : Nat), 2 * root + 1 ≤ ch → ch < hi → (if (!ltInt d1[first + root]! d1[first + ch]!) = true then d1 else siftDown ltInt hi first ch (swp d1 (first + root) (first + ch))) = D → St w0 w2 ((g, Cs (uCs d1 z) T) :: H) →
        f143_s5 root first (some (Addr.mk g 0 none)) d1.size c hi ch w2 K (fun e' w' => ∃ m, m < hi - root ∧ SdInv w0 H g c T z hi first d1.size D m e' w') := by
      intro w2 ch c1 c2 hD2 h2
      have ea : IntKind.wrap .i64 ((first : Int) + (root : Int)) = ((first + root : Nat) : Int) := by rw [wrap_i64 (by omega) (by omega)]; omega
      have eb : IntKind.wrap .i64 ((first : Int) + (ch : Int)) = ((first + ch : Nat) : Int) := by rw [wrap_i64 (by omega) (by omega)]; omega
      rw [f143_s5_eq]
      refine less_at (i := first + root) (j := first + ch) ea eb (by omega) (by omega) h2 (.head _) fun w3 h3 => ⟨_, rfl, ?_⟩
      rw [f143_s6_eq, BIf_iff]
      constructor
      · intro hl
        rw [if_pos hl] at hD2
        subst hD2
        exact hK w3 h3
      · intro hl
        rw [if_neg (by simp [hl])] at hD2
        rw [f143_s7_eq]
        refine swap_at (i := first + root) (j := first + ch) ea eb (by omega) (by omega) h3 fun w4 h4 => ?_
        rw [f143_s8_eq]
        exact ⟨hi - ch, by omega, ch, _, rfl, by omega, by rw [swp_size], hD2, rfl, h4⟩
    rw [f143_s3_eq, BIf_iff]
    have e2 : IntKind.wrap .i64 (((2 * root + 1 : Nat) : Int) + 1) = ((2 * root + 2 : Nat) : Int) := by rw [wrap_i64 (by omega) (by omega)]; omega
    rw [e2]
    constructor
    · intro hc
      have hc : 2 * root + 2 < hi := by simp at hc; omega
      have ea : IntKind.wrap .i64 ((first : Int) + ((2 * root + 1 : Nat) : Int)) = ((first + (2 * root + 1) : Nat) : Int) := by rw [wrap_i64 (by omega) (by omega)]; omega
      have eb : IntKind.wrap .i64 (IntKind.wrap .i64 ((first : Int) + ((2 * root + 1 : Nat) : Int)) + 1) = ((first + (2 * root + 1) + 1 : Nat) : Int) := by rw [ea, wrap_i64 (by omega) (by omega)]; omega
      refine less_at (i := first + (2 * root + 1)) (j := first + (2 * root + 1) + 1) ea eb (by omega) (by omega) h1 (.head _) fun w2 h2 => ⟨_, rfl, ?_⟩
      rw [f143_s4_eq, BIf_iff]
      constructor
      · intro hl
        rw [if_pos (by simp [hl]; omega)] at hD
        rw [e2]
        refine step w2 (2 * root + 2) (by omega) hc ?_ h2
        rw [← hD]
        split <;> rfl
      · intro hl
        rw [if_neg (by simp [hl])] at hD
        exact step w2 (2 * root + 1) (by omega) (by omega) hD h2
    · intro hc
      have hc : ¬ 2 * root + 2 < hi := by simp at hc; omega
      rw [if_neg (by simp; omega)] at hD
      rw [f143_s4_eq, BIf_false]
      exact step _ (2 * root + 1) (by omega) (by omega) hD h1.drew
def HbInv (w0 : World) (H : List (Nat × Obj)) (g c : Nat) (T : TypeId) (z : List Value) (first hi n : Nat) (D : Array Int) (m : Nat) (ee : Env) (w : World) : Prop :=
  ∃ (d : Array Int), m ≤ 1000000000000 ∧ d.size = n ∧ heapBuild ltInt hi first m d = D ∧ ee = Env.mk 56 [(9, (Value.int .i64 ((m : Int) - 1))), (6, (Value.int .i64 first)), (8, (Value.int .i64 hi)), (0, (Value.slice (some (Addr.mk g 0 none)) n c)), (7, (Value.int .i64 0))] [] ∧ St w0 w ((g, Cs (uCs d z) T) :: H)
def HpInv (w0 : World) (H : List (Nat × Obj)) (g c : Nat) (T : TypeId) (z : List Value) (first hi n : Nat) (D : Array Int) (m : Nat) (ee : Env) (w : World) : Prop :=
  ∃ (d : Array Int), m ≤ hi ∧ d.size = n ∧ heapPop ltInt first m d = D ∧ ee = Env.mk 56 [(10, (Value.int .i64 ((m : Int) - 1))), (6, (Value.int .i64 first)), (7, (Value.int .i64 0)), (0, (Value.slice (some (Addr.mk g 0 none)) n c))] [] ∧ St w0 w ((g, Cs (uCs d z) T) :: H)
theorem heap_ok {d : Array Int} {a b : Nat} (h : St w0 w ((g, Cs (uCs d z) T) :: H)) (hab : a ≤ b) (hb : b ≤ d.size) (hn : d.size < 1000000000000) (hK : ∀ w', St w0 w' ((g, Cs (uCs (heapSort ltInt d a b) z) T) :: H) → K (.tuple [].toArray) w') :
    CallL P 135 [.slice (some (Addr.mk g 0 none)) d.size c, .int .i64 a, .int .i64 b] w K := by
  refine f135_ok _ _ _ _ _ _ _ ?_
  have e1 : IntKind.wrap .i64 ((b : Int) - (a : Int)) = ((b - a : Nat) : Int) := by rw [wrap_i64 (by omega) (by omega)]; omega
  rw [f135_eq, f135_s0_eq, f135_s1_eq, f135_s2_eq, e1, f135_s3_eq]
  have e2 : IntKind.wrap .i64 ((IntKind.wrap .i64 (((b - a : Nat) : Int) - 1)).tdiv 2) = (((b - a - 1) / 2 + 1 : Nat) : Int) - 1 := by
    rw [wrap_i64 (x := ((b - a : Nat) : Int) - 1) (by omega) (by omega)]
    by_cases hz : b - a = 0
    · rw [hz]; rfl
    · rw [Int.tdiv_eq_ediv_of_nonneg (by omega), wrap_i64 (by omega) (by omega)]
      omega
  rw [e2]
  unfold heapSort at hK
  refine ⟨by omega, ?_⟩
  rw [f135_s4_eq]
  refine ⟨HbInv w0 H g c T z a (b - a) d.size (heapBuild ltInt (b - a) a ((b - a - 1) / 2 + 1) d), ⟨(b - a - 1) / 2 + 1, d, by omega, rfl, rfl, rfl, h⟩, ?_⟩
  generalize hnn : d.size = n at hb hn
  generalize hBB : heapBuild ltInt (b - a) a ((b - a - 1) / 2 + 1) d = D0 at hK
  have hD0 : D0.size = n := by rw [← hBB, heapBuild_size, hnn]
  rintro m ee w1 ⟨d1, hm, hd1, hD, rfl, h1⟩
  show f135_lb5 _ _ _ _ _ _ _ _ _ _
  rw [f135_lb5_eq, BIf_iff]
  constructor
  · intro hge
    obtain ⟨m, rfl⟩ : ∃ k, m = k + 1 := ⟨m - 1, by simp at hge; omega⟩
    rw [f135_s6_eq]
    subst hd1
    refine siftDown_ok (lo := m) (by omega) rfl h1 (by omega) (by omega) hn fun w2 h2 => ⟨rfl, ?_⟩
    rw [f135_s7_eq]
    refine ⟨m, by omega, _, by omega, siftDown_size _ _ _ _, hD, ?_, h2⟩
    rw [wrap_i64 (by omega) (by omega)]
    have : ((m + 1 : Nat) : Int) - 1 - 1 = (m : Int) - 1 := by omega
    rw [this]
  · intro hlt
    have : m = 0 := by simp at hlt; omega
    subst this
    have hD : d1 = D0 := hD
    subst hD
    rw [f135_s8_eq, f135_s9_eq]
    have e3 : IntKind.wrap .i64 (((b - a : Nat) : Int) - 1) = ((b - a : Nat) : Int) - 1 := by rw [wrap_i64 (by omega) (by omega)]
    rw [e3]
    refine ⟨HpInv w0 H g c T z a (b - a) n (heapPop ltInt a (b - a) d1), ⟨b - a, d1, by omega, hd1, rfl, rfl, h1⟩, ?_⟩
    generalize heapPop ltInt a (b - a) d1 = D at hK
    rintro m ee w2 ⟨d2, hm2, hd2, hD2, rfl, h2⟩
    show f135_lb10 _ _ _ _ _ _ _ _ _
    rw [f135_lb10_eq, BIf_iff]
    constructor
    · intro hge
      obtain ⟨m, rfl⟩ : ∃ k, m = k + 1 := ⟨m - 1, by simp at hge; omega⟩
      rw [f135_s11_eq]
      have ei : IntKind.wrap .i64 ((a : Int) + (((m + 1 : Nat) : Int) - 1)) = ((a + m : Nat) : Int) := by rw [wrap_i64 (by omega) (by omega)]; omega
      subst hd2
      refine swap_at (i := a) (j := a + m) rfl ei (by omega) (by omega) h2 fun w3 h3 => ?_
      rw [f135_s12_eq]
      have es : (swp d2 a (a + m)).size = d2.size := swp_size _ _ _
      rw [← es]
      refine siftDown_ok (lo := 0) (hi := m) rfl (by omega) h3 (by omega) (by omega) (by omega) fun w4 h4 => ⟨rfl, ?_⟩
      rw [f135_s13_eq]
      refine ⟨m, by omega, _, by omega, by rw [siftDown_size, swp_size], hD2, ?_, h4⟩
      rw [wrap_i64 (by omega) (by omega), es]
      have : ((m + 1 : Nat) : Int) - 1 - 1 = (m : Int) - 1 := by omega
      rw [this]
    · intro hlt
      have : m = 0 := by simp at hlt; omega
      subst this
      have hD2 : d2 = D := hD2
      subst hD2
      exact hK w2 h2
end
end Go.Fx.Try
namespace Go.Fx.Try
open Go Go.Fx Go.Fx.Mo
open Go.Proofs
open Go.Sort (swp swp_size ltInt order2 median medianAdjacent choosePivot reverseLoop reverseRange Hint xorNext xorNextN bitsLen breakStep breakPatterns)
variable {w0 w : World} {H X : List (Nat × Obj)} {K : Value → World → Prop}
set_option maxRecDepth 20000
section
variable {g c : Nat} {T : TypeId} {z : List Value}
def RvInv (w0 : World) (H : List (Nat × Obj)) (g c : Nat) (T : TypeId) (z : List Value) (n : Nat) (D : Array Int) (m : Nat) (ee : Env) (w : World) : Prop :=
  ∃ (i j : Nat) (d : Array Int), m = j - i ∧ j < n ∧ i ≤ n ∧ d.size = n ∧ reverseLoop i j d = D ∧ ee = Env.mk 32 [(7, (Value.int .i64 j)), (6, (Value.int .i64 i)), (0, (Value.slice (some (Addr.mk g 0 none)) n c))] [] ∧ St w0 w ((g, Cs (uCs d z) T) :: H)
theorem reverse_ok {d : Array Int} {a b : Nat} (h : St w0 w ((g, Cs (uCs d z) T) :: H)) (hab : a < b) (hb : b ≤ d.size) (hn : d.size < 1000000000000) (hK : ∀ w', St w0 w' ((g, Cs (uCs (reverseRange d a b) z) T) :: H) → K (.tuple [].toArray) w') :
    CallL P 138 [.slice (some (Addr.mk g 0 none)) d.size c, .int .i64 a, .int .i64 b] w K := by
  refine f138_ok _ _ _ _ _ _ _ ?_
  rw [f138_eq, f138_s0_eq, f138_s1_eq, f138_s2_eq]
  have e1 : IntKind.wrap .i64 ((b : Int) - 1) = ((b - 1 : Nat) : Int) := by rw [wrap_i64 (by omega) (by omega)]; omega
  rw [e1]
  refine ⟨RvInv w0 H g c T z d.size (reverseRange d a b), ⟨b - 1 - a, a, b - 1, d, rfl, by omega, by omega, rfl, rfl, rfl, h⟩, ?_⟩
  generalize hnn : d.size = n at hb hn
  generalize reverseRange d a b = D at hK
  rintro m ee w1 ⟨i, j, d1, rfl, hj, hi, hd1, hD, rfl, h1⟩
  show f138_lb3 _ _ _ _ _ _ _ _
  rw [f138_lb3_eq, BIf_iff]
  rw [reverseLoop] at hD
  constructor
  · intro hlt
    have hlt : i < j := by simpa using hlt
    rw [if_pos hlt] at hD
    rw [f138_s4_eq]
    subst hd1
    refine swap_at (i := i) (j := j) rfl rfl (by omega) (by omega) h1 fun w2 h2 => ?_
    rw [f138_s5_eq]
    have ej : IntKind.wrap .i64 ((j : Int) - 1) = ((j - 1 : Nat) : Int) := by rw [wrap_i64 (by omega) (by omega)]; omega
    have ei : IntKind.wrap .i64 ((i : Int) + 1) = ((i + 1 : Nat) : Int) := by rw [wrap_i64 (by omega) (by omega)]; omega
    exact ⟨j - 1 - (i + 1), by omega, i + 1, j - 1, _, rfl, by omega, by omega, swp_size _ _ _, hD, by rw [ei, ej], h2⟩
  · intro hge
    have hge : ¬ i < j := by simpa using hge
    rw [if_neg hge] at hD
    subst hD
    exact hK w1 h1
/-! ### Medians -/
theorem order2_ok {d : Array Int} {a b p s : Nat} {ea eb : Int} (ha : ea = (a : Int)) (hb : eb = (b : Int)) (hm : (g, Cs (uCs d z) T) ∈ X) (h : St w0 w ((p, Cs [I64 s] 3) :: X)) (han : a < d.size) (hbn : b < d.size) (hs : s < 1000)
    (hK : ∀ w', St w0 w' ((p, Cs [I64 ((order2 ltInt d a b s).2.2 : Nat)] 3) :: X) → K (.tuple [I64 ((order2 ltInt d a b s).1 : Nat), I64 ((order2 ltInt d a b s).2.1 : Nat)].toArray) w') :
    CallL P 146 [.slice (some (Addr.mk g 0 none)) d.size c, .int .i64 ea, .int .i64 eb, .pointer (some (Addr.mk p 0 none))] w K := by
  subst ha hb
  refine f146_ok _ _ _ _ _ _ _ _ ?_
  rw [f146_eq]
  refine less_at (i := b) (j := a) rfl rfl hbn han h (List.mem_cons_of_mem _ hm) fun w1 h1 => ⟨_, rfl, ?_⟩
  unfold order2 at hK
  rw [f146_s0_eq, BIf_iff]
  constructor
  · intro hl
    rw [if_pos hl] at hK
    refine ⟨(s : Int), h1.cell (k := 0) rfl, ?_⟩
    refine h1.st1 (k := 0) rfl (by simp) rfl fun w2 h2 => ?_
    have h2 : St w0 w2 ((p, Cs [I64 (IntKind.wrap .i64 ((s : Int) + 1))] 3) :: X) := h2
    rw [wrap_i64 (by omega) (by omega), show (s : Int) + 1 = ((s + 1 : Nat) : Int) by omega] at h2
    exact hK w2 h2
  · intro hl
    rw [if_neg (by simp [hl])] at hK
    rw [f146_s1_eq]
    exact hK w1 h1
theorem order2_in (d : Array Int) (a b s n : Nat) (ha : a < n) (hb : b < n) : (order2 ltInt d a b s).1 < n ∧ (order2 ltInt d a b s).2.1 < n ∧ (order2 ltInt d a b s).2.2 ≤ s + 1 := by
  unfold order2
  split
  · exact ⟨hb, ha, Nat.le_refl _⟩
  · exact ⟨ha, hb, Nat.le_succ _⟩
theorem median_in (d : Array Int) (a b c' s n : Nat) (ha : a < n) (hb : b < n) (hc : c' < n) : (median ltInt d a b c' s).1 < n ∧ (median ltInt d a b c' s).2 ≤ s + 3 := by
  unfold median
  simp only
  obtain ⟨h1, h2, h3⟩ := order2_in d a b s n ha hb
  obtain ⟨h4, h5, h6⟩ := order2_in d (order2 ltInt d a b s).2.1 c' (order2 ltInt d a b s).2.2 n h2 hc
  obtain ⟨h7, h8, h9⟩ := order2_in d (order2 ltInt d a b s).1 (order2 ltInt d (order2 ltInt d a b s).2.1 c' (order2 ltInt d a b s).2.2).1 (order2 ltInt d (order2 ltInt d a b s).2.1 c' (order2 ltInt d a b s).2.2).2.2 n h1 h4
  exact ⟨h8, by omega⟩
theorem median_ok {d : Array Int} {a b c' p s : Nat} {ea eb ec : Int} (ha : ea = (a : Int)) (hb : eb = (b : Int)) (hc : ec = (c' : Int)) (hm : (g, Cs (uCs d z) T) ∈ X) (h : St w0 w ((p, Cs [I64 s] 3) :: X)) (han : a < d.size) (hbn : b < d.size) (hcn : c' < d.size) (hs : s < 900)
    (hK : ∀ w', St w0 w' ((p, Cs [I64 ((median ltInt d a b c' s).2 : Nat)] 3) :: X) → K (I64 ((median ltInt d a b c' s).1 : Nat)) w') :
    CallL P 145 [.slice (some (Addr.mk g 0 none)) d.size c, .int .i64 ea, .int .i64 eb, .int .i64 ec, .pointer (some (Addr.mk p 0 none))] w K := by
  refine f145_ok _ _ _ _ _ _ _ _ _ ?_
  rw [f145_eq]
  obtain ⟨h1, h2, h3⟩ := order2_in d a b s d.size han hbn
  refine order2_ok ha hb hm h han hbn (by omega) fun w1 k1 => ⟨_, _, rfl, ?_⟩
  obtain ⟨h4, h5, h6⟩ := order2_in d (order2 ltInt d a b s).2.1 c' (order2 ltInt d a b s).2.2 d.size h2 hcn
  refine order2_ok rfl hc hm k1 h2 hcn (by omega) fun w2 k2 => ⟨_, _, rfl, ?_⟩
  refine order2_ok rfl rfl hm k2 h1 h4 (by omega) fun w3 k3 => ⟨_, _, rfl, ?_⟩
  exact hK w3 k3
theorem adjacent_ok {d : Array Int} {a p s : Nat} {ea : Int} (ha : ea = (a : Int)) (hm : (g, Cs (uCs d z) T) ∈ X) (h : St w0 w ((p, Cs [I64 s] 3) :: X)) (ha1 : 1 ≤ a) (han : a + 1 < d.size) (hn : d.size < 1000000000000) (hs : s < 900)
    (hK : ∀ w', St w0 w' ((p, Cs [I64 ((medianAdjacent ltInt d a s).2 : Nat)] 3) :: X) → K (I64 ((medianAdjacent ltInt d a s).1 : Nat)) w') :
    CallL P 144 [.slice (some (Addr.mk g 0 none)) d.size c, .int .i64 ea, .pointer (some (Addr.mk p 0 none))] w K := by
  subst ha
  refine f144_ok _ _ _ _ _ _ _ ?_
  rw [f144_eq]
  refine median_ok (a := a - 1) (b := a) (c' := a + 1) ?_ rfl ?_ hm h (by omega) (by omega) (by omega) hs fun w1 k1 => ⟨_, rfl, hK w1 k1⟩
  · rw [wrap_i64 (by omega) (by omega)]; omega
  · rw [wrap_i64 (by omega) (by omega)]; omega
def hintI : Hint → Int
  | .unknown => 0
  | .increasing => 1
  | .decreasing => 2
theorem z3i : zcells P 3 = [I64 0].toArray := by kernel_rfl
theorem pivot_ok {d : Array Int} {a b : Nat} (hm : (g, Cs (uCs d z) T) ∈ X) (h : St w0 w X) (hab : a < b) (hb : b ≤ d.size) (hn : d.size < 1000000000000)
    (hK : ∀ w', St w0 w' X → K (.tuple [I64 ((choosePivot ltInt d a b).1 : Nat), I64 (hintI (choosePivot ltInt d a b).2)].toArray) w') :
    CallL P 137 [.slice (some (Addr.mk g 0 none)) d.size c, .int .i64 a, .int .i64 b] w K := by
  refine f137_ok _ _ _ _ _ _ _ ?_
  have el : IntKind.wrap .i64 ((b : Int) - (a : Int)) = ((b - a : Nat) : Int) := by rw [wrap_i64 (by omega) (by omega)]; omega
  rw [f137_eq, f137_s0_eq, f137_s1_eq, f137_s2_eq, z3i]
  refine h.newC fun p w1 hp h1 => ?_
  have h1 : St w0 w1 ((p, Cs [I64 ((0 : Nat) : Int)] 3) :: X) := h1
  rw [el, f137_s3_eq]
  have e4 : IntKind.wrap .i64 (((b - a : Nat) : Int).tdiv 4) = (((b - a) / 4 : Nat) : Int) := by
    rw [Int.tdiv_eq_ediv_of_nonneg (by omega), wrap_i64 (by omega) (by omega)]; omega
  rw [e4]
  have ek : ∀ k : Nat, k ≤ 3 → IntKind.wrap .i64 ((a : Int) + IntKind.wrap .i64 ((((b - a) / 4 : Nat) : Int) * (k : Int))) = ((a + (b - a) / 4 * k : Nat) : Int) := fun k hk => by
    have hle : (b - a) / 4 * k ≤ (b - a) / 4 * 3 := Nat.mul_le_mul_left _ hk
    rw [show ((((b - a) / 4 : Nat) : Int) * (k : Int)) = (((b - a) / 4 * k : Nat) : Int) by rw [Int.natCast_mul], wrap_i64 (x := (((b - a) / 4 * k : Nat) : Int)) (by omega) (by omega), wrap_i64 (by omega) (by omega)]
    omega
  have ek1 := ek 1 (by omega)
  have ek2 := ek 2 (by omega)
  have ek3 := ek 3 (by omega)
  refine ⟨by omega, ?_⟩
  rw [f137_s4_eq]
  refine ⟨by omega, ?_⟩
  rw [f137_s5_eq]
  refine ⟨by omega, ?_⟩
  rw [f137_s6_eq, e4]
  have ek1' : IntKind.wrap .i64 ((a : Int) + IntKind.wrap .i64 ((((b - a) / 4 : Nat) : Int) * 1)) = ((a + (b - a) / 4 * 1 : Nat) : Int) := ek1
  have ek2' : IntKind.wrap .i64 ((a : Int) + IntKind.wrap .i64 ((((b - a) / 4 : Nat) : Int) * 2)) = ((a + (b - a) / 4 * 2 : Nat) : Int) := ek2
  have ek3' : IntKind.wrap .i64 ((a : Int) + IntKind.wrap .i64 ((((b - a) / 4 : Nat) : Int) * 3)) = ((a + (b - a) / 4 * 3 : Nat) : Int) := ek3
  rw [ek1', ek2', ek3']
  have s8 : ∀ w2 (r : Nat × Nat), (r.1, if r.2 = 0 then Hint.increasing else if r.2 = 12 then .decreasing else .unknown) = choosePivot ltInt d a b → r.2 ≤ 100 → St w0 w2 ((p, Cs [I64 ((r.2 : Nat) : Int)] 3) :: X) → f137_s8 ((r.1 : Nat) : Int) (Addr.mk p 0 none) w2 K := by
    intro w2 r hr hr2 h2
    have hK := hK w2 (h2.tail hp)
    rw [← hr] at hK
    rw [f137_s8_eq]
    refine ⟨((r.2 : Nat) : Int), h2.cell (k := 0) rfl, ?_⟩
    rw [f137_s9_eq, BIf_iff]
    refine ⟨fun h0 => ?_, fun h0 => ?_⟩
    · have h0 : r.2 = 0 := by simp at h0; omega
      rw [if_pos h0] at hK
      exact hK
    · have h0 : r.2 ≠ 0 := by simp at h0; omega
      rw [if_neg h0] at hK
      rw [BIf_iff]
      refine ⟨fun h12 => ?_, fun h12 => ?_⟩
      · have h12 : r.2 = 12 := by simp at h12; omega
        rw [if_pos h12] at hK
        exact hK
      · have h12 : r.2 ≠ 12 := by simp at h12; omega
        rw [if_neg h12] at hK
        exact hK
  have s7 : ∀ w2 (i j k s : Nat), ((median ltInt d i j k s).1, if (median ltInt d i j k s).2 = 0 then Hint.increasing else if (median ltInt d i j k s).2 = 12 then .decreasing else .unknown) = choosePivot ltInt d a b → i < d.size → j < d.size → k < d.size → s ≤ 20 →
      St w0 w2 ((p, Cs [I64 ((s : Nat) : Int)] 3) :: X) → f137_s7 (Addr.mk p 0 none) ((k : Nat) : Int) ((j : Nat) : Int) ((i : Nat) : Int) (some (Addr.mk g 0 none)) d.size c w2 K := by
    intro w2 i j k s hr hi hj hk hs h2
    rw [f137_s7_eq]
    obtain ⟨_, m2⟩ := median_in d i j k s d.size hi hj hk
    exact median_ok rfl rfl rfl hm h2 hi hj hk (by omega) fun w3 h3 => ⟨_, rfl, s8 w3 (median ltInt d i j k s) hr (by omega) h3⟩
  have hcp : choosePivot ltInt d a b = ((if b - a ≥ 8 then (if b - a ≥ 50 then median ltInt d (medianAdjacent ltInt d (a + (b - a) / 4 * 1) 0).1 (medianAdjacent ltInt d (a + (b - a) / 4 * 2) (medianAdjacent ltInt d (a + (b - a) / 4 * 1) 0).2).1
      (medianAdjacent ltInt d (a + (b - a) / 4 * 3) (medianAdjacent ltInt d (a + (b - a) / 4 * 2) (medianAdjacent ltInt d (a + (b - a) / 4 * 1) 0).2).2).1 (medianAdjacent ltInt d (a + (b - a) / 4 * 3) (medianAdjacent ltInt d (a + (b - a) / 4 * 2) (medianAdjacent ltInt d (a + (b - a) / 4 * 1) 0).2).2).2
      else median ltInt d (a + (b - a) / 4 * 1) (a + (b - a) / 4 * 2) (a + (b - a) / 4 * 3) 0) else (a + (b - a) / 4 * 2, 0)).1, if (if b - a ≥ 8 then (if b - a ≥ 50 then median ltInt d (medianAdjacent ltInt d (a + (b - a) / 4 * 1) 0).1 (medianAdjacent ltInt d (a + (b - a) / 4 * 2) (medianAdjacent ltInt d (a + (b - a) / 4 * 1) 0).2).1
      (medianAdjacent ltInt d (a + (b - a) / 4 * 3) (medianAdjacent ltInt d (a + (b - a) / 4 * 2) (medianAdjacent ltInt d (a + (b - a) / 4 * 1) 0).2).2).1 (medianAdjacent ltInt d (a + (b - a) / 4 * 3) (medianAdjacent ltInt d (a + (b - a) / 4 * 2) (medianAdjacent ltInt d (a + (b - a) / 4 * 1) 0).2).2).2
      else median ltInt d (a + (b - a) / 4 * 1) (a + (b - a) / 4 * 2) (a + (b - a) / 4 * 3) 0) else (a + (b - a) / 4 * 2, 0)).2 = 0 then Hint.increasing else if (if b - a ≥ 8 then (if b - a ≥ 50 then median ltInt d (medianAdjacent ltInt d (a + (b - a) / 4 * 1) 0).1 (medianAdjacent ltInt d (a + (b - a) / 4 * 2) (medianAdjacent ltInt d (a + (b - a) / 4 * 1) 0).2).1
      (medianAdjacent ltInt d (a + (b - a) / 4 * 3) (medianAdjacent ltInt d (a + (b - a) / 4 * 2) (medianAdjacent ltInt d (a + (b - a) / 4 * 1) 0).2).2).1 (medianAdjacent ltInt d (a + (b - a) / 4 * 3) (medianAdjacent ltInt d (a + (b - a) / 4 * 2) (medianAdjacent ltInt d (a + (b - a) / 4 * 1) 0).2).2).2
      else median ltInt d (a + (b - a) / 4 * 1) (a + (b - a) / 4 * 2) (a + (b - a) / 4 * 3) 0) else (a + (b - a) / 4 * 2, 0)).2 = 12 then .decreasing else .unknown) := rfl
  rw [BIf_iff]
  refine ⟨fun h8 => ?_, fun h8 => ?_⟩
  · have h8 : b - a ≥ 8 := by simp at h8; omega
    simp only [if_pos h8] at hcp
    rw [BIf_iff]
    refine ⟨fun h50 => ?_, fun h50 => ?_⟩
    · have h50 : b - a ≥ 50 := by simp at h50; omega
      simp only [if_pos h50] at hcp
      have b1 : ∀ s, (medianAdjacent ltInt d (a + (b - a) / 4 * 1) s).1 < d.size ∧ (medianAdjacent ltInt d (a + (b - a) / 4 * 1) s).2 ≤ s + 3 := fun s => median_in _ _ _ _ _ _ (by omega) (by omega) (by omega)
      have b2 : ∀ s, (medianAdjacent ltInt d (a + (b - a) / 4 * 2) s).1 < d.size ∧ (medianAdjacent ltInt d (a + (b - a) / 4 * 2) s).2 ≤ s + 3 := fun s => median_in _ _ _ _ _ _ (by omega) (by omega) (by omega)
      have b3 : ∀ s, (medianAdjacent ltInt d (a + (b - a) / 4 * 3) s).1 < d.size ∧ (medianAdjacent ltInt d (a + (b - a) / 4 * 3) s).2 ≤ s + 3 := fun s => median_in _ _ _ _ _ _ (by omega) (by omega) (by omega)
      have c1 := b1 0
      refine adjacent_ok rfl hm h1 (by omega) (by omega) hn (by omega) fun w2 h2 => ⟨_, rfl, ?_⟩
      have c2 := b2 (medianAdjacent ltInt d (a + (b - a) / 4 * 1) 0).2
      refine adjacent_ok rfl hm h2 (by omega) (by omega) hn (by omega) fun w3 h3 => ⟨_, rfl, ?_⟩
      have c3 := b3 (medianAdjacent ltInt d (a + (b - a) / 4 * 2) (medianAdjacent ltInt d (a + (b - a) / 4 * 1) 0).2).2
      refine adjacent_ok rfl hm h3 (by omega) (by omega) hn (by omega) fun w4 h4 => ⟨_, rfl, ?_⟩
      exact s7 w4 _ _ _ _ hcp.symm c1.1 c2.1 c3.1 (by omega) h4
    · have h50 : ¬ b - a ≥ 50 := by simp at h50; omega
      simp only [if_neg h50] at hcp
      exact s7 w1 _ _ _ _ hcp.symm (by omega) (by omega) (by omega) (by omega) h1
  · have h8 : ¬ b - a ≥ 8 := by simp at h8; omega
    simp only [if_neg h8] at hcp
    exact s8 w1 (a + (b - a) / 4 * 2, 0) hcp.symm (by simp) h1
end
end Go.Fx.Try
namespace Go.Fx.Try
open Go Go.Fx Go.Fx.Mo
open Go.Proofs
open Go.Sort (swp swp_size ltInt xorNext xorNextN bitsLen breakStep breakPatterns)
variable {w0 w : World} {H X : List (Nat × Obj)} {K : Value → World → Prop}
set_option maxRecDepth 20000
theorem St.drewN (h : St w0 w H) (n : Nat) : St w0 (w.drewN n) H := ⟨⟨h.kept.os, h.kept.tape, h.kept.output⟩, h.le, h.has, h.nd, h.old⟩
theorem next_ok {p x : Nat} {T2 : TypeId} (h : St w0 w ((p, Cs [.int .u64 (x : Nat)] T2) :: X)) (hx : x < 18446744073709551616) (hK : ∀ w', St w0 w' ((p, Cs [.int .u64 (xorNextN x : Nat)] T2) :: X) → K (.int .u64 (xorNextN x : Nat)) w') :
    CallL P 103 [.pointer (some (Addr.mk p 0 none))] w K := by
  have hb : w.heap[p]? = some (Cs [.int .u64 (x : Nat)] T2) := h.has _ _ (.head _)
  refine CallL_of (AnyF.xorshift_Next (P := P) (ρ := Try.sortR_ren) { Try.sortR with } p 0 x hx w (cell_of hb) (frozen_of hb)) ?_
  rintro e w' ⟨rfl, rfl⟩
  refine ⟨_, rfl, hK _ ?_⟩
  have e : w.setCell (Addr.mk p 0 none) (.int .u64 (xorNextN x : Nat)) = w.putObj p (Cs [.int .u64 (xorNextN x : Nat)] T2) := setCell_of _ hb
  have e' : w.setCell ⟨p, 0, none⟩ (.int .u64 (xorNextN x : Nat)) = w.putObj p (Cs [.int .u64 (xorNextN x : Nat)] T2) := e
  rw [e']
  exact St.drewN (h.put (k := 0) rfl _) 3
theorem pow_ok (h : St w0 w X) {n : Nat} (hn : n < 4611686018427387904) (hK : ∀ w', St w0 w' X → K (.int .u64 ((1 <<< bitsLen n : Nat) : Int)) w') : CallL P 102 [.int .i64 (n : Nat)] w K := by
  refine CallL_of (AnyF.nextPowerOfTwo (P := P) (ρ := Try.sortR_ren) { Try.sortR with } n hn w) ?_
  rintro e w' ⟨rfl, rfl⟩
  exact ⟨_, rfl, hK w' h⟩
section
variable {g c : Nat} {T : TypeId} {z : List Value}
def brk (a length modulus idx0 : Nat) (d : Array Int) : Nat → UInt64 × Array Int
  | 0 => (UInt64.ofNat length, d)
  | k + 1 => breakStep a length modulus (brk a length modulus idx0 d k) (idx0 + k)
theorem brk_size (a length modulus idx0 : Nat) (d : Array Int) : ∀ k, (brk a length modulus idx0 d k).2.size = d.size
  | 0 => rfl
  | k + 1 => by
    have := brk_size a length modulus idx0 d k
    show (swp _ _ _).size = _
    rw [swp_size, this]
theorem breakPatterns_is (d : Array Int) (a b : Nat) (h : b - a ≥ 8) : breakPatterns d a b = (brk a (b - a) (1 <<< bitsLen (b - a)) (a + (b - a) / 4 * 2 - 1) d 3).2 := by
  unfold breakPatterns
  simp only [if_pos h]
  rfl
theorem pow_le (n : Nat) (h : 0 < n) : 1 <<< bitsLen n ≤ 2 * n := by
  rw [Nat.one_shiftLeft]
  unfold bitsLen
  rw [if_neg (by omega), Nat.pow_succ]
  have := Nat.log2_self_le (n := n) (by omega)
  omega
theorem pow_pos' (n : Nat) : 0 < 1 <<< bitsLen n := by rw [Nat.one_shiftLeft]; exact Nat.two_pow_pos _
theorem and_u64 {x y : Nat} (hx : x < 18446744073709551616) (hy : y < 4611686018427387904) : IntKind.wrap .i64 (IntKind.wrap .u64 ((BitVec.ofInt (IntKind.bits .u64) (x : Int) &&& BitVec.ofInt (IntKind.bits .u64) (y : Int)).toNat : Int)) = ((x &&& y : Nat) : Int) := by
  have h1 : (BitVec.ofInt (IntKind.bits .u64) (x : Int) &&& BitVec.ofInt (IntKind.bits .u64) (y : Int)).toNat = x &&& y := by
    rw [BitVec.toNat_and, BitVec.ofInt_natCast, BitVec.ofInt_natCast, BitVec.toNat_ofNat, BitVec.toNat_ofNat]
    show x % 2 ^ 64 &&& y % 2 ^ 64 = x &&& y
    rw [Nat.mod_eq_of_lt (by omega), Nat.mod_eq_of_lt (by omega)]
  have h2 : x &&& y ≤ y := Nat.and_le_right
  rw [h1]
  have h3 : IntKind.wrap .u64 ((x &&& y : Nat) : Int) = ((x &&& y : Nat) : Int) := by
    simp only [IntKind.wrap, IntKind.bits, IntKind.signed]
    simp
    omega
  rw [h3, wrap_i64 (by omega) (by omega)]
theorem z188 : zcells P 188 = [Value.int .u64 0].toArray := by kernel_rfl
def BkInv (w0 : World) (H : List (Nat × Obj)) (g c : Nat) (T : TypeId) (z : List Value) (p a length modulus idx0 : Nat) (d : Array Int) (m : Nat) (ee : Env) (w : World) : Prop :=
  ∃ k : Nat, k ≤ 3 ∧ m = 3 - k ∧ ee = Env.mk 65 [(9, (Value.int .i64 ((idx0 + k : Nat) : Int))), (0, (Value.slice (some (Addr.mk g 0 none)) d.size c)), (1, (Value.int .i64 a)), (6, (Value.int .i64 length)), (8, (Value.int .u64 modulus)), (7, (Value.pointer (some (Addr.mk p 0 none))))] [] ∧
    St w0 w ((g, Cs (uCs (brk a length modulus idx0 d k).2 z) T) :: (p, Cs [.int .u64 ((brk a length modulus idx0 d k).1.toNat : Nat)] 188) :: H)
theorem break_ok {d : Array Int} {a b : Nat} (h : St w0 w ((g, Cs (uCs d z) T) :: H)) (hab : a ≤ b) (hb : b ≤ d.size) (hn : d.size < 1000000000000) (hK : ∀ w', St w0 w' ((g, Cs (uCs (breakPatterns d a b) z) T) :: H) → K (.tuple [].toArray) w') :
    CallL P 136 [.slice (some (Addr.mk g 0 none)) d.size c, .int .i64 a, .int .i64 b] w K := by
  refine f136_ok _ _ _ _ _ _ _ ?_
  have el : IntKind.wrap .i64 ((b : Int) - (a : Int)) = ((b - a : Nat) : Int) := by rw [wrap_i64 (by omega) (by omega)]; omega
  rw [f136_eq, f136_s0_eq, el, f136_s1_eq, BIf_iff]
  constructor
  · intro h8
    have h8 : b - a ≥ 8 := by simp at h8; omega
    have hBP := breakPatterns_is d a b h8
    rw [hBP] at hK
    generalize hl : b - a = l at h8 hK
    have hlb : a + l = b := by omega
    rw [f136_s2_eq, z188]
    refine h.newC fun p w1 hp h1 => h1.st1 (k := 0) rfl (by simp) rfl fun w2 h2 => ?_
    have e6 : IntKind.wrap .u64 (l : Int) = (l : Int) := by
      simp only [IntKind.wrap, IntKind.bits, IntKind.signed]
      simp
      omega
    rw [e6]
    have h2 : St w0 w2 ((p, Cs [.int .u64 (IntKind.wrap .u64 (l : Int))] 188) :: (g, Cs (uCs d z) T) :: H) := h2
    rw [e6] at h2
    rw [f136_s3_eq]
    refine pow_ok h2 (by omega) fun w3 h3 => ⟨_, rfl, ?_⟩
    have hp1 := pow_le l (by omega)
    have hp0 := pow_pos' l
    generalize (1 <<< bitsLen l) = mo at hp1 hp0 hK
    have e4 : IntKind.wrap .i64 ((l : Int).tdiv 4) = ((l / 4 : Nat) : Int) := by
      rw [Int.tdiv_eq_ediv_of_nonneg (by omega), wrap_i64 (by omega) (by omega)]; omega
    have e5 : IntKind.wrap .i64 ((a : Int) + IntKind.wrap .i64 (((l / 4 : Nat) : Int) * 2)) = ((a + l / 4 * 2 : Nat) : Int) := by
      rw [wrap_i64 (x := ((l / 4 : Nat) : Int) * 2) (by omega) (by omega), wrap_i64 (by omega) (by omega)]; omega
    have e7 : IntKind.wrap .i64 (((a + l / 4 * 2 : Nat) : Int) - 1) = ((a + l / 4 * 2 - 1 : Nat) : Int) := by rw [wrap_i64 (by omega) (by omega)]; omega
    have e8 : IntKind.wrap .i64 (((a + l / 4 * 2 : Nat) : Int) + 1) = ((a + l / 4 * 2 + 1 : Nat) : Int) := by rw [wrap_i64 (by omega) (by omega)]; omega
    rw [f136_s4_eq, e4, e5, e7]
    refine ⟨by omega, ?_⟩
    rw [f136_s5_eq]
    have hidx : a + l / 4 * 2 - 1 + 2 < b := by omega
    generalize hi0 : a + l / 4 * 2 - 1 = i0 at hK hidx
    refine ⟨BkInv w0 H g c T z p a l mo i0 d, ⟨3, 0, by omega, rfl, rfl, ?_⟩, ?_⟩
    · have h3' : St w0 w3 ((g, Cs (uCs d z) T) :: (p, Cs [.int .u64 (l : Int)] 188) :: H) := h3.perm (List.Perm.swap _ _ _)
      have e9 : ((UInt64.ofNat l).toNat : Int) = (l : Int) := by
        rw [UInt64.toNat_ofNat']
        omega
      show St w0 w3 ((g, Cs (uCs d z) T) :: (p, Cs [.int .u64 ((UInt64.ofNat l).toNat : Int)] 188) :: H)
      rw [e9]
      exact h3'
    rintro m ee w4 ⟨k, hk, rfl, rfl, h4⟩
    show f136_lb6 _ _ _ _ _ _ _ _ _ _ _
    rw [f136_lb6_eq, e4, e5, e8]
    refine ⟨by omega, ?_⟩
    rw [BIf_iff]
    constructor
    · intro hle
      have hk3 : k < 3 := by simp at hle; omega
      rw [f136_s7_eq]
      generalize hst : brk a l mo i0 d k = st at h4
      have hsz : st.2.size = d.size := by rw [← hst, brk_size]
      have h4' : St w0 w4 ((p, Cs [.int .u64 (st.1.toNat : Nat)] 188) :: (g, Cs (uCs st.2 z) T) :: H) := h4.perm (List.Perm.swap _ _ _)
      refine next_ok h4' (UInt64.toNat_lt _) fun w5 h5 => ⟨_, rfl, ?_⟩
      have hx := Go.Sort.xorNextN_lt st.1.toNat (UInt64.toNat_lt _)
      have ex : (xorNext st.1).toNat = xorNextN st.1.toNat := Go.Sort.xorNext_toNat st.1
      have em : IntKind.wrap .u64 ((mo : Int) - 1) = ((mo - 1 : Nat) : Int) := by
        simp only [IntKind.wrap, IntKind.bits, IntKind.signed]
        simp
        omega
      rw [em, and_u64 hx (by omega)]
      have ho : xorNextN st.1.toNat &&& (mo - 1) ≤ mo - 1 := Nat.and_le_right
      have hnext : brk a l mo i0 d (k + 1) = (xorNext st.1, swp st.2 (i0 + k) (a + (if xorNextN st.1.toNat &&& (mo - 1) ≥ l then (xorNextN st.1.toNat &&& (mo - 1)) - l else xorNextN st.1.toNat &&& (mo - 1)))) := by
        show breakStep a l mo (brk a l mo i0 d k) (i0 + k) = _
        rw [hst]
        unfold breakStep
        simp only [ex]
      generalize xorNextN st.1.toNat &&& (mo - 1) = o at ho hnext
      have h5' : St w0 w5 ((g, Cs (uCs st.2 z) T) :: (p, Cs [.int .u64 (xorNextN st.1.toNat : Nat)] 188) :: H) := h5.perm (List.Perm.swap _ _ _)
      have s8 : ∀ q : Nat, q < l → brk a l mo i0 d (k + 1) = (xorNext st.1, swp st.2 (i0 + k) (a + q)) → f136_s8 (some (Addr.mk g 0 none)) d.size c a l mo (Addr.mk p 0 none) ((i0 + k : Nat) : Int) (q : Int) w5 K (fun e' w' => ∃ m, m < 3 - k ∧ BkInv w0 H g c T z p a l mo i0 d m e' w') := by
        intro q hq hnx
        rw [f136_s8_eq]
        have eq' : IntKind.wrap .i64 ((a : Int) + (q : Int)) = ((a + q : Nat) : Int) := by rw [wrap_i64 (by omega) (by omega)]; omega
        rw [← hsz]
        refine swap_at (i := i0 + k) (j := a + q) rfl eq' (by omega) (by omega) h5' fun w6 h6 => ?_
        rw [f136_s9_eq]
        refine ⟨3 - (k + 1), by omega, k + 1, by omega, rfl, ?_, ?_⟩
        · rw [wrap_i64 (by omega) (by omega), hsz]; rfl
        · rw [hnx]
          show St w0 w6 ((g, Cs (uCs (swp st.2 (i0 + k) (a + q)) z) T) :: (p, Cs [.int .u64 ((xorNext st.1).toNat : Nat)] 188) :: H)
          rw [ex]
          exact h6
      rw [BIf_iff]
      refine ⟨fun hge => ?_, fun hlt => ?_⟩
      · have hge : o ≥ l := by simp at hge; omega
        rw [if_pos hge] at hnext
        have eo : IntKind.wrap .i64 ((o : Int) - (l : Int)) = ((o - l : Nat) : Int) := by rw [wrap_i64 (by omega) (by omega)]; omega
        rw [eo]
        exact s8 (o - l) (by omega) hnext
      · have hlt : ¬ o ≥ l := by simp at hlt; omega
        rw [if_neg hlt] at hnext
        exact s8 o (by omega) hnext
    · intro hgt
      have : k = 3 := by simp at hgt; omega
      subst this
      have h4' : St w0 w4 ((p, Cs [.int .u64 ((brk a l mo i0 d 3).1.toNat : Nat)] 188) :: (g, Cs (uCs (brk a l mo i0 d 3).2 z) T) :: H) := h4.perm (List.Perm.swap _ _ _)
      exact hK w4 (h4'.tail hp)
  · intro h8
    have h8 : ¬ b - a ≥ 8 := by simp at h8; omega
    have hBP : breakPatterns d a b = d := by unfold breakPatterns; simp only [if_neg h8]
    rw [hBP] at hK
    exact hK w h
end
end Go.Fx.Try
namespace Go.Fx.Try
open Go Go.Fx Go.Fx.Mo
open Go.Proofs
open Go.Sort (swp swp_size ltInt scanUp scanDown scanUp_ge scanDown_le scanUp_spec partLoop partLoop_eq partition partEqLoop partEqLoop_eq partitionEqual)
variable {w0 w : World} {H X : List (Nat × Obj)} {K : Value → World → Prop}
set_option maxRecDepth 20000
section
variable {p : Int → Bool} {d : Array Int} {i j : Nat}
theorem up_step (h1 : i ≤ j) (h2 : p d[i]! = true) : scanUp p d j i = scanUp p d j (i + 1) := by
  conv => lhs; rw [scanUp]
  rw [if_pos (by simp [h1, h2])]
theorem up_stop (h : ¬ (i ≤ j ∧ p d[i]! = true)) : scanUp p d j i = i := by
  rw [scanUp, if_neg (by simpa using h)]
theorem up_le (d : Array Int) (i j b : Nat) (hi : i ≤ b) (hj : j < b) : scanUp p d j i ≤ b := by
  by_cases h : i ≤ j + 1
  · have := (scanUp_spec p d j _ i rfl).2.1 h; omega
  · rw [up_stop (by omega)]; exact hi
theorem down_step (h0 : 1 ≤ i) (h1 : i ≤ j) (h2 : p d[j]! = true) : scanDown p d i j = scanDown p d i (j - 1) := by
  obtain ⟨q, rfl⟩ : ∃ q, j = q + 1 := ⟨j - 1, by omega⟩
  conv => lhs; rw [scanDown]
  rw [if_pos (by simp [h1, h2])]
  rfl
theorem down_stop (h : ¬ (i ≤ j ∧ p d[j]! = true)) : scanDown p d i j = j := by
  cases j with
  | zero => rfl
  | succ q => rw [scanDown, if_neg (by simpa using h)]
end
section
variable {g c : Nat} {T : TypeId} {z : List Value}
/-! ### partitionOrdered -/
abbrev ptE (g c n a : Nat) (i j : Nat) : Env := Env.mk 168 [(10, (Value.int .i64 i)), (8, (Value.int .i64 0)), (9, (Value.bool false)), (11, (Value.int .i64 j)), (0, (Value.slice (some (Addr.mk g 0 none)) n c)), (1, (Value.int .i64 a))] []
abbrev ptF (g c n a : Nat) (i j : Nat) : Env := Env.mk 168 [(11, (Value.int .i64 j)), (8, (Value.int .i64 0)), (9, (Value.bool false)), (0, (Value.slice (some (Addr.mk g 0 none)) n c)), (1, (Value.int .i64 a)), (10, (Value.int .i64 i))] []
def UpInv (w0 : World) (X : List (Nat × Obj)) (E : Nat → Env) (p : Int → Bool) (d : Array Int) (a b j I : Nat) (m : Nat) (ee : Env) (w : World) : Prop :=
  ∃ i : Nat, a < i ∧ i ≤ b ∧ m = j + 1 - i ∧ scanUp p d j i = I ∧ ee = E i ∧ St w0 w X
def DnInv (w0 : World) (X : List (Nat × Obj)) (E : Nat → Env) (p : Int → Bool) (d : Array Int) (b I J : Nat) (m : Nat) (ee : Env) (w : World) : Prop :=
  ∃ j : Nat, j < b ∧ m = j ∧ scanDown p d I j = J ∧ ee = E j ∧ St w0 w X
def PtInv (w0 : World) (H : List (Nat × Obj)) (g c : Nat) (T : TypeId) (z : List Value) (n a b : Nat) (R : Nat × Array Int) (m : Nat) (ee : Env) (w : World) : Prop :=
  ∃ (i j : Nat) (d : Array Int), a < i ∧ i ≤ b ∧ j < b ∧ m = j + 1 - i ∧ d.size = n ∧ partLoop ltInt a i j d = R ∧ ee = ptE g c n a i j ∧ St w0 w ((g, Cs (uCs d z) T) :: H)
theorem part_loop {d : Array Int} {n a b i j : Nat} {R : Nat × Array Int} (h : St w0 w ((g, Cs (uCs d z) T) :: H)) (ha : a < i) (hi : i ≤ b) (hj : j < b) (hd : d.size = n) (hb : b ≤ n) (hn : n < 1000000000000) (hR : partLoop ltInt a i j d = R)
    (hK : ∀ w', St w0 w' ((g, Cs (uCs (swp R.2 R.1 a) z) T) :: H) → K (.tuple [I64 (R.1 : Nat), .bool false].toArray) w') : LoopE (f142_lp17 K) (ptE g c n a i j) w := by
  refine ⟨PtInv w0 H g c T z n a b R, ⟨j + 1 - i, i, j, d, ha, hi, hj, rfl, hd, hR, rfl, h⟩, ?_⟩
  clear h ha hi hj hd hR
  rintro m ee w7 ⟨i', j', d2, ha', hi', hj', rfl, hd2, hR, rfl, h7⟩
  show f142_lb17 _ _ _ _ _ _ _ _ _ _ _
  rw [f142_lb17_eq]
  rw [partLoop_eq] at hR
  subst hd2
  refine ⟨UpInv w0 ((g, Cs (uCs d2 z) T) :: H) (fun i => ptE g c d2.size a i j') (fun x => ltInt x d2[a]!) d2 a b j' (scanUp (fun x => ltInt x d2[a]!) d2 j' i'), ⟨j' + 1 - i', i', ha', hi', rfl, rfl, rfl, h7⟩, ?_⟩
  have gI := up_le (p := fun x => ltInt x d2[a]!) d2 i' j' b hi' hj'
  have gI0 := scanUp_ge (fun x => ltInt x d2[a]!) d2 j' i'
  generalize scanUp (fun x => ltInt x d2[a]!) d2 j' i' = I2 at hR gI gI0
  rintro m ee w8 ⟨i3, ha3, hi3, rfl, hup3, rfl, h8⟩
  show f142_lb18 _ _ _ _ _ _ _ _ _ _ _ _
  rw [f142_lb18_eq, BIf_iff]
  have after3 : ∀ w9, St w0 w9 ((g, Cs (uCs d2 z) T) :: H) → f142_s21 (j' : Int) 0 false (some (Addr.mk g 0 none)) d2.size c a I2 w9 K (fun e' w' => ∃ m, m < j' + 1 - i' ∧ PtInv w0 H g c T z d2.size a b R m e' w') := by
    intro w9 h9
    rw [f142_s21_eq]
    refine ⟨DnInv w0 ((g, Cs (uCs d2 z) T) :: H) (fun j => ptF g c d2.size a I2 j) (fun x => !ltInt x d2[a]!) d2 b I2 (scanDown (fun x => !ltInt x d2[a]!) d2 I2 j'), ⟨j', j', hj', rfl, rfl, rfl, h9⟩, ?_⟩
    have gJ := scanDown_le (fun x => !ltInt x d2[a]!) d2 I2 j'
    generalize scanDown (fun x => !ltInt x d2[a]!) d2 I2 j' = J2 at hR gJ
    rintro j4 ee w10 ⟨_, hj4, rfl, hdn4, rfl, h10⟩
    show f142_lb22 _ _ _ _ _ _ _ _ _ _ _ _
    rw [f142_lb22_eq, BIf_iff]
    have after4 : ∀ w11, j4 = J2 → St w0 w11 ((g, Cs (uCs d2 z) T) :: H) → f142_s25 0 false (j4 : Int) (some (Addr.mk g 0 none)) d2.size c a I2 w11 K (fun e' w' => ∃ m, m < j' + 1 - i' ∧ PtInv w0 H g c T z d2.size a b R m e' w') := by
      intro w11 hj h11
      subst hj
      rw [f142_s25_eq, BIf_iff]
      constructor
      · intro hgt
        have hgt : I2 > j4 := by simpa using hgt
        rw [if_pos hgt] at hR
        subst hR
        rw [f142_s26_eq]
        refine swap_at (i := j4) (j := a) rfl rfl (by omega) (by omega) h11 fun w12 h12 => ?_
        rw [f142_s27_eq]
        exact hK w12 h12
      · intro hle
        have hle : ¬ I2 > j4 := by simpa using hle
        rw [if_neg hle] at hR
        rw [f142_s28_eq]
        refine swap_at (i := I2) (j := j4) rfl rfl (by omega) (by omega) h11 fun w12 h12 => ?_
        have ej : IntKind.wrap .i64 ((j4 : Int) - 1) = ((j4 - 1 : Nat) : Int) := by rw [wrap_i64 (by omega) (by omega)]; omega
        have ei : IntKind.wrap .i64 ((I2 : Int) + 1) = ((I2 + 1 : Nat) : Int) := by rw [wrap_i64 (by omega) (by omega)]; omega
        rw [f142_s29_eq, ei, ej]
        exact ⟨j4 - 1 + 1 - (I2 + 1), by omega, I2 + 1, j4 - 1, _, by omega, by omega, by omega, rfl, swp_size _ _ _, hR, rfl, h12⟩
    constructor
    · intro hle
      have hle : I2 ≤ j4 := by simpa using hle
      refine less_at (i := j4) (j := a) rfl rfl (by omega) (by omega) h10 (.head _) fun w11 h11 => ⟨_, rfl, ?_⟩
      rw [f142_s23_eq, BIf_iff]
      refine ⟨fun hb' => ?_, fun hb' => ?_⟩
      · rw [f142_s24_eq]
        refine ⟨j4 - 1, by omega, j4 - 1, by omega, rfl, ?_, ?_, h11⟩
        · rw [← hdn4]; exact (down_step (by omega) hle hb').symm
        · rw [wrap_i64 (by omega) (by omega), show (j4 : Int) - 1 = ((j4 - 1 : Nat) : Int) by omega]
      · refine after4 w11 ?_ h11
        rw [← hdn4]; exact (down_stop (fun hh => by rw [hh.2] at hb'; cases hb')).symm
    · intro hgt
      have hgt : ¬ I2 ≤ j4 := by simpa using hgt
      rw [f142_s23_eq, BIf_false]
      refine after4 _ ?_ h10.drew
      rw [← hdn4]; exact (down_stop (fun hh => hgt hh.1)).symm
  constructor
  · intro hle
    have hle : i3 ≤ j' := by simpa using hle
    refine less_at (i := i3) (j := a) rfl rfl (by omega) (by omega) h8 (.head _) fun w9 h9 => ⟨_, rfl, ?_⟩
    rw [f142_s19_eq, BIf_iff]
    refine ⟨fun hb' => ?_, fun hb' => ?_⟩
    · rw [f142_s20_eq]
      refine ⟨j' + 1 - (i3 + 1), by omega, i3 + 1, by omega, by omega, rfl, ?_, ?_, h9⟩
      · rw [← hup3]; exact (up_step hle hb').symm
      · rw [wrap_i64 (by omega) (by omega)]; rfl
    · have : i3 = I2 := by rw [← hup3]; exact (up_stop (fun hh => by rw [hh.2] at hb'; cases hb')).symm
      rw [this]
      exact after3 w9 h9
  · intro hgt
    have hgt : ¬ i3 ≤ j' := by simpa using hgt
    rw [f142_s19_eq, BIf_false]
    have : i3 = I2 := by rw [← hup3]; exact (up_stop (fun hh => hgt hh.1)).symm
    rw [this]
    exact after3 _ h8.drew
theorem partition_ok {d : Array Int} {a b pv : Nat} (h : St w0 w ((g, Cs (uCs d z) T) :: H)) (hap : a ≤ pv) (hpb : pv < b) (hb : b ≤ d.size) (hn : d.size < 1000000000000)
    (hK : ∀ w', St w0 w' ((g, Cs (uCs (partition ltInt d a b pv).2.2 z) T) :: H) → K (.tuple [I64 ((partition ltInt d a b pv).1 : Nat), .bool (partition ltInt d a b pv).2.1].toArray) w') :
    CallL P 142 [.slice (some (Addr.mk g 0 none)) d.size c, .int .i64 a, .int .i64 b, .int .i64 pv] w K := by
  refine f142_ok _ _ _ _ _ _ _ _ ?_
  rw [f142_eq, f142_s0_eq, f142_s1_eq]
  refine swap_at (i := a) (j := pv) rfl rfl (by omega) (by omega) h fun w1 h1 => ?_
  have hs1 : (swp d a pv).size = d.size := swp_size _ _ _
  unfold partition at hK
  simp only at hK
  generalize swp d a pv = d1 at h1 hs1 hK
  have ej : IntKind.wrap .i64 ((b : Int) - 1) = ((b - 1 : Nat) : Int) := by rw [wrap_i64 (by omega) (by omega)]; omega
  have ei : IntKind.wrap .i64 ((a : Int) + 1) = ((a + 1 : Nat) : Int) := by rw [wrap_i64 (by omega) (by omega)]; omega
  rw [f142_s2_eq, ej, ei, f142_s3_eq, ← hs1]
  rw [← hs1] at hb hn
  refine ⟨UpInv w0 ((g, Cs (uCs d1 z) T) :: H) (fun i => ptE g c d1.size a i (b - 1)) (fun x => ltInt x d1[a]!) d1 a b (b - 1) (scanUp (fun x => ltInt x d1[a]!) d1 (b - 1) (a + 1)), ⟨b - 1 + 1 - (a + 1), a + 1, by omega, by omega, rfl, rfl, rfl, h1⟩, ?_⟩
  have hI := up_le (p := fun x => ltInt x d1[a]!) d1 (a + 1) (b - 1) b (by omega) (by omega)
  have hI0 := scanUp_ge (fun x => ltInt x d1[a]!) d1 (b - 1) (a + 1)
  generalize hII : scanUp (fun x => ltInt x d1[a]!) d1 (b - 1) (a + 1) = I at hK hI hI0
  rintro m ee w2 ⟨i, hai, hib, rfl, hup, rfl, h2⟩
  show f142_lb4 _ _ _ _ _ _ _ _ _ _ _
  rw [f142_lb4_eq, BIf_iff]
  -- behind the first scan
  have after : ∀ w3, St w0 w3 ((g, Cs (uCs d1 z) T) :: H) → f142_s7 ((b - 1 : Nat) : Int) 0 false (some (Addr.mk g 0 none)) d1.size c a I w3 K := by
    intro w3 h3
    rw [f142_s7_eq]
    refine ⟨DnInv w0 ((g, Cs (uCs d1 z) T) :: H) (fun j => ptF g c d1.size a I j) (fun x => !ltInt x d1[a]!) d1 b I (scanDown (fun x => !ltInt x d1[a]!) d1 I (b - 1)), ⟨b - 1, b - 1, by omega, rfl, rfl, rfl, h3⟩, ?_⟩
    have hJ := scanDown_le (fun x => !ltInt x d1[a]!) d1 I (b - 1)
    generalize hJJ : scanDown (fun x => !ltInt x d1[a]!) d1 I (b - 1) = J at hK hJ
    rintro j ee w4 ⟨_, hjb, rfl, hdn, rfl, h4⟩
    show f142_lb8 _ _ _ _ _ _ _ _ _ _ _
    rw [f142_lb8_eq, BIf_iff]
    -- behind the second scan
    have after2 : ∀ w5, j = J → St w0 w5 ((g, Cs (uCs d1 z) T) :: H) → f142_s11 (j : Int) (some (Addr.mk g 0 none)) d1.size c a 0 false I w5 K := by
      intro w5 hjJ h5
      subst hjJ
      rw [f142_s11_eq, BIf_iff]
      constructor
      · intro hgt
        have hgt : I > j := by simpa using hgt
        simp only [if_pos hgt] at hK
        refine swap_at (i := j) (j := a) rfl rfl (by omega) (by omega) h5 fun w6 h6 => ?_
        rw [f142_s12_eq]
        exact hK w6 h6
      · intro hle
        have hle : ¬ I > j := by simpa using hle
        simp only [if_neg hle] at hK
        rw [f142_s13_eq]
        refine swap_at (i := I) (j := j) rfl rfl (by omega) (by omega) h5 fun w6 h6 => ?_
        have hs2 : (swp d1 I j).size = d1.size := swp_size _ _ _
        have ej : IntKind.wrap .i64 ((j : Int) - 1) = ((j - 1 : Nat) : Int) := by rw [wrap_i64 (by omega) (by omega)]; omega
        have ei : IntKind.wrap .i64 ((I : Int) + 1) = ((I + 1 : Nat) : Int) := by rw [wrap_i64 (by omega) (by omega)]; omega
        rw [f142_s14_eq, ei, f142_s15_eq, ej, f142_s16_eq]
        exact part_loop h6 (by omega) (by omega) (by omega) hs2 hb hn rfl hK
    constructor
    · intro hle
      have hle : I ≤ j := by simpa using hle
      refine less_at (i := j) (j := a) rfl rfl (by omega) (by omega) h4 (.head _) fun w5 h5 => ⟨_, rfl, ?_⟩
      rw [f142_s9_eq, BIf_iff]
      refine ⟨fun hb' => ?_, fun hb' => ?_⟩
      · rw [f142_s10_eq]
        refine ⟨j - 1, by omega, j - 1, by omega, rfl, ?_, ?_, h5⟩
        · rw [← hdn]; exact (down_step (by omega) hle hb').symm
        · rw [wrap_i64 (by omega) (by omega), show (j : Int) - 1 = ((j - 1 : Nat) : Int) by omega]
      · refine after2 w5 ?_ h5
        rw [← hdn]; exact (down_stop (fun hh => by rw [hh.2] at hb'; cases hb')).symm
    · intro hgt
      have hgt : ¬ I ≤ j := by simpa using hgt
      rw [f142_s9_eq, BIf_false]
      refine after2 _ ?_ h4.drew
      rw [← hdn]; exact (down_stop (fun hh => hgt hh.1)).symm
  constructor
  · intro hle
    have hle : i ≤ b - 1 := by simp at hle; omega
    refine less_at (i := i) (j := a) rfl rfl (by omega) (by omega) h2 (.head _) fun w3 h3 => ⟨_, rfl, ?_⟩
    rw [f142_s5_eq, BIf_iff]
    refine ⟨fun hb' => ?_, fun hb' => ?_⟩
    · rw [f142_s6_eq]
      refine ⟨b - 1 + 1 - (i + 1), by omega, i + 1, by omega, by omega, rfl, ?_, ?_, h3⟩
      · rw [← hup]; exact (up_step hle hb').symm
      · rw [wrap_i64 (by omega) (by omega)]; rfl
    · have : i = I := by rw [← hup]; exact (up_stop (fun hh => by rw [hh.2] at hb'; cases hb')).symm
      rw [this]
      exact after w3 h3
  · intro hgt
    have hgt : ¬ i ≤ b - 1 := by simp at hgt; omega
    rw [f142_s5_eq, BIf_false]
    have : i = I := by rw [← hup]; exact (up_stop (fun hh => hgt hh.1)).symm
    rw [this]
    exact after _ h2.drew
/-! ### partitionEqualOrdered -/
abbrev peE (g c n a : Nat) (i j : Nat) : Env := Env.mk 84 [(9, (Value.int .i64 i)), (8, (Value.int .i64 0)), (10, (Value.int .i64 j)), (0, (Value.slice (some (Addr.mk g 0 none)) n c)), (1, (Value.int .i64 a))] []
abbrev peF (g c n a : Nat) (i j : Nat) : Env := Env.mk 84 [(10, (Value.int .i64 j)), (8, (Value.int .i64 0)), (9, (Value.int .i64 i)), (0, (Value.slice (some (Addr.mk g 0 none)) n c)), (1, (Value.int .i64 a))] []
def PeInv (w0 : World) (H : List (Nat × Obj)) (g c : Nat) (T : TypeId) (z : List Value) (n a b : Nat) (R : Nat × Array Int) (m : Nat) (ee : Env) (w : World) : Prop :=
  ∃ (i j : Nat) (d : Array Int), a < i ∧ i ≤ b ∧ j < b ∧ m = j + 1 - i ∧ d.size = n ∧ partEqLoop ltInt a i j d = R ∧ ee = peE g c n a i j ∧ St w0 w ((g, Cs (uCs d z) T) :: H)
theorem parteq_loop {d : Array Int} {n a b i j : Nat} {R : Nat × Array Int} (h : St w0 w ((g, Cs (uCs d z) T) :: H)) (ha : a < i) (hi : i ≤ b) (hj : j < b) (hd : d.size = n) (hb : b ≤ n) (hn : n < 1000000000000) (hR : partEqLoop ltInt a i j d = R)
    (hK : ∀ w', St w0 w' ((g, Cs (uCs R.2 z) T) :: H) → K (I64 (R.1 : Nat)) w') : LoopE (f141_lp4 K) (peE g c n a i j) w := by
  refine ⟨PeInv w0 H g c T z n a b R, ⟨j + 1 - i, i, j, d, ha, hi, hj, rfl, hd, hR, rfl, h⟩, ?_⟩
  clear h ha hi hj hd hR
  rintro m ee w7 ⟨i', j', d2, ha', hi', hj', rfl, hd2, hR, rfl, h7⟩
  show f141_lb4 _ _ _ _ _ _ _ _ _ _
  rw [f141_lb4_eq]
  rw [partEqLoop_eq] at hR
  subst hd2
  refine ⟨UpInv w0 ((g, Cs (uCs d2 z) T) :: H) (fun i => peE g c d2.size a i j') (fun x => !ltInt d2[a]! x) d2 a b j' (scanUp (fun x => !ltInt d2[a]! x) d2 j' i'), ⟨j' + 1 - i', i', ha', hi', rfl, rfl, rfl, h7⟩, ?_⟩
  have gI := up_le (p := fun x => !ltInt d2[a]! x) d2 i' j' b hi' hj'
  have gI0 := scanUp_ge (fun x => !ltInt d2[a]! x) d2 j' i'
  generalize scanUp (fun x => !ltInt d2[a]! x) d2 j' i' = I2 at hR gI gI0
  rintro m ee w8 ⟨i3, ha3, hi3, rfl, hup3, rfl, h8⟩
  show f141_lb5 _ _ _ _ _ _ _ _ _ _ _
  rw [f141_lb5_eq, BIf_iff]
  have after3 : ∀ w9, St w0 w9 ((g, Cs (uCs d2 z) T) :: H) → f141_s8 (j' : Int) 0 I2 (some (Addr.mk g 0 none)) d2.size c a w9 K (fun e' w' => ∃ m, m < j' + 1 - i' ∧ PeInv w0 H g c T z d2.size a b R m e' w') := by
    intro w9 h9
    rw [f141_s8_eq]
    refine ⟨DnInv w0 ((g, Cs (uCs d2 z) T) :: H) (fun j => peF g c d2.size a I2 j) (fun x => ltInt d2[a]! x) d2 b I2 (scanDown (fun x => ltInt d2[a]! x) d2 I2 j'), ⟨j', j', hj', rfl, rfl, rfl, h9⟩, ?_⟩
    have gJ := scanDown_le (fun x => ltInt d2[a]! x) d2 I2 j'
    generalize scanDown (fun x => ltInt d2[a]! x) d2 I2 j' = J2 at hR gJ
    rintro j4 ee w10 ⟨_, hj4, rfl, hdn4, rfl, h10⟩
    show f141_lb9 _ _ _ _ _ _ _ _ _ _ _
    rw [f141_lb9_eq, BIf_iff]
    have after4 : ∀ w11, j4 = J2 → St w0 w11 ((g, Cs (uCs d2 z) T) :: H) → f141_s12 0 I2 (j4 : Int) (some (Addr.mk g 0 none)) d2.size c a w11 K (fun e' w' => ∃ m, m < j' + 1 - i' ∧ PeInv w0 H g c T z d2.size a b R m e' w') := by
      intro w11 hj h11
      subst hj
      rw [f141_s12_eq, BIf_iff]
      constructor
      · intro hgt
        have hgt : I2 > j4 := by simpa using hgt
        rw [if_pos hgt] at hR
        subst hR
        rw [f141_s13_eq]
        exact hK w11 h11
      · intro hle
        have hle : ¬ I2 > j4 := by simpa using hle
        rw [if_neg hle] at hR
        rw [f141_s14_eq]
        refine swap_at (i := I2) (j := j4) rfl rfl (by omega) (by omega) h11 fun w12 h12 => ?_
        have ej : IntKind.wrap .i64 ((j4 : Int) - 1) = ((j4 - 1 : Nat) : Int) := by rw [wrap_i64 (by omega) (by omega)]; omega
        have ei : IntKind.wrap .i64 ((I2 : Int) + 1) = ((I2 + 1 : Nat) : Int) := by rw [wrap_i64 (by omega) (by omega)]; omega
        rw [f141_s15_eq, ei, ej]
        exact ⟨j4 - 1 + 1 - (I2 + 1), by omega, I2 + 1, j4 - 1, _, by omega, by omega, by omega, rfl, swp_size _ _ _, hR, rfl, h12⟩
    constructor
    · intro hle
      have hle : I2 ≤ j4 := by simpa using hle
      refine less_at (i := a) (j := j4) rfl rfl (by omega) (by omega) h10 (.head _) fun w11 h11 => ⟨_, rfl, ?_⟩
      rw [f141_s10_eq, BIf_iff]
      refine ⟨fun hb' => ?_, fun hb' => ?_⟩
      · rw [f141_s11_eq]
        refine ⟨j4 - 1, by omega, j4 - 1, by omega, rfl, ?_, ?_, h11⟩
        · rw [← hdn4]; exact (down_step (by omega) hle hb').symm
        · rw [wrap_i64 (by omega) (by omega), show (j4 : Int) - 1 = ((j4 - 1 : Nat) : Int) by omega]
      · refine after4 w11 ?_ h11
        rw [← hdn4]; exact (down_stop (fun hh => by rw [hh.2] at hb'; cases hb')).symm
    · intro hgt
      have hgt : ¬ I2 ≤ j4 := by simpa using hgt
      rw [f141_s10_eq, BIf_false]
      refine after4 _ ?_ h10.drew
      rw [← hdn4]; exact (down_stop (fun hh => hgt hh.1)).symm
  constructor
  · intro hle
    have hle : i3 ≤ j' := by simpa using hle
    refine less_at (i := a) (j := i3) rfl rfl (by omega) (by omega) h8 (.head _) fun w9 h9 => ⟨_, rfl, ?_⟩
    rw [f141_s6_eq, BIf_iff]
    refine ⟨fun hb' => ?_, fun hb' => ?_⟩
    · rw [f141_s7_eq]
      refine ⟨j' + 1 - (i3 + 1), by omega, i3 + 1, by omega, by omega, rfl, ?_, ?_, h9⟩
      · rw [← hup3]; exact (up_step hle hb').symm
      · rw [wrap_i64 (by omega) (by omega)]; rfl
    · have : i3 = I2 := by rw [← hup3]; exact (up_stop (fun hh => by rw [hh.2] at hb'; cases hb')).symm
      rw [this]
      exact after3 w9 h9
  · intro hgt
    have hgt : ¬ i3 ≤ j' := by simpa using hgt
    rw [f141_s6_eq, BIf_false]
    have : i3 = I2 := by rw [← hup3]; exact (up_stop (fun hh => hgt hh.1)).symm
    rw [this]
    exact after3 _ h8.drew
theorem partitionEqual_ok {d : Array Int} {a b pv : Nat} (h : St w0 w ((g, Cs (uCs d z) T) :: H)) (hap : a ≤ pv) (hpb : pv < b) (hb : b ≤ d.size) (hn : d.size < 1000000000000)
    (hK : ∀ w', St w0 w' ((g, Cs (uCs (partitionEqual ltInt d a b pv).2 z) T) :: H) → K (I64 ((partitionEqual ltInt d a b pv).1 : Nat)) w') :
    CallL P 141 [.slice (some (Addr.mk g 0 none)) d.size c, .int .i64 a, .int .i64 b, .int .i64 pv] w K := by
  refine f141_ok _ _ _ _ _ _ _ _ ?_
  rw [f141_eq, f141_s0_eq, f141_s1_eq]
  refine swap_at (i := a) (j := pv) rfl rfl (by omega) (by omega) h fun w1 h1 => ?_
  have hs1 : (swp d a pv).size = d.size := swp_size _ _ _
  unfold partitionEqual at hK
  generalize swp d a pv = d1 at h1 hs1 hK
  have ej : IntKind.wrap .i64 ((b : Int) - 1) = ((b - 1 : Nat) : Int) := by rw [wrap_i64 (by omega) (by omega)]; omega
  have ei : IntKind.wrap .i64 ((a : Int) + 1) = ((a + 1 : Nat) : Int) := by rw [wrap_i64 (by omega) (by omega)]; omega
  rw [f141_s2_eq, ej, ei, f141_s3_eq]
  exact parteq_loop h1 (by omega) (by omega) (by omega) hs1 hb hn rfl hK
end
end Go.Fx.Try
namespace Go.Fx.Try
open Go Go.Fx Go.Fx.Mo
open Go.Proofs
open Go.Sort (swp swp_size ltInt scanSorted shiftDown shiftUp partialIns partialInsertionSort)
variable {w0 w : World} {H X : List (Nat × Obj)} {K : Value → World → Prop}
set_option maxRecDepth 20000
section
variable {g c : Nat} {T : TypeId} {z : List Value} {Y4 : Env → World → Prop}
theorem shiftDown_size : ∀ (j : Nat) (d : Array Int), (shiftDown ltInt j d).size = d.size
  | 0, d => rfl
  | j + 1, d => by
    unfold shiftDown
    split
    · rfl
    · rw [shiftDown_size j, swp_size]
theorem shiftUp_size (b : Nat) : ∀ (m j : Nat) (d : Array Int), b - j = m → (shiftUp ltInt b j d).size = d.size
  | 0, j, d, h => by rw [shiftUp, if_neg (by omega)]
  | m + 1, j, d, h => by
    rw [shiftUp, if_pos (by omega)]
    split
    · rfl
    · rw [shiftUp_size b m (j + 1) _ (by omega), swp_size]
def PuInv (w0 : World) (H : List (Nat × Obj)) (g c : Nat) (T : TypeId) (z : List Value) (n a b i s : Nat) (D : Array Int) (m : Nat) (ee : Env) (w : World) : Prop :=
  ∃ (k : Nat) (d : Array Int), i < k ∧ k ≤ b ∧ m = b - k ∧ d.size = n ∧ shiftUp ltInt b k d = D ∧ ee = Env.mk 133 [(6, (Value.bool false)), (7, (Value.int .i64 i)), (0, (Value.slice (some (Addr.mk g 0 none)) n c)), (2, (Value.int .i64 b)), (1, (Value.int .i64 a)), (8, (Value.int .i64 s)), (10, (Value.int .i64 k))] [] ∧ St w0 w ((g, Cs (uCs d z) T) :: H)
theorem pi_s18 {d : Array Int} {n a b i s : Nat} (h : St w0 w ((g, Cs (uCs d z) T) :: H)) (hd : d.size = n) (hi : i < b) (hb : b ≤ n) (hn : n < 1000000000000)
    (hK : ∀ w', St w0 w' ((g, Cs (uCs (if b - i ≥ 2 then shiftUp ltInt b (i + 1) d else d) z) T) :: H) → f139_s24 i false (some (Addr.mk g 0 none)) n c b a s w' K Y4) :
    f139_s18 false i (some (Addr.mk g 0 none)) n c b a s w K Y4 := by
  have e1 : IntKind.wrap .i64 ((b : Int) - (i : Int)) = ((b - i : Nat) : Int) := by rw [wrap_i64 (by omega) (by omega)]; omega
  have e2 : IntKind.wrap .i64 ((i : Int) + 1) = ((i + 1 : Nat) : Int) := by rw [wrap_i64 (by omega) (by omega)]; omega
  rw [f139_s18_eq, e1, BIf_iff]
  refine ⟨fun h2 => ?_, fun h2 => ?_⟩
  · have h2 : b - i ≥ 2 := by simp at h2; omega
    rw [if_pos h2] at hK
    rw [f139_s19_eq, e2, f139_s20_eq]
    refine ⟨PuInv w0 H g c T z n a b i s (shiftUp ltInt b (i + 1) d), ⟨b - (i + 1), i + 1, d, by omega, by omega, rfl, hd, rfl, rfl, h⟩, ?_⟩
    generalize shiftUp ltInt b (i + 1) d = D at hK
    clear h hd
    rintro m ee w1 ⟨k, d, hik, hkb, rfl, hd, hD, rfl, h1⟩
    show f139_lb21 _ _ _ _ _ _ _ _ _ _ _ _ _
    subst hd
    rw [shiftUp] at hD
    rw [f139_lb21_eq, BIf_iff]
    constructor
    · intro hlt
      have hlt : k < b := by simpa using hlt
      rw [if_pos hlt] at hD
      have ek : IntKind.wrap .i64 ((k : Int) - 1) = ((k - 1 : Nat) : Int) := by rw [wrap_i64 (by omega) (by omega)]; omega
      rw [f139_s22_eq]
      refine less_at (i := k) (j := k - 1) rfl ek (by omega) (by omega) h1 (.head _) fun w2 h2 => ⟨_, rfl, ?_⟩
      rw [f139_s23_eq, BIf_iff]
      refine ⟨fun hb' => ?_, fun hb' => ?_⟩
      · rw [if_pos hb'] at hD
        subst hD
        exact hK w2 h2
      · rw [if_neg (by simp [hb'])] at hD
        rw [f139_s25_eq]
        refine swap_at (i := k) (j := k - 1) rfl ek (by omega) (by omega) h2 fun w3 h3 => ?_
        rw [f139_s26_eq]
        refine ⟨b - (k + 1), by omega, k + 1, _, by omega, by omega, rfl, swp_size _ _ _, hD, ?_, h3⟩
        rw [wrap_i64 (by omega) (by omega)]; rfl
    · intro hge
      have hge : ¬ k < b := by simpa using hge
      rw [if_neg hge] at hD
      subst hD
      exact hK w1 h1
  · have h2 : ¬ b - i ≥ 2 := by simp at h2; omega
    rw [if_neg h2] at hK
    exact hK w h
def PdInv (w0 : World) (H : List (Nat × Obj)) (g c : Nat) (T : TypeId) (z : List Value) (n a b i s : Nat) (D : Array Int) (m : Nat) (ee : Env) (w : World) : Prop :=
  ∃ (k : Nat) (d : Array Int), k < i ∧ m = k ∧ d.size = n ∧ shiftDown ltInt k d = D ∧ ee = Env.mk 133 [(6, (Value.bool false)), (7, (Value.int .i64 i)), (0, (Value.slice (some (Addr.mk g 0 none)) n c)), (2, (Value.int .i64 b)), (1, (Value.int .i64 a)), (8, (Value.int .i64 s)), (9, (Value.int .i64 k))] [] ∧ St w0 w ((g, Cs (uCs d z) T) :: H)
theorem pi_s12 {d : Array Int} {n a b i s : Nat} (h : St w0 w ((g, Cs (uCs d z) T) :: H)) (hd : d.size = n) (hai : a < i) (hi : i < b) (hb : b ≤ n) (hn : n < 1000000000000)
    (hK : ∀ w', St w0 w' ((g, Cs (uCs (if i - a ≥ 2 then shiftDown ltInt (i - 1) d else d) z) T) :: H) → f139_s18 false i (some (Addr.mk g 0 none)) n c b a s w' K Y4) :
    f139_s12 false i (some (Addr.mk g 0 none)) n c b a s w K Y4 := by
  have e1 : IntKind.wrap .i64 ((i : Int) - (a : Int)) = ((i - a : Nat) : Int) := by rw [wrap_i64 (by omega) (by omega)]; omega
  have e2 : IntKind.wrap .i64 ((i : Int) - 1) = ((i - 1 : Nat) : Int) := by rw [wrap_i64 (by omega) (by omega)]; omega
  rw [f139_s12_eq, e1, BIf_iff]
  refine ⟨fun h2 => ?_, fun h2 => ?_⟩
  · have h2 : i - a ≥ 2 := by simp at h2; omega
    rw [if_pos h2] at hK
    rw [f139_s13_eq, e2, f139_s14_eq]
    refine ⟨PdInv w0 H g c T z n a b i s (shiftDown ltInt (i - 1) d), ⟨i - 1, i - 1, d, by omega, rfl, hd, rfl, rfl, h⟩, ?_⟩
    generalize shiftDown ltInt (i - 1) d = D at hK
    clear h hd
    rintro k ee w1 ⟨_, d, hki, rfl, hd, hD, rfl, h1⟩
    show f139_lb15 _ _ _ _ _ _ _ _ _ _ _ _ _
    subst hd
    rw [f139_lb15_eq, BIf_iff]
    constructor
    · intro hge
      obtain ⟨q, rfl⟩ : ∃ q, k = q + 1 := ⟨k - 1, by simp at hge; omega⟩
      have ek : IntKind.wrap .i64 (((q + 1 : Nat) : Int) - 1) = (q : Int) := by rw [wrap_i64 (by omega) (by omega)]; omega
      unfold shiftDown at hD
      rw [f139_s16_eq]
      refine less_at (i := q + 1) (j := q) rfl ek (by omega) (by omega) h1 (.head _) fun w2 h2 => ⟨_, rfl, ?_⟩
      rw [f139_s17_eq, BIf_iff]
      refine ⟨fun hb' => ?_, fun hb' => ?_⟩
      · rw [if_pos hb'] at hD
        subst hD
        exact hK w2 h2
      · rw [if_neg (by simp [hb'])] at hD
        rw [f139_s27_eq]
        refine swap_at (i := q + 1) (j := q) rfl ek (by omega) (by omega) h2 fun w3 h3 => ?_
        rw [f139_s28_eq, ek]
        exact ⟨q, by omega, q, _, by omega, rfl, swp_size _ _ _, hD, rfl, h3⟩
    · intro hlt
      have : k = 0 := by simp at hlt; omega
      subst this
      have hD : d = D := hD
      subst hD
      exact hK w1 h1
  · have h2 : ¬ i - a ≥ 2 := by simp at h2; omega
    rw [if_neg h2] at hK
    exact hK w h
def PsInv (w0 : World) (X : List (Nat × Obj)) (g c : Nat) (d : Array Int) (a b s I : Nat) (m : Nat) (ee : Env) (w : World) : Prop :=
  ∃ i : Nat, a < i ∧ i ≤ b ∧ m = b - i ∧ scanSorted ltInt d b i = I ∧ ee = Env.mk 133 [(7, (Value.int .i64 i)), (6, (Value.bool false)), (0, (Value.slice (some (Addr.mk g 0 none)) d.size c)), (2, (Value.int .i64 b)), (1, (Value.int .i64 a)), (8, (Value.int .i64 s))] [] ∧ St w0 w X
def PiInv (w0 : World) (H : List (Nat × Obj)) (g c : Nat) (T : TypeId) (z : List Value) (n a b : Nat) (R : Array Int × Bool) (m : Nat) (ee : Env) (w : World) : Prop :=
  ∃ (i : Nat) (d : Array Int), a < i ∧ i ≤ b ∧ m ≤ 5 ∧ d.size = n ∧ partialIns ltInt a b m i d = R ∧ ee = Env.mk 133 [(7, (Value.int .i64 i)), (6, (Value.bool false)), (8, (Value.int .i64 ((5 - m : Nat) : Int))), (0, (Value.slice (some (Addr.mk g 0 none)) n c)), (2, (Value.int .i64 b)), (1, (Value.int .i64 a))] [] ∧ St w0 w ((g, Cs (uCs d z) T) :: H)
theorem partial_ok {d : Array Int} {a b : Nat} (h : St w0 w ((g, Cs (uCs d z) T) :: H)) (hab : a < b) (hb : b ≤ d.size) (hn : d.size < 1000000000000)
    (hK : ∀ w', St w0 w' ((g, Cs (uCs (partialInsertionSort ltInt d a b).1 z) T) :: H) → K (.bool (partialInsertionSort ltInt d a b).2) w') :
    CallL P 139 [.slice (some (Addr.mk g 0 none)) d.size c, .int .i64 a, .int .i64 b] w K := by
  refine f139_ok _ _ _ _ _ _ _ ?_
  have ei : IntKind.wrap .i64 ((a : Int) + 1) = ((a + 1 : Nat) : Int) := by rw [wrap_i64 (by omega) (by omega)]; omega
  rw [f139_eq, f139_s0_eq, f139_s1_eq, ei, f139_s2_eq, f139_s3_eq]
  unfold partialInsertionSort at hK
  refine ⟨PiInv w0 H g c T z d.size a b (partialIns ltInt a b 5 (a + 1) d), ⟨5, a + 1, d, by omega, by omega, by omega, rfl, rfl, rfl, h⟩, ?_⟩
  generalize hnn : d.size = n at hb hn
  generalize partialIns ltInt a b 5 (a + 1) d = R at hK
  clear h hnn d
  rintro m ee w1 ⟨i, d, hai, hib, hm5, hd, hR, rfl, h1⟩
  show f139_lb4 _ _ _ _ _ _ _ _ _ _ _
  subst hd
  rw [f139_lb4_eq, BIf_iff]
  constructor
  · intro hlt
    obtain ⟨m, rfl⟩ : ∃ q, m = q + 1 := ⟨m - 1, by simp at hlt; omega⟩
    rw [f139_s5_eq]
    unfold partialIns at hR
    simp only at hR
    refine ⟨PsInv w0 ((g, Cs (uCs d z) T) :: H) g c d a b (5 - (m + 1)) (scanSorted ltInt d b i), ⟨b - i, i, hai, hib, rfl, rfl, rfl, h1⟩, ?_⟩
    generalize scanSorted ltInt d b i = I at hR
    clear h1
    rintro q ee w2 ⟨i2, hai2, hib2, rfl, hI, rfl, h2⟩
    show f139_lb6 _ _ _ _ _ _ _ _ _ _ _ _
    rw [scanSorted] at hI
    rw [f139_lb6_eq, BIf_iff]
    have after : ∀ w3, i2 = I → St w0 w3 ((g, Cs (uCs d z) T) :: H) → f139_s9 i2 (some (Addr.mk g 0 none)) d.size c b a ((5 - (m + 1) : Nat) : Int) false w3 K (fun e' w' => ∃ m', m' < m + 1 ∧ PiInv w0 H g c T z d.size a b R m' e' w') := by
      intro w3 hi h3
      subst hi
      rw [f139_s9_eq, BIf_iff]
      refine ⟨fun he => ?_, fun he => ?_⟩
      · have he : i2 = b := by simp at he; omega
        rw [if_pos he] at hR
        subst hR
        exact hK w3 h3
      · have he : i2 ≠ b := by simp at he; omega
        rw [if_neg he] at hR
        have e1 : IntKind.wrap .i64 ((b : Int) - (a : Int)) = ((b - a : Nat) : Int) := by rw [wrap_i64 (by omega) (by omega)]; omega
        rw [f139_s10_eq, e1, BIf_iff]
        refine ⟨fun h50 => ?_, fun h50 => ?_⟩
        · have h50 : b - a < 50 := by simp at h50; omega
          rw [if_pos h50] at hR
          subst hR
          exact hK w3 h3
        · have h50 : ¬ b - a < 50 := by simp at h50; omega
          rw [if_neg h50] at hR
          have e2 : IntKind.wrap .i64 ((i2 : Int) - 1) = ((i2 - 1 : Nat) : Int) := by rw [wrap_i64 (by omega) (by omega)]; omega
          rw [f139_s11_eq]
          refine swap_at (i := i2) (j := i2 - 1) rfl e2 (by omega) (by omega) h3 fun w4 h4 => ?_
          refine pi_s12 h4 (swp_size _ _ _) hai2 (by omega) hb hn fun w5 h5 => ?_
          have hsz : (if i2 - a ≥ 2 then shiftDown ltInt (i2 - 1) (swp d i2 (i2 - 1)) else swp d i2 (i2 - 1)).size = d.size := by
            split
            · rw [shiftDown_size, swp_size]
            · rw [swp_size]
          refine pi_s18 h5 hsz (by omega) hb hn fun w6 h6 => ?_
          rw [f139_s24_eq]
          refine ⟨m, by omega, i2, _, hai2, hib2, by omega, ?_, hR, ?_, h6⟩
          · split
            · rw [shiftUp_size _ _ _ _ rfl, hsz]
            · exact hsz
          · have : IntKind.wrap .i64 (((5 - (m + 1) : Nat) : Int) + 1) = ((5 - m : Nat) : Int) := by rw [wrap_i64 (by omega) (by omega)]; omega
            rw [this]
    constructor
    · intro hlt2
      have hlt2 : i2 < b := by simpa using hlt2
      have e2 : IntKind.wrap .i64 ((i2 : Int) - 1) = ((i2 - 1 : Nat) : Int) := by rw [wrap_i64 (by omega) (by omega)]; omega
      refine less_at (i := i2) (j := i2 - 1) rfl e2 (by omega) (by omega) h2 (.head _) fun w3 h3 => ⟨_, rfl, ?_⟩
      rw [f139_s7_eq, BIf_iff]
      refine ⟨fun hb' => ?_, fun hb' => ?_⟩
      · rw [if_pos (by simp [hlt2]; simpa using hb')] at hI
        rw [f139_s8_eq]
        refine ⟨b - (i2 + 1), by omega, i2 + 1, by omega, by omega, rfl, hI, ?_, h3⟩
        rw [wrap_i64 (by omega) (by omega)]; rfl
      · rw [if_neg (by rw [hb']; simp)] at hI
        exact after w3 hI h3
    · intro hge
      have hge : ¬ i2 < b := by simpa using hge
      rw [if_neg (by simp [hge])] at hI
      rw [f139_s7_eq, BIf_false]
      exact after _ hI h2.drew
  · intro hge
    have : m = 0 := by simp at hge; omega
    subst this
    have hR : (d, false) = R := hR
    subst hR
    rw [f139_s29_eq]
    exact hK w1 h1
end
end Go.Fx.Try
namespace Go.Fx.Try
open Go Go.Fx Go.Fx.Mo
open Go.Proofs
open Go.Sort (swp ltInt pdq Below rd SWO swo_ltInt insertionSort_holds heapSort_holds partialInsertionSort_holds partition_holds partitionEqual_holds reverseRange_holds breakPatterns_holds choosePivot_holds pdq_sorts Hint rd_facts round_eq round_part pdq_small pdq_heap pdq_done pdq_eq pdq_left pdq_right choosePivot breakPatterns reverseRange partialInsertionSort partition partitionEqual)
variable {w0 w : World} {H X : List (Nat × Obj)} {K : Value → World → Prop}
set_option maxRecDepth 20000
section
variable {g c : Nat} {T : TypeId} {z : List Value}
def PqInv (w0 : World) (H : List (Nat × Obj)) (g c : Nat) (T : TypeId) (z : List Value) (n M : Nat) (D : Array Int) (m : Nat) (ee : Env) (w : World) : Prop :=
  ∃ (a b limit : Nat) (wb wp : Bool) (d : Array Int), m = b - a ∧ m ≤ M ∧ a ≤ b ∧ b ≤ n ∧ limit ≤ 100 ∧ d.size = n ∧ Below ltInt a b d ∧ pdq ltInt d a b limit wb wp = D ∧
    ee = Env.mk 134 [(2, (Value.int .i64 b)), (1, (Value.int .i64 a)), (0, (Value.slice (some (Addr.mk g 0 none)) n c)), (9, (Value.bool wp)), (8, (Value.bool wb)), (3, (Value.int .i64 limit))] [] ∧ St w0 w ((g, Cs (uCs d z) T) :: H)
theorem hint2 (h : Hint) : (hintI h == 2) = decide (h = .decreasing) := by cases h <;> rfl
theorem hint1 (h : Hint) : (hintI h == 1) = decide (h = .increasing) := by cases h <;> rfl
/-- What a round does behind its pivot. -/
theorem pdq_s9 {N n M : Nat} {D : Array Int} {d3 : Array Int} {a b lim pv : Nat} {wb wp : Bool} {m : Nat}
    (ih : ∀ {w : World} {K : Value → World → Prop} {d : Array Int} {a b limit : Nat}, b - a < N → St w0 w ((g, Cs (uCs d z) T) :: H) → a ≤ b → b ≤ d.size → d.size < 1000000000000 → limit ≤ 100 → Below ltInt a b d →
      (∀ w', St w0 w' ((g, Cs (uCs (pdq ltInt d a b limit true true) z) T) :: H) → K (.tuple [].toArray) w') → CallL P 133 [.slice (some (Addr.mk g 0 none)) d.size c, .int .i64 a, .int .i64 b, .int .i64 limit] w K)
    (h : St w0 w ((g, Cs (uCs d3 z) T) :: H)) (hd : d3.size = n) (hab : 12 < b - a) (hb : b ≤ n) (hn : n < 1000000000000) (hlim : lim ≤ 100) (hp : a ≤ pv ∧ pv < b) (hB : Below ltInt a b d3) (hM : b - a ≤ M) (hN : b - a ≤ N) (hm : m = b - a)
    (he : (decide (a > 0) && !ltInt d3[a - 1]! d3[pv]!) = true → pdq ltInt (partitionEqual ltInt d3 a b pv).2 (partitionEqual ltInt d3 a b pv).1 b lim wb wp = D)
    (hl : (decide (a > 0) && !ltInt d3[a - 1]! d3[pv]!) = false → (partition ltInt d3 a b pv).1 - a < b - (partition ltInt d3 a b pv).1 → pdq ltInt (pdq ltInt (partition ltInt d3 a b pv).2.2 a (partition ltInt d3 a b pv).1 lim true true) ((partition ltInt d3 a b pv).1 + 1) b lim (decide ((partition ltInt d3 a b pv).1 - a ≥ (b - a) / 8)) (partition ltInt d3 a b pv).2.1 = D)
    (hr : (decide (a > 0) && !ltInt d3[a - 1]! d3[pv]!) = false → ¬ (partition ltInt d3 a b pv).1 - a < b - (partition ltInt d3 a b pv).1 → pdq ltInt (pdq ltInt (partition ltInt d3 a b pv).2.2 ((partition ltInt d3 a b pv).1 + 1) b lim true true) a (partition ltInt d3 a b pv).1 lim (decide (b - (partition ltInt d3 a b pv).1 ≥ (b - a) / 8)) (partition ltInt d3 a b pv).2.1 = D) :
    f133_s9 b (some (Addr.mk g 0 none)) n c wp wb lim pv a ((b - a : Nat) : Int) w K (fun e' w' => ∃ m', m' < m ∧ PqInv w0 H g c T z n M D m' e' w') := by
  subst hd
  have s11 : ∀ w1, (decide (a > 0) && !ltInt d3[a - 1]! d3[pv]!) = false → St w0 w1 ((g, Cs (uCs d3 z) T) :: H) → f133_s11 b (some (Addr.mk g 0 none)) d3.size c lim a ((b - a : Nat) : Int) pv w1 K (fun e' w' => ∃ m', m' < m ∧ PqInv w0 H g c T z d3.size M D m' e' w') := by
    intro w1 hc h1
    rw [f133_s11_eq]
    refine partition_ok h1 hp.1 hp.2 hb hn fun w2 h2 => ⟨_, _, rfl, by omega, ?_⟩
    obtain ⟨r1, r2, r3, r4, r5, r6, r7⟩ := round_part swo_ltInt (partition_holds ltInt) (d3 := d3) (d4 := (partition ltInt d3 a b pv).2.2) (mid := (partition ltInt d3 a b pv).1) (ap := (partition ltInt d3 a b pv).2.1) hp.1 hp.2 hb hB rfl
    have hl := hl hc
    have hr := hr hc
    generalize (partition ltInt d3 a b pv).1 = mid at *
    generalize (partition ltInt d3 a b pv).2.1 = ap at *
    generalize (partition ltInt d3 a b pv).2.2 = d4 at *
    have e1 : IntKind.wrap .i64 ((mid : Int) - (a : Int)) = ((mid - a : Nat) : Int) := by rw [wrap_i64 (by omega) (by omega)]; omega
    have e2 : IntKind.wrap .i64 ((b : Int) - (mid : Int)) = ((b - mid : Nat) : Int) := by rw [wrap_i64 (by omega) (by omega)]; omega
    have e3 : IntKind.wrap .i64 (((b - a : Nat) : Int).tdiv 8) = (((b - a) / 8 : Nat) : Int) := by rw [Int.tdiv_eq_ediv_of_nonneg (by omega), wrap_i64 (by omega) (by omega)]; omega
    have e4 : IntKind.wrap .i64 ((mid : Int) + 1) = ((mid + 1 : Nat) : Int) := by rw [wrap_i64 (by omega) (by omega)]; omega
    rw [e1, e2, e3, e4, BIf_iff, ← r3]
    refine ⟨fun hlt => ?_, fun hge => ?_⟩
    · have hlt : mid - a < b - mid := by simp at hlt; omega
      refine ih (by omega) h2 r1 (by omega) (by omega) hlim r4 fun w3 h3 => ⟨rfl, ?_⟩
      obtain ⟨q1, q2⟩ := pdq_sorts ltInt swo_ltInt d4 a mid lim true true r1 (by omega) r4
      have q3 := (r6 _ q1 q2).1
      refine ⟨b - (mid + 1), by omega, mid + 1, b, lim, _, _, _, rfl, by omega, by omega, by omega, hlim, q1.1, q3, hl hlt, ?_, h3⟩
      have : decide (((mid - a : Nat) : Int) ≥ (((b - a) / 8 : Nat) : Int)) = decide (mid - a ≥ (b - a) / 8) := by
        rw [Bool.eq_iff_iff]; simp only [decide_eq_true_eq]; omega
      rw [this]
    · have hge : ¬ mid - a < b - mid := by simp at hge; omega
      refine ih (by omega) h2 (by omega) (by omega) (by omega) hlim r5 fun w3 h3 => ⟨rfl, ?_⟩
      obtain ⟨q1, q2⟩ := pdq_sorts ltInt swo_ltInt d4 (mid + 1) b lim true true (by omega) (by omega) r5
      have q3 := (r7 _ q1 q2).1
      refine ⟨mid - a, by omega, a, mid, lim, _, _, _, rfl, by omega, by omega, by omega, hlim, q1.1, q3, hr hge, ?_, h3⟩
      have : decide (((b - mid : Nat) : Int) ≥ (((b - a) / 8 : Nat) : Int)) = decide (b - mid ≥ (b - a) / 8) := by
        rw [Bool.eq_iff_iff]; simp only [decide_eq_true_eq]; omega
      rw [this]
  rw [f133_s9_eq, BIf_iff]
  constructor
  · intro ha0
    have ha0 : a > 0 := by simp at ha0; omega
    have e1 : IntKind.wrap .i64 ((a : Int) - 1) = ((a - 1 : Nat) : Int) := by rw [wrap_i64 (by omega) (by omega)]; omega
    refine less_at (i := a - 1) (j := pv) e1 rfl (by omega) (by omega) h (.head _) fun w1 h1 => ⟨_, rfl, ?_⟩
    rw [f133_s10_eq, BIf_iff]
    refine ⟨fun hn' => ?_, fun hn' => ?_⟩
    · have hc : (decide (a > 0) && !ltInt d3[a - 1]! d3[pv]!) = true := by simp [ha0]; simpa using hn'
      have he := he hc
      refine partitionEqual_ok h1 hp.1 hp.2 hb hn fun w2 h2 => ⟨_, rfl, ?_⟩
      obtain ⟨r1, r2, r3, r4, _⟩ := round_eq swo_ltInt (partitionEqual_holds (lt := ltInt)) (d3 := d3) (d4 := (partitionEqual ltInt d3 a b pv).2) (mid := (partitionEqual ltInt d3 a b pv).1) ha0 hp.1 hp.2 hb hB (by simpa using hn') rfl
      exact ⟨b - (partitionEqual ltInt d3 a b pv).1, by omega, _, b, lim, wb, wp, _, rfl, by omega, r2, hb, hlim, r3, r4, he, rfl, h2⟩
    · exact s11 w1 (by rw [hn', Bool.and_false]) h1
  · intro ha0
    have ha0 : ¬ a > 0 := by simp at ha0; omega
    rw [f133_s10_eq, BIf_false]
    exact s11 _ (by simp [ha0]) h.drew
theorem pdq_ok : ∀ (N : Nat) {w : World} {K : Value → World → Prop} {d : Array Int} {a b limit : Nat}, b - a < N → St w0 w ((g, Cs (uCs d z) T) :: H) → a ≤ b → b ≤ d.size → d.size < 1000000000000 → limit ≤ 100 → Below ltInt a b d →
    (∀ w', St w0 w' ((g, Cs (uCs (pdq ltInt d a b limit true true) z) T) :: H) → K (.tuple [].toArray) w') → CallL P 133 [.slice (some (Addr.mk g 0 none)) d.size c, .int .i64 a, .int .i64 b, .int .i64 limit] w K
  | 0, _, _, _, _, _, _, hN, _, _, _, _, _, _, _ => absurd hN (Nat.not_lt_zero _)
  | N + 1, w, K, d, a, b, limit, hN, h, hab, hb, hn, hlim, hB, hK => by
    refine f133_ok _ _ _ _ _ _ _ _ ?_
    rw [f133_eq, f133_s0_eq, f133_s1_eq, f133_s2_eq]
    refine ⟨PqInv w0 H g c T z d.size (b - a) (pdq ltInt d a b limit true true), ⟨b - a, a, b, limit, true, true, d, rfl, Nat.le_refl _, hab, hb, hlim, rfl, hB, rfl, rfl, h⟩, ?_⟩
    generalize pdq ltInt d a b limit true true = D at hK
    have hM : b - a ≤ N := by omega
    generalize b - a = M at hM
    generalize hnn : d.size = n at hb hn
    clear h hab hb hB hN hlim hnn
    rintro m ee w1 ⟨a, b, limit, wb, wp, d, hm, hmM, hab, hb, hlim, hd, hB, hD, rfl, h1⟩
    show f133_lb3 _ _ _ _ _ _ _ _ _ _ _
    have el : IntKind.wrap .i64 ((b : Int) - (a : Int)) = ((b - a : Nat) : Int) := by rw [wrap_i64 (by omega) (by omega)]; omega
    subst hd
    rw [f133_lb3_eq, el, BIf_iff]
    constructor
    · intro h12
      have h12 : b - a ≤ 12 := by simp at h12; omega
      rw [pdq_small h12] at hD
      subst hD
      exact insertion_ok h1 hab hb hn fun w2 h2 => ⟨rfl, hK w2 h2⟩
    · intro h12
      have h12 : ¬ b - a ≤ 12 := by simp at h12; omega
      rw [f133_s4_eq, BIf_iff]
      constructor
      · intro h0
        have h0 : limit = 0 := by simp at h0; omega
        rw [pdq_heap h12 h0] at hD
        subst hD
        exact heap_ok h1 hab hb hn fun w2 h2 => ⟨rfl, hK w2 h2⟩
      · intro h0
        have h0 : ¬ limit = 0 := by simp at h0; omega
        obtain ⟨k1, k2, k3, k4, k5, k6, k7, k8⟩ := rd_facts (lt := ltInt) (d := d) (a := a) (b := b) (limit := limit) (wb := wb) (wp := wp) swo_ltInt partialInsertionSort_holds reverseRange_holds (by omega) hb hB
        have kl : (rd ltInt d a b limit wb wp).lim ≤ 100 := Nat.le_trans Go.Sort.rd_lim_le hlim
        -- behind the partial insertion
        have t9 : ∀ w2, (rd ltInt d a b limit wb wp).pi.2 = false → St w0 w2 ((g, Cs (uCs (rd ltInt d a b limit wb wp).pi.1 z) T) :: H) →
            f133_s9 b (some (Addr.mk g 0 none)) d.size c wp wb (rd ltInt d a b limit wb wp).lim (rd ltInt d a b limit wb wp).pivot a ((b - a : Nat) : Int) w2 K (fun e' w' => ∃ m', m' < m ∧ PqInv w0 H g c T z d.size M D m' e' w') := by
          intro w2 hpi h2
          refine pdq_s9 (N := N) (fun q1 q2 q3 q4 q5 q6 q7 q8 => pdq_ok N q1 q2 q3 q4 q5 q6 q7 q8) h2 k7 (by omega) hb hn kl k6 k8 (by omega) (by omega) hm (fun hc => ?_) (fun hc hlt => ?_) (fun hc hge => ?_)
          · rw [← hD]
            have ha0 : a > 0 := by simp at hc; exact hc.1
            have hnl : ltInt (rd ltInt d a b limit wb wp).pi.1[a - 1]! (rd ltInt d a b limit wb wp).pi.1[(rd ltInt d a b limit wb wp).pivot]! = false := by simp at hc; exact hc.2
            obtain ⟨r1, r2, _⟩ := round_eq swo_ltInt (partitionEqual_holds (lt := ltInt)) (d3 := (rd ltInt d a b limit wb wp).pi.1) (pivot := (rd ltInt d a b limit wb wp).pivot) (d4 := (partitionEqual ltInt (rd ltInt d a b limit wb wp).pi.1 a b (rd ltInt d a b limit wb wp).pivot).2) (mid := (partitionEqual ltInt (rd ltInt d a b limit wb wp).pi.1 a b (rd ltInt d a b limit wb wp).pivot).1) ha0 k6.1 k6.2 (by rw [k7]; exact hb) k8 hnl rfl
            exact (pdq_eq h12 h0 hpi hc ⟨r1, r2⟩).symm
          · rw [← hD]
            obtain ⟨r1, r2, _⟩ := partition_holds ltInt swo_ltInt (rd ltInt d a b limit wb wp).pi.1 a b (rd ltInt d a b limit wb wp).pivot k6.1 k6.2 (by rw [k7]; exact hb)
            exact (pdq_left h12 h0 hpi hc ⟨r1, r2⟩ hlt).symm
          · rw [← hD]
            obtain ⟨r1, r2, _⟩ := partition_holds ltInt swo_ltInt (rd ltInt d a b limit wb wp).pi.1 a b (rd ltInt d a b limit wb wp).pivot k6.1 k6.2 (by rw [k7]; exact hb)
            exact (pdq_right h12 h0 hpi hc ⟨r1, r2⟩ hge).symm
        -- behind the pivot
        have t7 : ∀ w2, St w0 w2 ((g, Cs (uCs (rd ltInt d a b limit wb wp).d2 z) T) :: H) →
            f133_s7 b a (some (Addr.mk g 0 none)) d.size c wp wb (rd ltInt d a b limit wb wp).lim (rd ltInt d a b limit wb wp).pivot ((b - a : Nat) : Int) (hintI (rd ltInt d a b limit wb wp).hint) w2 K (fun e' w' => ∃ m', m' < m ∧ PqInv w0 H g c T z d.size M D m' e' w') := by
          intro w2 h2
          have no : (wb && wp && decide ((rd ltInt d a b limit wb wp).hint = .increasing)) = false → f133_s8 false b a (some (Addr.mk g 0 none)) d.size c wp wb (rd ltInt d a b limit wb wp).lim (rd ltInt d a b limit wb wp).pivot ((b - a : Nat) : Int) w2 K (fun e' w' => ∃ m', m' < m ∧ PqInv w0 H g c T z d.size M D m' e' w') := by
            intro hc
            have hp := Go.Sort.rd_pi_no hc
            rw [f133_s8_eq, BIf_false]
            refine t9 w2 (by rw [hp]) ?_
            rw [hp]
            exact h2
          rw [f133_s7_eq, BIf_iff]
          refine ⟨fun hwb => ?_, fun hwb => no (by rw [hwb]; rfl)⟩
          rw [BIf_iff]
          refine ⟨fun hwp => ?_, fun hwp => no (by rw [hwp, Bool.and_false]; rfl)⟩
          rw [hint1]
          cases hh : decide ((rd ltInt d a b limit wb wp).hint = .increasing) with
          | false => exact no (by rw [hh, Bool.and_false])
          | true =>
            have hp := Go.Sort.rd_pi_yes (lt := ltInt) (d := d) (a := a) (b := b) (limit := limit) (wb := wb) (wp := wp) (by rw [hwb, hwp] at hh ⊢; rw [hh]; rfl)
            rw [f133_s8_eq, BIf_true, ← k4]
            refine partial_ok h2 (by omega) (by omega) (by omega) fun w3 h3 => ⟨_, rfl, ?_⟩
            rw [BIf_iff]
            refine ⟨fun hy => ?_, fun hy => ?_⟩
            · rw [pdq_done h12 h0 (by rw [hp]; exact hy)] at hD
              subst hD
              rw [hp] at hK
              exact hK w3 h3
            · rw [k4]
              refine t9 w3 (by rw [hp]; exact hy) ?_
              rw [hp]
              exact h3
        have t6 : ∀ w2, St w0 w2 ((g, Cs (uCs (rd ltInt d a b limit wb wp).d1 z) T) :: H) →
            f133_s6 b a (some (Addr.mk g 0 none)) d.size c wp wb (rd ltInt d a b limit wb wp).lim ((b - a : Nat) : Int) w2 K (fun e' w' => ∃ m', m' < m ∧ PqInv w0 H g c T z d.size M D m' e' w') := by
          intro w2 h2
          rw [f133_s6_eq, ← k1]
          refine pivot_ok (.head _) h2 (by omega) (by omega) (by omega) fun w3 h3 => ⟨_, _, rfl, ?_⟩
          have hc : (rd ltInt d a b limit wb wp).c = choosePivot ltInt (rd ltInt d a b limit wb wp).d1 a b := Go.Sort.rd_c
          rw [← hc, hint2, BIf_iff]
          refine ⟨fun hdec => ?_, fun hdec => ?_⟩
          · have hdec : (rd ltInt d a b limit wb wp).c.2 = .decreasing := by simpa using hdec
            obtain ⟨x1, x2, x3⟩ := Go.Sort.rd_dec hdec
            refine reverse_ok h3 (by omega) (by omega) (by omega) fun w4 h4 => ⟨rfl, ?_⟩
            have e1 : IntKind.wrap .i64 (IntKind.wrap .i64 ((b : Int) - 1) - IntKind.wrap .i64 (((rd ltInt d a b limit wb wp).c.1 : Int) - (a : Int))) = ((rd ltInt d a b limit wb wp).pivot : Int) := by
              rw [x2, wrap_i64 (x := (b : Int) - 1) (by omega) (by omega), wrap_i64 (x := ((rd ltInt d a b limit wb wp).c.1 : Int) - (a : Int)) (by omega) (by omega), wrap_i64 (by omega) (by omega)]
              omega
            rw [e1, k1]
            have := t7 w4 (by rw [x1]; exact h4)
            rw [x3] at this
            exact this
          · have hdec : (rd ltInt d a b limit wb wp).c.2 ≠ .decreasing := by simpa using hdec
            obtain ⟨x1, x2, x3⟩ := Go.Sort.rd_not hdec
            have := t7 w3 (by rw [x1]; exact h3)
            rw [x2, x3] at this
            rw [k1]
            exact this
        rw [f133_s5_eq, BIf_iff]
        refine ⟨fun hwb => ?_, fun hwb => ?_⟩
        · have hwb : wb = false := by simpa using hwb
          subst hwb
          obtain ⟨x1, x2⟩ := Go.Sort.rd_false (lt := ltInt) (d := d) (a := a) (b := b) (limit := limit) (wp := wp)
          refine break_ok h1 hab hb hn fun w2 h2 => ⟨rfl, ?_⟩
          have e1 : IntKind.wrap .i64 ((limit : Int) - 1) = ((limit - 1 : Nat) : Int) := by rw [wrap_i64 (by omega) (by omega)]; omega
          rw [e1]
          have := t6 w2 (by rw [x1]; exact h2)
          rw [x2] at this
          exact this
        · have hwb : wb = true := by simpa using hwb
          subst hwb
          obtain ⟨x1, x2⟩ := Go.Sort.rd_true (lt := ltInt) (d := d) (a := a) (b := b) (limit := limit) (wp := wp)
          have := t6 w1 (by rw [x1]; exact h1)
          rw [x2] at this
          exact this
end
end Go.Fx.Try
namespace Go.Fx.Try
open Go Go.Fx Go.Fx.Mo
open Go.Proofs
open Go.Sort (ltInt pdq bitsLen)
variable {w0 w : World} {H : List (Nat × Obj)} {K : Value → World → Prop}
set_option maxRecDepth 20000
theorem keys122_ok {v0 : Value} {b1 mb clk : Nat} {t1 : TypeId} {es : Array MapEntry} {X0 : List (Nat × Obj)} (Fr : List Int → List (Nat × Obj) → Prop) (h : St w0 w X0) (hF0 : Fr [] X0)
    (hFm : ∀ vis X, Fr vis X → (b1, Cs [.map (some mb)] t1) ∈ X ∧ (mb, .map es clk) ∈ X) (hst : MapKept.Stamped es clk) (hks : ∀ e ∈ es.toList, ∃ k : Int, e.key = .int .u32 k)
    (hy : ∀ vis k W X it o, vis.length < es.size → Fr vis X → w0.heap.size ≤ it → St w0 W ((it, o) :: X) → CallF P v0 [.int .u32 k] W fun r W' => r = .bool true ∧ ∃ X', Fr (vis ++ [k]) X' ∧ St w0 W' ((it, o) :: X'))
    (hK : ∀ W vis X it o, (es.toList.map (·.key)).Perm (vis.map encU) → Fr vis X → w0.heap.size ≤ it → St w0 W ((it, o) :: X) → K (.tuple [].toArray) W) :
    CallL P 122 [v0, .pointer (some (Addr.mk b1 0 none))] w K := by
  refine f122_ok _ _ _ _ ?_
  rw [f122_eq]
  refine ⟨some mb, by rw [cell_of (h.has _ _ (hFm _ _ hF0).1)]; rfl, w.heap.size, _, run_range mapType124 (h.has _ _ (hFm _ _ hF0).2), ?_⟩
  have hit := h.le
  have h1 := h.alloc (.mapIter (some mb) clk #[] clk)
  generalize hi : w.heap.size = it at hit h1
  refine LoopE_map (es := es) (fun vis seen w' => ∃ ks X, vis.map (·.key) = ks.map encU ∧ Fr ks X ∧ St w0 w' ((it, .mapIter (some mb) clk seen clk) :: X)) ⟨[], X0, rfl, hF0, h1⟩ ?_ ?_
  · rintro vis seen w1 hv ⟨ks, X, hk, hF, hw⟩ Y
    show f122_lb0 _ _ _ _ _
    rw [f122_lb0_eq]
    refine .inl ⟨w1, run_next_over (hw.get (k := 0) rfl) (hw.has _ _ (.tail _ (hFm _ _ hF).2)) hst hv.over, hK w1 ks X it _ ?_ hF hit hw⟩
    rw [← hk]
    have := hv.perm.map (·.key)
    rwa [List.append_nil] at this
  · rintro vis rem seen w1 hr hv ⟨ks, X, hk, hF, hw⟩ Y hY
    show f122_lb0 _ _ _ _ _
    rw [f122_lb0_eq]
    have hm := hw.has _ _ (.tail _ (hFm _ _ hF).2)
    obtain ⟨e, w2, he, hn, hw2, hk2, hrun⟩ := run_next_some (P := P) (hw.get (k := 0) rfl) hm hst (hv.more hst hr)
    obtain ⟨k, hek⟩ := hks e he
    have h3 : St w0 (w2.putObj it (.mapIter (some mb) clk (seen.push e.born) clk)) ((it, .mapIter (some mb) clk (seen.push e.born) clk) :: X) := (hw.same hw2 hk2).put (k := 0) rfl _
    refine .inr ⟨_, _, _, hrun, ?_⟩
    rw [f122_s1_eq]
    refine ⟨e.key, e.val, _, run_entry (h3.get (k := 0) rfl) (h3.has _ _ (.tail _ (hFm _ _ hF).2)) (by simp) (find_born hst he), k, hek, ?_⟩
    have hlt : ks.length < es.size := by
      have h5 := hv.perm.length_eq
      have h6 := congrArg List.length hk
      have h7 : 0 < rem.length := List.length_pos_iff.2 hr
      simp at h5 h6
      omega
    refine CallF_mono ?_ (hy ks k _ X it _ hlt hF hit h3)
    rintro r W' ⟨rfl, X', hF', h4⟩
    refine ⟨true, rfl, ?_⟩
    rw [Bool.not_true, BIf_false]
    exact hY e W' he hn ⟨ks ++ [k], X', by rw [List.map_append, List.map_append, hk]; simp [hek], hF', h4⟩
theorem en122 : enterable P 122 = true := by kernel_rfl
theorem range_keys {KK : Exit → Env → World → Prop} {e : Env} {round : Nat → (LoopState → Option Code → Loop) → (Option Code → World → Prop) → List Value → World → Prop}
    (h : St w0 w H) {b1 mb clk : Nat} {t1 : TypeId} {es : Array MapEntry} (hst : MapKept.Stamped es clk) (hks : ∀ e ∈ es.toList, ∃ k : Int, e.key = .int .u32 k)
    (I : List Int → List (Nat × Obj) → Prop) (I0 : I [] H) (hI : ∀ vis H', I vis H' → (b1, Cs [.map (some mb)] t1) ∈ H' ∧ (mb, .map es clk) ∈ H')
    (hround : ∀ l l' R post vis k W H' it o, vis.length < es.size → I vis H' → St w0 W ((l, .loop (R .ready none)) :: (l', .deferred (some [])) :: (it, o) :: H') → w0.heap.size ≤ l → w0.heap.size ≤ l' → w0.heap.size ≤ it →
      (∀ W' H'', I (vis ++ [k]) H'' → St w0 W' ((l, .loop (R .ready none)) :: (l', .deferred (some [])) :: (it, o) :: H'') → post none W') → round l R post [.int .u32 k] W)
    (hend : ∀ W H' l' vis, w0.heap.size ≤ l' → (es.toList.map (·.key)).Perm (vis.map encU) → I vis H' → St w0 W ((l', .deferred (some [])) :: H') → KK .normal { e with d := mk l' :: e.d } W) :
    RangeC P KK e w (.func (.func 122) #[] #[.pointer (some (Addr.mk b1 0 none))]) round := by
  refine ⟨en122, fun R hy => ?_⟩
  have h1 := (h.alloc (.deferred (some []))).alloc (.loop (R .ready none))
  have hsz : (w.alloc (.deferred (some []))).heap.size = w.heap.size + 1 := by simp
  rw [hsz] at h1
  have hle : w0.heap.size ≤ w.heap.size := h.le
  refine keys122_ok (mb := mb) (t1 := t1) (fun vis X => ∃ H', I vis H' ∧ X = (w.heap.size + 1, .loop (R .ready none)) :: (w.heap.size, .deferred (some [])) :: H') h1 ⟨H, I0, rfl⟩ ?_ hst hks ?_ ?_
  · rintro vis X ⟨H', hi, rfl⟩
    exact ⟨.tail _ (.tail _ (hI vis H' hi).1), .tail _ (.tail _ (hI vis H' hi).2)⟩
  · rintro vis k W X it o hlt ⟨H', hi, rfl⟩ hit hs
    have hs' : St w0 W ((w.heap.size + 1, .loop (R .ready none)) :: (w.heap.size, .deferred (some [])) :: (it, o) :: H') := hs.perm ((List.Perm.swap _ _ _).trans ((List.Perm.swap _ _ _).cons _))
    refine CallF_mono ?_ (hy [.int .u32 k] W (fun j W' => match j with
      | none => ∃ H'', I (vis ++ [k]) H'' ∧ St w0 W' ((w.heap.size + 1, .loop (R .ready none)) :: (w.heap.size, .deferred (some [])) :: (it, o) :: H'')
      | some _ => False)
      (hround _ _ R _ vis k W H' it o hlt hi hs' (by omega) (by omega) hit (fun W' H'' h1 h2 => ⟨H'', h1, h2⟩)) (hs'.get (k := 0) rfl))
    rintro v W' ⟨j, rfl, hj⟩
    cases j with
    | none =>
      obtain ⟨H'', h2, h3⟩ := hj
      exact ⟨rfl, _, ⟨H'', h2, rfl⟩, h3.perm (((List.Perm.swap _ _ _).cons _).trans (List.Perm.swap _ _ _))⟩
    | some c => exact hj.elim
  · rintro W vis X it o hp ⟨H', hi, rfl⟩ hit hs
    have hs := hs.tail hit
    refine ⟨.ready, none, hs.get (k := 0) rfl, by simp, ?_⟩
    exact hend _ H' _ vis hle hp hi ((hs.put (k := 0) rfl _).tail (by omega))
theorem leave_132 (sa : Option Addr) (sl sc : Nat) (v2 : Value) (r : List (Nat × Value)) (d0 : List Deferred) (w : World) (K : Value → World → Prop) :
    LeaveS P rs132 (Env.mk 13 ((4, (Value.slice sa sl sc)) :: (12, v2) :: r) d0) K [] w = K (Value.slice sa sl sc) w := by kernel_rfl
/-- slices.Collect(maps.Keys(m)). -/
theorem collect_ok {b1 mb clk : Nat} {t1 : TypeId} {es : Array MapEntry} (h : St w0 w H) (hb : (b1, Cs [.map (some mb)] t1) ∈ H) (hm : (mb, .map es clk) ∈ H) (hst : MapKept.Stamped es clk) (hks : ∀ e ∈ es.toList, ∃ k : Int, e.key = .int .u32 k) (hn : es.size < 1000000)
    (hK : ∀ w' a c (ks : List Int) Lo, (es.toList.map (·.key)).Perm (ks.map encU) → SlO 1 33 (.slice a ks.length c) ks.length (ks.map encU) Lo → New w0 Lo → St w0 w' (Lo ++ H) → K (.slice a ks.length c) w') :
    CallL P 120 [.func (.func 122) #[] #[.pointer (some (Addr.mk b1 0 none))]] w K := by
  refine f120_ok _ _ _ ?_
  rw [f120_eq]
  refine f132_ok _ _ _ _ _ _ ?_
  rw [f132_eq]
  refine h.newC fun n2 w1 hn2 h1 => ?_
  have h1 : St w0 w1 ((n2, Cs [.slice none 0 0] 101) :: H) := h1
  refine range_keys (mb := mb) (t1 := t1) h1 hst hks (fun vis H' => vis.length ≤ es.size ∧ ∃ oa oc Lo, H' = (n2, Cs [.slice oa vis.length oc] 101) :: (Lo ++ H) ∧ SlO 1 33 (.slice oa vis.length oc) vis.length (vis.map encU) Lo ∧ New w0 Lo)
    ⟨Nat.zero_le _, none, 0, [], rfl, SlO.nil 1 33, New.nil w0⟩ ?_ ?_ ?_
  · rintro vis H' ⟨_, oa, oc, Lo, rfl, _, _⟩
    exact ⟨.tail _ (List.mem_append_right _ hb), .tail _ (List.mem_append_right _ hm)⟩
  · rintro l l' R post vis k W H' it o hlt ⟨hvl, oa, oc, Lo, rfl, hS, hN⟩ hs hl hl' hit hpost
    rw [f132_rd0_eq]
    refine ⟨rfl, ?_⟩
    rw [f132_ra0_eq]
    refine ⟨hs.get (k := 0) rfl, ?_⟩
    have h2 := hs.put (k := 0) rfl (.loop (R .busy none))
    rw [f132_s1_eq]
    refine ⟨oa, vis.length, oc, h2.cell (k := 3) rfl, ⟨rfl, trivial⟩, h2.newC fun n13 w3 hn13 h3 => ?_⟩
    have h3 : St w0 w3 ([(n13, Cs [encU k] 33), (l, .loop (R .busy none)), (l', .deferred (some [])), (it, o), (n2, Cs [.slice oa vis.length oc] 101)] ++ (Lo ++ H)) := h3
    obtain ⟨ga, cap, w4, L', hr, hS', h4, hN'⟩ := St.append (P := P) 101 101 33 Try.t33 (.int .u32 0) 1 4 Try.underlying101 (by kernel_rfl) rfl rfl rfl rfl (by omega) (xs := vis.map encU)
      (A := [(n13, Cs [encU k] 33), (l, .loop (R .busy none)), (l', .deferred (some [])), (it, o), (n2, Cs [.slice oa vis.length oc] 101)]) (news := [encU k]) h3 hS hN (j := 0) rfl rfl (fun u hu => by rw [List.mem_singleton.1 hu]; rfl) (by simp [maxLen]; omega) (by omega)
    refine ⟨_, _, _, w4, hr, ?_⟩
    have h4 : St w0 w4 ((n13, Cs [encU k] 33) :: (l, .loop (R .busy none)) :: (l', .deferred (some [])) :: (it, o) :: (n2, Cs [.slice oa vis.length oc] 101) :: (L' ++ H)) := h4
    refine h4.st1 (k := 4) rfl (by simp) rfl fun w5 h5 => ⟨h5.get (k := 1) rfl, ?_⟩
    have h6 := (h5.put (k := 1) rfl (.loop (R .ready none))).tail hn13
    have e1 : (vis ++ [k]).length = vis.length + 1 := by simp
    have e2 : (vis ++ [k]).map encU = vis.map encU ++ [encU k] := by simp
    refine hpost _ ((n2, Cs [.slice (some ⟨ga, 0, none⟩) (vis.length + 1) cap] 101) :: (L' ++ H)) ⟨by omega, _, cap, L', by rw [e1], by rw [e1, e2]; exact hS', hN'⟩ h6
  · rintro W H' l' vis hl' hp ⟨_, oa, oc, Lo, rfl, hS, hN⟩ hs
    show f132_rn0 _ _ _ _ _ _ _
    rw [f132_rn0_eq, f132_s2_eq]
    refine ⟨oa, vis.length, oc, hs.cell (k := 1) rfl, ?_⟩
    refine ⟨hs.get (k := 0) rfl, ?_⟩
    have h5 := hs.put (k := 0) rfl (.deferred none)
    rw [leave_132]
    refine ⟨oa, _, oc, rfl, hK _ oa oc vis Lo hp hS hN ?_⟩
    exact (h5.tail hl').tail hn2
/-! ### Sort -/
theorem run_len_101 {p : Option Addr} {l c : Nat} (wq : World) : (Builtin.len_ #[101] 3 [Value.slice p l c].toArray).run P wq = .ok (.int .i64 l) wq := run_len_slice p l c Try.underlying101 3
theorem len_ok (h : St w0 w H) {n : Nat} (hn : n < 4611686018427387904) (hK : ∀ w', St w0 w' H → K (I64 (bitsLen n : Nat)) w') : CallL P 50 [.int .u64 (n : Nat)] w K := by
  refine CallL_of (Any.bits_Len (Go.Proofs.SlLaysF0.n15.bits (P := P) (ρ := Try.sortR_ren) { Try.sortR with }) (n : Int) w (by omega) (by omega)) ?_
  rintro e w' ⟨rfl, rfl⟩
  refine ⟨_, rfl, ?_⟩
  have := hK w' h
  rw [Int.toNat_natCast, Go.Proofs.bitLen_eq _ (by omega)]
  exact this
/-- slices.Sort of numbers. -/
theorem sortN_ok {a : Option Addr} {c : Nat} {ks : List Int} {Lo : List (Nat × Obj)} (h : St w0 w (Lo ++ H)) (hS : SlO 1 33 (.slice a ks.length c) ks.length (ks.map encU) Lo) (hn : ks.length < 1000000)
    (hK : ∀ w' Lo', SlO 1 33 (.slice a ks.length c) ks.length ((ks.mergeSort fun x y => decide (x ≤ y)).map encU) Lo' → (New w0 Lo → New w0 Lo') → St w0 w' (Lo' ++ H) → K (.tuple [].toArray) w') :
    CallL P 121 [.slice a ks.length c] w K := by
  refine f121_ok _ _ _ _ _ ?_
  rw [f121_eq]
  refine ⟨ks.length, fun wq _ => run_len_101 wq, ?_⟩
  have e6 : IntKind.wrap .u64 (ks.length : Int) = (ks.length : Int) := by
    simp only [IntKind.wrap, IntKind.bits, IntKind.signed]
    simp
    omega
  rw [e6]
  refine len_ok h (by omega) fun w1 h1 => ⟨_, rfl, ?_⟩
  have hbl : bitsLen ks.length ≤ 62 := (Go.Sort.bitsLen_le_iff _ 62).2 (by omega)
  rcases hS.2 with ⟨e1, e2, e3⟩ | ⟨g, cap, cur, e1, rfl, h3, h4, h5, h6⟩
  · -- no number
    have hz : ks = [] := List.eq_nil_of_length_eq_zero e2
    subst hz
    obtain ⟨rfl, rfl⟩ : a = none ∧ c = 0 := by simpa using e1
    subst e3
    refine f133_ok _ _ _ _ _ _ _ _ ?_
    rw [f133_eq, f133_s0_eq, f133_s1_eq, f133_s2_eq]
    refine ⟨fun m ee w => m = 0 ∧ ee = Env.mk 134 [(2, (Value.int .i64 0)), (1, (Value.int .i64 0)), (0, (Value.slice none 0 0)), (9, (Value.bool true)), (8, (Value.bool true)), (3, (Value.int .i64 (bitsLen 0 : Nat)))] [] ∧ St w0 w H, ⟨0, rfl, rfl, h1⟩, ?_⟩
    rintro m ee w2 ⟨rfl, rfl, h2⟩
    show f133_lb3 _ _ _ _ _ _ _ _ _ _ _
    rw [f133_lb3_eq, show IntKind.wrap .i64 ((0 : Int) - 0) = 0 by decide, show decide ((0 : Int) ≤ 12) = true by decide, BIf_true]
    refine f134_ok _ _ _ _ _ _ _ ?_
    rw [f134_eq, f134_s0_eq, f134_s1_eq]
    refine ⟨fun m ee w => m = 0 ∧ ee = Env.mk 49 [(0, (Value.slice none 0 0)), (6, (Value.int .i64 1)), (1, (Value.int .i64 0)), (2, (Value.int .i64 0))] [] ∧ St w0 w H, ⟨0, rfl, rfl, h2⟩, ?_⟩
    rintro m ee w3 ⟨rfl, rfl, h3⟩
    show f134_lb2 _ _ _ _ _ _ _ _ _
    rw [f134_lb2_eq, show decide ((1 : Int) < 0) = false by decide, BIf_false]
    exact ⟨rfl, rfl, hK w3 [] (by simpa using hS) (fun hN => hN) h3⟩
  · obtain ⟨rfl, rfl⟩ : a = some ⟨g, 0, none⟩ ∧ c = cap := by simpa using e1
    have hcur : cur = uCs ks.toArray (cur.drop ks.length) := by
      have : cur.take (ks.length * 1) = ks.map encU := h6
      rw [Nat.mul_one] at this
      show cur = ks.toArray.toList.map encU ++ cur.drop ks.length
      rw [List.toList_toArray, ← this, List.take_append_drop]
    have h1 : St w0 w1 ((g, Cs cur 33) :: H) := h1
    generalize hz : cur.drop ks.length = z at hcur
    have hzl : z.length = c - ks.length := by rw [← hz, List.length_drop, h5]; omega
    subst hcur
    have hsz : ks.toArray.size = ks.length := by simp
    rw [← hsz]
    rw [← hsz] at hbl
    refine pdq_ok (a := 0) (b := ks.toArray.size) (limit := bitsLen ks.toArray.size) (ks.toArray.size + 1) (by omega) h1 (by omega) (by omega) (by omega) (by omega) (.inl rfl) fun w2 h2 => ⟨rfl, ?_⟩
    have hs : (pdq ltInt ks.toArray 0 ks.toArray.size (bitsLen ks.toArray.size) true true).toList = ks.mergeSort (fun x y => decide (x ≤ y)) := Go.Sort.sortInt ks
    refine hK w2 [(g, Cs (uCs (pdq ltInt ks.toArray 0 ks.toArray.size (bitsLen ks.toArray.size) true true) z) 33)] ?_ (fun hN => by simpa [New] using hN) h2
    rw [hsz] at hs ⊢
    refine ⟨by simp, .inr ⟨g, c, _, rfl, rfl, h3, h4, ?_, ?_⟩⟩
    · show (List.map encU _ ++ z).length = _
      rw [hs, List.length_append, List.length_map, List.length_mergeSort, hzl]
      omega
    · show (List.map encU _ ++ z).take _ = _
      rw [hs, List.take_left' (by simp)]
end Go.Fx.Try
namespace Go.Fx.Mo
theorem told_len {d d' : Det} {e : Ev} {out : List Race} (h : feed d e = (d', .inl out)) (ht : d.told.length ≤ 1000) (hf : out.length ≤ 65536) : d'.told.length ≤ 1000 := by
  have hl : ∀ (o : List Race) (cs : List (Int × Cell)) (ts : List (Int × Bool)), (tell o cs ts).2.length ≤ ts.length + o.length := by
    intro o
    induction o with
    | nil => intro cs ts; simp [tell]
    | cons x r ih =>
      intro cs ts
      unfold tell
      have h2 : (put ts x.byte true).length ≤ ts.length + 1 := by unfold put; split <;> simp
      refine Nat.le_trans (ih _ _) ?_
      simp only [List.length_cons]
      omega
  obtain ⟨p, _, _, _, hw, rfl⟩ := feed_inl h
  have h3 := hl out (keep (accOf d e) p.tk (at0 d.th.rels e.th) d.told (if (accesses e).2.2 then bytes e.a e.n else []) d.cells) d.told
  rw [w64_small (by omega) (by omega)] at hw
  show (tell out _ d.told).2.length ≤ 1000
  omega
end Go.Fx.Mo
namespace Go.Fx.Try
open Go Go.Fx Go.Fx.Mo
open Go.Proofs
variable {w0 w : World} {H : List (Nat × Obj)} {K : Value → World → Prop}
set_option maxRecDepth 20000
theorem keys_perm {es : Array MapEntry} {clk : Nat} {m : List (Int × Bool)} (hm : MapIs encU es clk (encM Value.bool m)) {ks : List Int} (hp : (es.toList.map (·.key)).Perm (ks.map encU)) : ks.Perm (m.map (·.1)) := by
  have h1 := hm.perm.map (·.1)
  have e1 : (es.toList.map fun e => (e.key, e.val)).map (·.1) = es.toList.map (·.key) := by rw [List.map_map]; rfl
  have e2 : ((encM Value.bool m).map fun p => (encU p.1, p.2)).map (·.1) = (m.map (·.1)).map encU := by
    unfold encM
    rw [List.map_map, List.map_map, List.map_map]
    rfl
  rw [e1, e2] at h1
  have h2 := (hp.symm.trans h1).map fun v : Value => match v with
    | .int _ n => n
    | _ => 0
  rw [List.map_map, List.map_map] at h2
  have e3 : ((fun v : Value => match v with
    | .int _ n => n
    | _ => 0) ∘ encU) = id := rfl
  rw [e3, List.map_id, List.map_id] at h2
  exact h2
theorem sort_perm {a b : List Int} (h : a.Perm b) : a.mergeSort (fun x y => decide (x ≤ y)) = b.mergeSort (fun x y => decide (x ≤ y)) := by
  have tr : ∀ x y z : Int, decide (x ≤ y) = true → decide (y ≤ z) = true → decide (x ≤ z) = true := fun x y z h1 h2 => by simp at *; omega
  have to : ∀ x y : Int, (decide (x ≤ y) || decide (y ≤ x)) = true := fun x y => by simp; omega
  have h1 := List.pairwise_mergeSort tr to a
  have h2 := List.pairwise_mergeSort tr to b
  exact List.Perm.eq_of_pairwise (le := fun x y => decide (x ≤ y) = true) (fun x y _ _ h1 h2 => by simp at *; omega) h1 h2 (((List.mergeSort_perm a _).trans h).trans (List.mergeSort_perm b _).symm)
/-- The bytes of which a race was told. -/
def racyOf (d : Det) : List Int := (d.told.map (·.1)).mergeSort fun x y => decide (x ≤ y)
theorem racy_ok {D : DB} (h : St w0 w (detH D ++ H)) (hD : DBok w0 D) (ht : D.d.told.length ≤ 1000)
    (hK : ∀ w' a c Lo, SlO 1 33 (.slice a (racyOf D.d).length c) (racyOf D.d).length ((racyOf D.d).map encU) Lo → New w0 Lo → St w0 w' (Lo ++ (detH D ++ H)) → K (.slice a (racyOf D.d).length c) w') : CallL P 75 [ptr D.db] w K := by
  refine f75_ok _ _ _ ?_
  rw [f75_eq, Option.isNone_some, BIf_false, f75_s0_eq]
  have hdet : ∀ {w' : World} {X : List (Nat × Obj)}, St w0 w' (X ++ (detH D ++ H)) → w'.cell? (Addr.mk D.db 93 none) = some (.map (some D.lb)) := fun h' => by
    rw [cell_of (h'.has D.db _ (List.mem_append_right _ (List.mem_append_left _ (.head _)))), List.getElem?_append_right (by rw [thCs_len hD.th]; omega), thCs_len hD.th]
    rfl
  refine ⟨some D.lb, by rw [add_lit']; exact hdet (X := []) h, ?_⟩
  refine f100_ok _ _ _ ?_
  rw [f100_eq]
  refine h.newC fun n1 w1 hn1 h1 => ⟨_, rfl, ?_⟩
  have h1 : St w0 w1 ((n1, Cs [.map (some D.lb)] 124) :: (detH D ++ H)) := h1
  refine f99_ok _ _ _ ?_
  rw [f99_eq]
  have hsz : D.es6.size = D.d.told.length := by
    have := hD.m6.perm.length_eq
    simpa [encM] using this
  have hlb : (D.lb, Obj.map D.es6 D.c6) ∈ (n1, Cs [.map (some D.lb)] 124) :: (detH D ++ H) := by simp [detH]
  refine collect_ok h1 (.head _) hlb hD.m6.st (fun e he => ?_) (by omega) fun w2 a c ks Lo hp hS hN h2 => ⟨a, _, c, rfl, ?_⟩
  · have : (e.key, e.val) ∈ (encM Value.bool D.d.told).map fun p => (encU p.1, p.2) := hD.m6.perm.mem_iff.1 (List.mem_map.2 ⟨e, he, rfl⟩)
    obtain ⟨p, _, hp⟩ := List.mem_map.1 this
    exact ⟨p.1, (congrArg (·.1) hp).symm⟩
  have hpk := keys_perm hD.m6 hp
  have hr : racyOf D.d = ks.mergeSort fun x y => decide (x ≤ y) := (sort_perm hpk).symm
  have hl : (racyOf D.d).length = ks.length := by rw [hr, List.length_mergeSort]
  refine sortN_ok h2 hS (by have := hpk.length_eq; simp at this; omega) fun w3 Lo' hS' hN' h3 => ⟨rfl, ⟨a, _, c, rfl, ?_⟩⟩
  rw [← hl]
  refine hK w3 a c Lo' ?_ (hN' hN) ?_
  · rw [hl, hr]; exact hS'
  · have h3 : St w0 w3 ([(n1, Cs [.map (some D.lb)] 124)] ++ (Lo' ++ (detH D ++ H))) := h3.perm (perm_by fun c => by simp only [List.map_append, List.map_cons, List.map_nil, List.sum_append, List.sum_cons, List.sum_nil]; omega)
    exact h3.tail hn1
end Go.Fx.Try
namespace Go.Fx.Mo
def nz (c : Clk) : Int := if c = zeroC then 0 else 1
def nzs : List Clk → Int
  | [] => 0
  | c :: r => nz c + nzs r
theorem nzs_snoc (l : List Clk) (c : Clk) : nzs (l ++ [c]) = nzs l + nz c := by
  induction l with
  | nil => simp [nzs]
  | cons x r ih => simp only [List.cons_append, nzs, ih]; omega
theorem nzs_range (l : List Clk) : 0 ≤ nzs l ∧ nzs l ≤ l.length := by
  induction l with
  | nil => simp [nzs]
  | cons x r ih =>
    simp only [nzs, List.length_cons]
    have : 0 ≤ nz x ∧ nz x ≤ 1 := by unfold nz; split <;> omega
    omega
end Go.Fx.Mo
namespace Go.Fx.Try
open Go Go.Fx Go.Fx.Mo
open Go.Proofs
variable {w0 w : World} {H : List (Nat × Obj)} {K : Value → World → Prop}
set_option maxRecDepth 20000
theorem build116 (wq : World) : (Instr.build 116 [].toArray).run P wq = .ok (.agg (zeroC.map I64).toArray) wq := by kernel_rfl
theorem cellsI3 : P.cellsOf 3 = 1 := by kernel_rfl
theorem items_step {d i : Nat} {is : List Nat} {xs ys : Array Value} {x y : Int} {wq : World} (px : (part 3 xs i).run P wq = .ok (I64 x) wq) (py : (part 3 ys i).run P wq = .ok (I64 y) wq) :
    (Op.eqItems (d + 1) 3 1 xs ys (i :: is)).run P wq = if x = y then (Op.eqItems (d + 1) 3 1 xs ys is).run P wq else .ok false wq := by
  have h3 : ∀ x y, (Op.equalIn (d + 1) 3 (.int .i64 x) (.int .i64 y)).run P wq = .ok (x == y) wq := fun x y => by simp [Op.equalIn, run_underlying Try.underlying3]
  simp only [Op.eqItems, Nat.mul_one, Sem.run_bind, px, py, Result.andThen_ok, h3]
  by_cases e : x = y
  · simp [e]
  · simp [e]
theorem neq116 (c : Clk) (hc : c.length = 8) (s t : Nat) (wq : World) : (do eqGuard .neq 116 (.tmp s) (.tmp t) (.agg (c.map I64).toArray) (.agg (zeroC.map I64).toArray); binOp .neq 116 (.agg (c.map I64).toArray) (.agg (zeroC.map I64).toArray) : Sem Value).run P wq = .ok (.bool (decide (c ≠ zeroC))) wq := by
  have hm : ∃ d, Op.maxDepth = d + 2 := ⟨_, rfl⟩
  obtain ⟨d, hd⟩ := hm
  have he : (Op.equal 116 (.agg (c.map I64).toArray) (.agg (zeroC.map I64).toArray)).run P wq = .ok (decide (c = zeroC)) wq := by
    unfold Op.equal
    rw [hd, run_equalIn_array wq (d + 1) _ _ Try.underlying116 info3, cellsI3]
    match c, hc with
    | [c0, c1, c2, c3, c4, c5, c6, c7], _ =>
      have p0 : (part 3 #[I64 c0, I64 c1, I64 c2, I64 c3, I64 c4, I64 c5, I64 c6, I64 c7] 0).run P wq = .ok (I64 c0) wq := by kernel_rfl
      have z0 : (part 3 #[I64 0, I64 0, I64 0, I64 0, I64 0, I64 0, I64 0, I64 0] 0).run P wq = .ok (I64 0) wq := by kernel_rfl
      have p1 : (part 3 #[I64 c0, I64 c1, I64 c2, I64 c3, I64 c4, I64 c5, I64 c6, I64 c7] 1).run P wq = .ok (I64 c1) wq := by kernel_rfl
      have z1 : (part 3 #[I64 0, I64 0, I64 0, I64 0, I64 0, I64 0, I64 0, I64 0] 1).run P wq = .ok (I64 0) wq := by kernel_rfl
      have p2 : (part 3 #[I64 c0, I64 c1, I64 c2, I64 c3, I64 c4, I64 c5, I64 c6, I64 c7] 2).run P wq = .ok (I64 c2) wq := by kernel_rfl
      have z2 : (part 3 #[I64 0, I64 0, I64 0, I64 0, I64 0, I64 0, I64 0, I64 0] 2).run P wq = .ok (I64 0) wq := by kernel_rfl
      have p3 : (part 3 #[I64 c0, I64 c1, I64 c2, I64 c3, I64 c4, I64 c5, I64 c6, I64 c7] 3).run P wq = .ok (I64 c3) wq := by kernel_rfl
      have z3 : (part 3 #[I64 0, I64 0, I64 0, I64 0, I64 0, I64 0, I64 0, I64 0] 3).run P wq = .ok (I64 0) wq := by kernel_rfl
      have p4 : (part 3 #[I64 c0, I64 c1, I64 c2, I64 c3, I64 c4, I64 c5, I64 c6, I64 c7] 4).run P wq = .ok (I64 c4) wq := by kernel_rfl
      have z4 : (part 3 #[I64 0, I64 0, I64 0, I64 0, I64 0, I64 0, I64 0, I64 0] 4).run P wq = .ok (I64 0) wq := by kernel_rfl
      have p5 : (part 3 #[I64 c0, I64 c1, I64 c2, I64 c3, I64 c4, I64 c5, I64 c6, I64 c7] 5).run P wq = .ok (I64 c5) wq := by kernel_rfl
      have z5 : (part 3 #[I64 0, I64 0, I64 0, I64 0, I64 0, I64 0, I64 0, I64 0] 5).run P wq = .ok (I64 0) wq := by kernel_rfl
      have p6 : (part 3 #[I64 c0, I64 c1, I64 c2, I64 c3, I64 c4, I64 c5, I64 c6, I64 c7] 6).run P wq = .ok (I64 c6) wq := by kernel_rfl
      have z6 : (part 3 #[I64 0, I64 0, I64 0, I64 0, I64 0, I64 0, I64 0, I64 0] 6).run P wq = .ok (I64 0) wq := by kernel_rfl
      have p7 : (part 3 #[I64 c0, I64 c1, I64 c2, I64 c3, I64 c4, I64 c5, I64 c6, I64 c7] 7).run P wq = .ok (I64 c7) wq := by kernel_rfl
      have z7 : (part 3 #[I64 0, I64 0, I64 0, I64 0, I64 0, I64 0, I64 0, I64 0] 7).run P wq = .ok (I64 0) wq := by kernel_rfl
      have hz : zeroC = [0, 0, 0, 0, 0, 0, 0, 0] := rfl
      show (Op.eqItems (d + 1) 3 1 #[I64 c0, I64 c1, I64 c2, I64 c3, I64 c4, I64 c5, I64 c6, I64 c7] #[I64 0, I64 0, I64 0, I64 0, I64 0, I64 0, I64 0, I64 0] [0, 1, 2, 3, 4, 5, 6, 7]).run P wq = _
      rw [hz]
      rw [items_step p0 z0]
      by_cases e0 : c0 = 0
      case neg => rw [if_neg e0, decide_eq_false (by simp [e0])]
      rw [if_pos e0]
      rw [items_step p1 z1]
      by_cases e1 : c1 = 0
      case neg => rw [if_neg e1, decide_eq_false (by simp [e1])]
      rw [if_pos e1]
      rw [items_step p2 z2]
      by_cases e2 : c2 = 0
      case neg => rw [if_neg e2, decide_eq_false (by simp [e2])]
      rw [if_pos e2]
      rw [items_step p3 z3]
      by_cases e3 : c3 = 0
      case neg => rw [if_neg e3, decide_eq_false (by simp [e3])]
      rw [if_pos e3]
      rw [items_step p4 z4]
      by_cases e4 : c4 = 0
      case neg => rw [if_neg e4, decide_eq_false (by simp [e4])]
      rw [if_pos e4]
      rw [items_step p5 z5]
      by_cases e5 : c5 = 0
      case neg => rw [if_neg e5, decide_eq_false (by simp [e5])]
      rw [if_pos e5]
      rw [items_step p6 z6]
      by_cases e6 : c6 = 0
      case neg => rw [if_neg e6, decide_eq_false (by simp [e6])]
      rw [if_pos e6]
      rw [items_step p7 z7]
      by_cases e7 : c7 = 0
      case neg => rw [if_neg e7, decide_eq_false (by simp [e7])]
      rw [if_pos e7]
      simp [Op.eqItems, e0, e1, e2, e3, e4, e5, e6, e7]
  simp [eqGuard, binOp, he, Try.eqGuardType116]
theorem flat_clk {l : List Clk} (h : ∀ c ∈ l, c.length = 8) {i : Nat} (hi : i < l.length) : ((l.flatten.map I64).drop (i * 8)).take 8 = l[i].map I64 := by
  have := flat_slice (l := l) (f := fun c => c.map I64) (n := 8) (fun x hx => by rw [List.length_map]; exact h x hx) hi
  rw [List.map_flatten]
  exact this
theorem run_len_123 {m : Nat} {es : Array MapEntry} {clk : Nat} {wq : World} (hm : wq.heap[m]? = some (.map es clk)) : (Builtin.len_ #[123] 3 [Value.map (some m)].toArray).run P wq = .ok (.int .i64 es.size) wq := by
  simp [Builtin.len_, run_underlying mapType123, MapKept.run_getObj_map hm, goInt]
theorem run_len_118 {m : Nat} {es : Array MapEntry} {clk : Nat} {wq : World} (hm : wq.heap[m]? = some (.map es clk)) : (Builtin.len_ #[118] 3 [Value.map (some m)].toArray).run P wq = .ok (.int .i64 es.size) wq := by
  simp [Builtin.len_, run_underlying mapType118, MapKept.run_getObj_map hm, goInt]
theorem z116c : zcells P 116 = (zeroC.map I64).toArray := by kernel_rfl
/-- How many clocks. -/
def clocksOf (d : Det) : Int := d.th.objs.length + nzs d.th.clocks
def ZInv (w0 : World) (X : List (Nat × Obj)) (D : DB) (m : Nat) (ee : Env) (w : World) : Prop :=
  ∃ i : Nat, i ≤ 8 ∧ m = 8 - i ∧ ee = Env.mk 42 [(27, (Value.int .i64 i)), (4, (Value.int .i64 (D.d.th.objs.length + nzs (D.d.th.clocks.take i)))), (26, (Value.agg (D.d.th.clocks.flatten.map I64).toArray)), (2, (Value.int .i64 0)), (3, (Value.int .i64 0)), (0, ptr D.db)] [] ∧ St w0 w X
theorem size_ok {D : DB} (h : St w0 w (detH D ++ H)) (hD : DBok w0 D) (hn : D.d.th.objs.length < 1000000000)
    (hK : ∀ w', St w0 w' (detH D ++ H) → K (.tuple [I64 (D.d.cells.length : Nat), I64 (clocksOf D.d)].toArray) w') : CallL P 73 [ptr D.db] w K := by
  have hT := hD.th
  have hlen := thCs_len (ob := D.tob) (nb := D.tnb) hT
  have hmem : (D.db, Cs (thCs D.d.th D.tob D.tnb ++ restCs D) 126) ∈ detH D ++ H := List.mem_append_left _ (.head _)
  have hrest : ∀ {w' : World} (i : Nat), St w0 w' (detH D ++ H) → w'.cell? (Addr.mk D.db (90 + i) none) = (restCs D)[i]? := fun i h' => by
    rw [cell_of (h'.has _ _ hmem), List.getElem?_append_right (by omega), hlen, show 90 + i - 90 = i by omega]
  have hth : ∀ {w' : World} (i : Nat), i < 90 → St w0 w' (detH D ++ H) → w'.cell? (Addr.mk D.db i none) = (thCs D.d.th D.tob D.tnb)[i]? := fun i hi h' => by
    rw [cell_of (h'.has _ _ hmem), List.getElem?_append_left (by omega)]
  have hfl : (D.d.th.clocks.flatten.map I64).length = 64 := by
    have e8 : ∀ l : List Clk, (∀ c ∈ l, c.length = 8) → l.flatten.length = l.length * 8 := by
      intro l
      induction l with
      | nil => simp
      | cons x r ih =>
        intro hl
        rw [List.flatten_cons, List.length_append, hl x (by simp), ih (fun c hc => hl c (by simp [hc])), List.length_cons]
        omega
    rw [List.length_map, e8 _ hT.each, hT.clocks]
  refine f73_ok _ _ _ ?_
  rw [f73_eq, f73_s0_eq, f73_s1_eq, Option.isNone_some, BIf_false]
  refine ⟨true, by rw [add_lit', Nat.zero_add]; exact hrest 0 h, ?_⟩
  rw [Bool.not_true, f73_s2_eq, BIf_false, f73_s3_eq]
  have h88 : (thCs D.d.th D.tob D.tnb)[88]? = some (.map (some D.tob)) := by
    have hx := hT.begun; have hy := hT.ended; have hz := hT.rels
    unfold thCs
    rw [List.getElem?_append_right (by omega), hfl, List.getElem?_append_right (by simp [hx]), List.getElem?_append_right (by simp [hx, hy]), List.getElem?_append_right (by simp [hx, hy, hz])]
    simp [hx, hy, hz]
  have hsz : D.es3.size = D.d.th.objs.length := by
    have := hD.m3.perm.length_eq
    simpa [encM] using this
  have hsz5 : D.es5.size = D.d.cells.length := by
    have := hD.m5.perm.length_eq
    rw [hD.cells]
    simpa [cellM, cellD] using this
  have htob : (D.tob, Obj.map D.es3 D.c3) ∈ detH D ++ H := List.mem_append_left _ (by simp [detH])
  have hcb : (D.cb, Obj.map D.es5 D.c5) ∈ detH D ++ H := List.mem_append_left _ (by simp [detH])
  refine ⟨some D.tob, by rw [add_lit', Nat.zero_add, hth 88 (by omega) h, h88], (D.es3.size : Nat), fun wq hq => run_len_118 (ext_get hq (h.has _ _ htob)), ?_⟩
  rw [f73_s4_eq]
  refine LdA_of (h.has _ _ hmem) (by rw [List.length_append, hlen]; omega) ?_
  have e64 : ((thCs D.d.th D.tob D.tnb ++ restCs D).drop 0).take 64 = D.d.th.clocks.flatten.map I64 := by
    rw [List.drop_zero]
    unfold thCs
    rw [List.append_assoc, List.take_left' hfl]
  rw [e64, f73_s5_eq, hsz]
  refine ⟨ZInv w0 (detH D ++ H) D, ⟨8, 0, by omega, rfl, by simp [nzs], h⟩, ?_⟩
  rintro m ee w1 ⟨i, hi, rfl, rfl, h1⟩
  show f73_lb6 _ _ _ _ _ _ _ _ _
  rw [f73_lb6_eq, f73_s7_eq, BIf_iff]
  have hnr := nzs_range (D.d.th.clocks.take i)
  have htl : (D.d.th.clocks.take i).length ≤ 8 := by rw [List.length_take, hT.clocks]; omega
  constructor
  · intro hlt
    have hlt : i < 8 := by simp at hlt; omega
    have hil : i < D.d.th.clocks.length := by rw [hT.clocks]; exact hlt
    have hex : (D.d.th.clocks.flatten.map I64).toArray.extract (Int.toNat (i : Int) * 8) (Int.toNat (i : Int) * 8 + 8) = (D.d.th.clocks[i].map I64).toArray := by
      rw [Int.toNat_natCast, List.extract_toArray, List.extract_eq_take_drop, show i * 8 + 8 - i * 8 = 8 by omega, flat_clk hT.each hil]
    have hc8 : D.d.th.clocks[i].length = 8 := hT.each _ (List.getElem_mem hil)
    rw [f73_s8_eq, hex, z116c]
    refine ⟨by omega, by omega, h1.newC fun n w2 hn2 h2 => h2.stA (k := 0) rfl (by simp [hc8]) (by rw [List.toList_toArray, List.length_map]; decide) (fun v hv => ?_) fun w3 h3 => ?_⟩
    · obtain ⟨x, _, rfl⟩ := List.mem_map.1 (show v ∈ D.d.th.clocks[i].map I64 by simpa using hv)
      rfl
    have h3 : St w0 w3 ((n, Cs (splice (zeroC.map I64) 0 (D.d.th.clocks[i].map I64)) 116) :: (detH D ++ H)) := h3
    rw [splice_whole (by rw [List.length_map, List.length_map, hc8]; rfl)] at h3
    refine h3.ldA (k := 0) (i := 0) rfl (by simp [hc8]) ?_
    rw [List.drop_zero, List.take_of_length_le (by simp [hc8])]
    refine ⟨_, fun wq => build116 wq, decide (D.d.th.clocks[i] ≠ zeroC), fun wq => neq116 _ hc8 30 31 wq, ?_⟩
    have hsn : nzs (D.d.th.clocks.take (i + 1)) = nzs (D.d.th.clocks.take i) + nz D.d.th.clocks[i] := by
      rw [List.take_add_one, List.getElem?_eq_getElem hil]
      exact nzs_snoc _ _
    have nx : ∀ x : Int, x = D.d.th.objs.length + nzs (D.d.th.clocks.take (i + 1)) → f73_s9 x (D.d.th.clocks.flatten.map I64).toArray 0 0 (some (Addr.mk D.db 0 none)) i w3 K (fun e' w' => ∃ m, m < 8 - i ∧ ZInv w0 (detH D ++ H) D m e' w') := by
      intro x hx
      rw [f73_s9_eq, hx]
      refine ⟨8 - (i + 1), by omega, i + 1, by omega, rfl, ?_, h3.tail hn2⟩
      rw [wrap_i64 (by omega) (by omega)]; rfl
    rw [BIf_iff]
    refine ⟨fun hb => nx _ ?_, fun hb => nx _ ?_⟩
    · have hb : D.d.th.clocks[i] ≠ zeroC := by simpa using hb
      have : nz D.d.th.clocks[i] = 1 := if_neg hb
      rw [hsn, this, wrap_i64 (by omega) (by omega)]
      omega
    · have hb : D.d.th.clocks[i] = zeroC := by simpa using hb
      have : nz D.d.th.clocks[i] = 0 := if_pos hb
      rw [hsn, this]
      omega
  · intro hge
    have : i = 8 := by simp at hge; omega
    subst this
    have e8 : D.d.th.clocks.take 8 = D.d.th.clocks := List.take_of_length_le (by rw [hT.clocks]; omega)
    rw [e8, f73_s10_eq]
    refine ⟨some D.cb, by rw [add_lit', Nat.zero_add]; exact hrest 2 h1, (D.es5.size : Nat), fun wq hq => run_len_123 (ext_get hq (h1.has _ _ hcb)), ?_⟩
    rw [hsz5]
    exact hK w1 h1
end Go.Fx.Try
namespace Go.Proofs
open Go.Shelf
set_option maxRecDepth 100000
def Try.clone69_ren : Go.Shelf.Ren := ⟨fun | 5 => 69 | 7 => 98 | n => n, fun | 23 => 118 | 25 => 147 | 3 => 116 | n => n, fun n => n⟩
theorem Try.clone69 : Go.Proofs.SlLaysW.n5 Try.prog Try.clone69_ren := {
  mixed := by kernel_rfl,
  f5 := ⟨Try.f69.name, by decide, Try.func69.trans (congrArg some (by kernel_rfl))⟩,
  f7 := Try.func98.trans (congrArg some (by kernel_rfl)),
  t4 := Try.underlying4, a4 := Try.isAgg4, z4 := Try.sizeOf4, v4 := Try.zeroValue4,
  t20 := Try.underlying20, a20 := Try.isAgg20, z20 := Try.sizeOf20, v20 := Try.zeroValue20,
  t23 := Try.underlying118, a23 := Try.isAgg118, z23 := Try.sizeOf118, v23 := Try.zeroValue118 }
def Try.clone70_ren : Go.Shelf.Ren := ⟨fun | 5 => 70 | 7 => 98 | n => n, fun | 23 => 119 | 25 => 147 | 3 => 3 | n => n, fun n => n⟩
theorem Try.clone70 : Go.Proofs.SlLaysW.n5 Try.prog Try.clone70_ren := {
  mixed := by kernel_rfl,
  f5 := ⟨Try.f70.name, by decide, Try.func70.trans (congrArg some (by kernel_rfl))⟩,
  f7 := Try.func98.trans (congrArg some (by kernel_rfl)),
  t4 := Try.underlying4, a4 := Try.isAgg4, z4 := Try.sizeOf4, v4 := Try.zeroValue4,
  t20 := Try.underlying20, a20 := Try.isAgg20, z20 := Try.sizeOf20, v20 := Try.zeroValue20,
  t23 := Try.underlying119, a23 := Try.isAgg119, z23 := Try.sizeOf119, v23 := Try.zeroValue119 }
def Try.clone71_ren : Go.Shelf.Ren := ⟨fun | 5 => 71 | 7 => 98 | n => n, fun | 23 => 124 | 25 => 33 | 3 => 4 | n => n, fun n => n⟩
theorem Try.clone71 : Go.Proofs.SlLaysW.n5 Try.prog Try.clone71_ren := {
  mixed := by kernel_rfl,
  f5 := ⟨Try.f71.name, by decide, Try.func71.trans (congrArg some (by kernel_rfl))⟩,
  f7 := Try.func98.trans (congrArg some (by kernel_rfl)),
  t4 := Try.underlying4, a4 := Try.isAgg4, z4 := Try.sizeOf4, v4 := Try.zeroValue4,
  t20 := Try.underlying20, a20 := Try.isAgg20, z20 := Try.sizeOf20, v20 := Try.zeroValue20,
  t23 := Try.underlying124, a23 := Try.isAgg124, z23 := Try.sizeOf124, v23 := Try.zeroValue124 }
end Go.Proofs
namespace Go.Fx.Try
open Go Go.Fx Go.Fx.Mo
open Go.Proofs
variable {w0 w : World} {H : List (Nat × Obj)} {K : Value → World → Prop}
set_option maxRecDepth 20000
theorem copy69_ok {m clk : Nat} {es : Array MapEntry} (h : St w0 w H) (hm : (m, Obj.map es clk) ∈ H) (hK : ∀ n w', w0.heap.size ≤ n → St w0 w' ((n, .map es clk) :: H) → K (.map (some n)) w') : CallL P 69 [.map (some m)] w K := by
  refine CallL_of (AnyW.maps_Clone (P := P) (ρ := Try.clone69_ren) Try.clone69 m es clk w (h.has _ _ hm)) ?_
  rintro e w' ⟨rfl, rfl⟩
  exact ⟨_, rfl, hK _ _ h.le (h.alloc _)⟩
theorem copy70_ok {m clk : Nat} {es : Array MapEntry} (h : St w0 w H) (hm : (m, Obj.map es clk) ∈ H) (hK : ∀ n w', w0.heap.size ≤ n → St w0 w' ((n, .map es clk) :: H) → K (.map (some n)) w') : CallL P 70 [.map (some m)] w K := by
  refine CallL_of (AnyW.maps_Clone (P := P) (ρ := Try.clone70_ren) Try.clone70 m es clk w (h.has _ _ hm)) ?_
  rintro e w' ⟨rfl, rfl⟩
  exact ⟨_, rfl, hK _ _ h.le (h.alloc _)⟩
theorem copy71_ok {m clk : Nat} {es : Array MapEntry} (h : St w0 w H) (hm : (m, Obj.map es clk) ∈ H) (hK : ∀ n w', w0.heap.size ≤ n → St w0 w' ((n, .map es clk) :: H) → K (.map (some n)) w') : CallL P 71 [.map (some m)] w K := by
  refine CallL_of (AnyW.maps_Clone (P := P) (ρ := Try.clone71_ren) Try.clone71 m es clk w (h.has _ _ hm)) ?_
  rintro e w' ⟨rfl, rfl⟩
  exact ⟨_, rfl, hK _ _ h.le (h.alloc _)⟩
theorem bs139 (w : World) : (Instr.buildSlice 139 0 ([] : List (Nat × Value)).toArray).run P w = .ok (.slice (some ⟨w.heap.size, 0, none⟩) 0 0) (w.alloc (.cells #[] 152 (0, 0))) := by kernel_rfl
theorem pasts_len (l : List Past) : (pasts l).length = l.length * 6 := by
  induction l with
  | nil => rfl
  | cons x r ih =>
    have e : pasts (x :: r) = pastCs x ++ pasts r := rfl
    have e2 : (pastCs x).length = 6 := rfl
    rw [e, List.length_append, ih, e2, List.length_cons]
    omega
theorem pasts_one (l : List Past) : ∀ v ∈ pasts l, v.oneCell' = true := by
  intro v hv
  obtain ⟨x, hx, hv⟩ := List.mem_flatten.1 hv
  obtain ⟨p, _, rfl⟩ := List.mem_map.1 hx
  simp [pastCs, Acccs] at hv
  rcases hv with rfl | rfl | rfl | rfl | rfl | rfl <;> rfl
/-- A copy of the accesses to a byte. -/
theorem clone72_ok {l : List Past} {ov : Value} {L : List (Nat × Obj)} (h : St w0 w H) (hS : SlO 6 152 ov l.length (pasts l) L) (hL : ∀ y ∈ L, y ∈ H) (hl : l.length < 2000000000)
    (hK : ∀ a c L' w', SlO 6 152 (.slice a l.length c) l.length (pasts l) L' → New w0 L' → St w0 w' (L' ++ H) → K (.slice a l.length c) w') : CallL P 72 [ov] w K := by
  obtain ⟨sa, sc, hov⟩ := hS.form
  rw [hov]
  refine f72_ok _ _ _ _ _ ?_
  rw [f72_eq, BIf_iff]
  constructor
  · intro hn
    have hn : sa = none := by simpa using hn
    subst hn
    rcases hS.2 with ⟨h1, h2, h3⟩ | ⟨g, cap, cur, hg, _⟩
    · rw [hov] at h1
      have hz : l.length = 0 ∧ sc = 0 := by simpa using h1
      have hl0 : l = [] := List.eq_nil_of_length_eq_zero hz.1
      subst hl0
      exact hK none 0 [] w (SlO.nil 6 152) (New.nil w0) h
    · rw [hov] at hg; simp at hg
  · intro _
    rw [f72_s0_eq, ← hov]
    refine ⟨_, _, _, _, bs139 w, ?_⟩
    have h3 := h.alloc (.cells #[] 152 (0, 0))
    have hn3 := h.le
    generalize w.heap.size = m at h3 hn3
    have h3 : St w0 (w.alloc (.cells #[] 152 (0, 0))) ([] ++ ([(m, Cs [] 152)] ++ H)) := h3
    have hS0 : SlO 6 152 (.slice (some ⟨m, 0, none⟩) 0 0) ([] : List Past).length (pasts []) [(m, Cs [] 152)] := ⟨rfl, .inr ⟨m, 0, [], rfl, rfl, by simp, by simp [maxLen], rfl, rfl⟩⟩
    obtain ⟨v', w', L', hr, hS', hs, hN'⟩ := St.appendN (P := P) 139 139 152 Try.t152 (.agg #[I64 0, I64 0, .int .u32 0, .bool false, .bool false, I64 0]) 6 32 Try.underlying139 info152 rfl rfl rfl rfl (by omega)
      (A := []) (L := [(m, Cs [] 152)]) (H := H) (M := L) h3 hS0 (by simpa [New] using hn3) hS (fun y hy => h3.has _ _ (by simp [hL y hy])) (pasts_one _) (by simp [maxLen]; omega) (by simp; omega)
    have hS' : SlO 6 152 v' l.length (pasts l) L' := by simpa [pasts] using hS'
    obtain ⟨a, c, hv⟩ := hS'.form
    subst hv
    exact ⟨a, _, c, w', hr, hK a c L' w' hS' hN' hs⟩
end Go.Fx.Try
namespace Go.Fx.Try
open Go Go.Fx Go.Fx.Mo
open Go.Proofs
variable {w0 w : World} {H : List (Nat × Obj)} {K : Value → World → Prop}
set_option maxRecDepth 20000
theorem perm_lift {α β : Type} {f : α → β} : ∀ {m : List β} {l : List α}, (l.map f).Perm m → ∃ l' : List α, l'.Perm l ∧ l'.map f = m
  | [], l, h => by
    have : l = [] := by simpa using h.length_eq
    subst this
    exact ⟨[], .refl _, rfl⟩
  | b :: m, l, h => by
    obtain ⟨a, ha, rfl⟩ := List.mem_map.1 (h.mem_iff.2 (List.mem_cons_self ..))
    obtain ⟨l1, l2, rfl⟩ := List.append_of_mem ha
    have h2 : ((l1 ++ l2).map f).Perm m := by
      have h3 : ((l1 ++ a :: l2).map f).Perm (f a :: (l1 ++ l2).map f) := by
        rw [List.map_append, List.map_cons, List.map_append]
        exact List.perm_middle
      exact List.Perm.cons_inv (h3.symm.trans h)
    obtain ⟨l', h4, h5⟩ := perm_lift h2
    exact ⟨a :: l', (h4.cons a).trans List.perm_middle.symm, by rw [List.map_cons, h5]⟩
def thB (T : Th) : List Value := T.clocks.flatten.map I64 ++ (T.begun.map .bool ++ (T.ended.map .bool ++ T.rels.map I64))
theorem thCs_is (T : Th) (ob nb : Nat) : thCs T ob nb = thB T ++ [.map (some ob), .map (some nb)] := by simp [thCs, thB]
theorem thB_len {T : Th} (h : ThOk T) : (thB T).length = 88 := by
  have := thCs_len (ob := 0) (nb := 0) h
  rw [thCs_is, List.length_append] at this
  simpa using this
theorem copy_sets {T : Th} (hT : ThOk T) {ob nb cb lb a b c d : Nat} (x : Int) :
    ((((thCs T ob nb ++ [.bool true, I64 x, .map (some cb), .map (some lb)]).set 88 (.map (some a))).set 89 (.map (some b))).set 93 (.map (some c))).set 92 (.map (some d)) = thCs T a b ++ [.bool true, I64 x, .map (some d), .map (some c)] := by
  have hl := thB_len hT
  rw [thCs_is, thCs_is, List.append_assoc, List.append_assoc, List.set_append_right _ _ (by omega), List.set_append_right _ _ (by omega), List.set_append_right _ _ (by omega), List.set_append_right _ _ (by omega), hl]
  rfl
theorem thCs_one {T : Th} {ob nb : Nat} : ∀ v ∈ thCs T ob nb, v.oneCell' = true := by
  intro v hv
  simp only [thCs, List.mem_append, List.mem_map] at hv
  rcases hv with ⟨_, _, rfl⟩ | ⟨_, _, rfl⟩ | ⟨_, _, rfl⟩ | ⟨_, _, rfl⟩ | hv
  · rfl
  · rfl
  · rfl
  · rfl
  · simp at hv
    rcases hv with rfl | rfl <;> rfl
theorem z126 : ∃ cs : List Value, zcells P 126 = cs.toArray ∧ cs.length = 94 := ⟨_, rfl, by kernel_rfl⟩
theorem zc142 : ∃ cs : List Value, zcells P 142 = cs.toArray ∧ cs.length = 25 := ⟨_, rfl, by kernel_rfl⟩
theorem cellCs_len {x : CB} (hx : x.c.last.length = 24) : (cellCs x).length = 25 := by simp [cellCs, hx]
theorem cellCs_one {x : CB} (hx : CBok w0 x) : ∀ v ∈ cellCs x, v.oneCell' = true := by
  intro v hv
  obtain ⟨a, c, e⟩ := hx.sl.form
  rcases List.mem_cons.1 hv with rfl | hv
  · rw [e]; rfl
  · obtain ⟨_, _, rfl⟩ := List.mem_map.1 hv; rfl
/-- The copy's blocks, but for its cells. -/
abbrev cpH (D : DB) (n8 n32 a b c : Nat) (es' : Array MapEntry) (c' : Nat) : List (Nat × Obj) :=
  (n32, .map es' c') :: (n8, Cs (thCs D.d.th a b ++ [.bool true, I64 D.d.many, .map (some n32), .map (some c)]) 126) :: (c, .map D.es6 D.c6) :: (b, .map D.es4 D.c4) :: [(a, .map D.es3 D.c3)]
def CpJ (w0 : World) (D : DB) (H : List (Nat × Obj)) (it n8 n32 a b c : Nat) (vis : List MapEntry) (seen : Array Nat) (w : World) : Prop :=
  ∃ (ms cs' rest : List CB) (es' : Array MapEntry) (c' : Nat), vis.map (fun e => (e.key, e.val)) = ms.map (fun x => (encU x.byte, ptr x.addr)) ∧ D.cs.Perm (ms ++ rest) ∧ cellD cs' = cellD ms ∧ (∀ x ∈ cs', CBok w0 x) ∧ MapIs encU es' c' (cellM cs') ∧
    St w0 w ((it, .mapIter (some D.cb) D.c5 seen D.c5) :: (cpH D n8 n32 a b c es' c' ++ (cellsH cs' ++ (detH D ++ H))))
theorem clone_loop {D : DB} (hD : DBok w0 D) {it n8 n32 a b c : Nat} (hit : w0.heap.size ≤ it) (hn : w0.heap.size ≤ n8 ∧ w0.heap.size ≤ a ∧ w0.heap.size ≤ b ∧ w0.heap.size ≤ n32 ∧ w0.heap.size ≤ c)
    (h : St w0 w ((it, .mapIter (some D.cb) D.c5 #[] D.c5) :: (cpH D n8 n32 a b c #[] 0 ++ (detH D ++ H))))
    (hK : ∀ w' D', D'.d = D.d → DBok w0 D' → D'.db = n8 → St w0 w' (detH D' ++ (detH D ++ H)) → K (ptr n8) w') :
    LoopE (f41_lp8 K) (Env.mk 65 [(3, ptr n8), (47, ptr it), (2, (Value.pointer none))] []) w := by
  refine LoopE_map (es := D.es5) (CpJ w0 D H it n8 n32 a b c) ⟨[], [], D.cs, #[], 0, rfl, .refl _, rfl, by simp, ⟨⟨by simp, by simp, by simp⟩, .refl _⟩, h⟩ ?_ ?_
  · rintro vis seen w1 hv ⟨ms, cs', rest, es', c', hk, hp, hcd, hok, hmi, hw⟩ Y
    show f41_lb8 _ _ _ _ _ _
    rw [f41_lb8_eq]
    have hcb : (D.cb, Obj.map D.es5 D.c5) ∈ (it, Obj.mapIter (some D.cb) D.c5 seen D.c5) :: (cpH D n8 n32 a b c es' c' ++ (cellsH cs' ++ (detH D ++ H))) := by simp [detH]
    refine .inl ⟨w1, run_next_over (hw.get (k := 0) rfl) (hw.has _ _ hcb) hD.m5.st hv.over, ?_⟩
    rw [f41_s9_eq, f41_s10_eq]
    have hrest : rest = [] := by
      have h1 := hv.perm.length_eq
      have h2 := congrArg List.length hk
      have h3 := hp.length_eq
      have h4 := hD.m5.perm.length_eq
      simp [cellM] at h1 h2 h3 h4
      exact List.eq_nil_of_length_eq_zero (by omega)
    subst hrest
    rw [List.append_nil] at hp
    have hcp : (cs'.map fun x => (x.byte, x.c)).Perm (cellD D.cs) := by
      have e : cellD cs' = cs'.map fun x => (x.byte, x.c) := rfl
      rw [← e, hcd]
      exact (hp.map _).symm
    obtain ⟨cs2, hp2, hc2⟩ := perm_lift hcp
    have hc2 : cellD cs2 = cellD D.cs := hc2
    refine hK w1 ⟨n8, a, b, n32, c, D.es3, D.c3, D.es4, D.c4, es', c', D.es6, D.c6, D.d, cs2⟩ rfl ?_ rfl ?_
    · refine ⟨hD.th, hD.m3, hD.m4, hmi.of_perm (hp2.symm.map _), hD.m6, by rw [hD.cells, hc2], fun x hx => ⟨hok x (hp2.mem_iff.1 hx), ?_⟩, hD.many, hn⟩
      have : (x.byte, x.c) ∈ cellD D.cs := by rw [← hc2]; exact List.mem_map.2 ⟨x, hx, rfl⟩
      obtain ⟨y, hy, he⟩ := List.mem_map.1 this
      have hc : y.c = x.c := congrArg (·.2) he
      rw [← hc]
      exact (hD.each y hy).2
    · have hpc : (cellsH cs2).Perm (cellsH cs') := hp2.flatMap_right _
      have h1 := hw.tail hit
      refine h1.perm (List.Perm.trans ?_ ((List.Perm.append_right (detH D ++ H) (List.Perm.append_left [(n8, Cs (thCs D.d.th a b ++ [.bool true, I64 D.d.many, .map (some n32), .map (some c)]) 126), (a, .map D.es3 D.c3), (b, .map D.es4 D.c4), (n32, .map es' c'), (c, .map D.es6 D.c6)] hpc)).symm))
      refine perm_by fun c => ?_
      simp only [List.map_append, List.map_cons, List.map_nil, List.sum_append, List.sum_cons, List.sum_nil]
      omega
  · rintro vis rem seen w1 hr hv ⟨ms, cs', rest, es', c', hk, hp, hcd, hok, hmi, hw⟩ Y hY
    show f41_lb8 _ _ _ _ _ _
    rw [f41_lb8_eq]
    have hcbm : ∀ {o : Obj}, (D.cb, Obj.map D.es5 D.c5) ∈ (it, o) :: (cpH D n8 n32 a b c es' c' ++ (cellsH cs' ++ (detH D ++ H))) := by simp [detH]
    obtain ⟨e, w2, he, hnb, hw2, hk2, hrun⟩ := run_next_some (P := P) (hw.get (k := 0) rfl) (hw.has _ _ hcbm) hD.m5.st (hv.more hD.m5.st hr)
    have h3 : St w0 (w2.putObj it (.mapIter (some D.cb) D.c5 (seen.push e.born) D.c5)) ((it, .mapIter (some D.cb) D.c5 (seen.push e.born) D.c5) :: (cpH D n8 n32 a b c es' c' ++ (cellsH cs' ++ (detH D ++ H)))) := (hw.same hw2 hk2).put (k := 0) rfl _
    -- the cell met
    have hm : (e.key, e.val) ∈ (cellM D.cs).map fun p => (encU p.1, p.2) := hD.m5.perm.mem_iff.1 (List.mem_map.2 ⟨e, he, rfl⟩)
    obtain ⟨q, hq, hqe⟩ := List.mem_map.1 hm
    obtain ⟨x, hx, rfl⟩ := List.mem_map.1 hq
    have hek : e.key = encU x.byte := (congrArg (·.1) hqe).symm
    have hev : e.val = ptr x.addr := (congrArg (·.2) hqe).symm
    have hfresh : ∀ y ∈ ms, y.byte ≠ x.byte := by
      intro y hy hbe
      have h1 : e ∈ rem := by
        rcases List.mem_append.1 (hv.perm.mem_iff.1 he) with h | h
        · exact absurd (by rw [hv.seen]; exact List.mem_map.2 ⟨e, h, rfl⟩) hnb
        · exact h
      have h2 : ((vis ++ rem).map (·.key)).Nodup := (hv.perm.map _).nodup_iff.1 hD.m5.st.2.2
      rw [List.map_append, List.nodup_append] at h2
      have h4 : (encU y.byte, ptr y.addr) ∈ vis.map fun e => (e.key, e.val) := by rw [hk]; exact List.mem_map.2 ⟨y, hy, rfl⟩
      obtain ⟨e2, he2, h5⟩ := List.mem_map.1 h4
      refine h2.2.2 e2.key (List.mem_map.2 ⟨e2, he2, rfl⟩) e.key (List.mem_map.2 ⟨e, h1, rfl⟩) ?_
      rw [hek, ← hbe]
      exact congrArg (·.1) h5
    have hxr : x ∈ rest := by
      rcases List.mem_append.1 (hp.mem_iff.1 hx) with h | h
      · exact absurd rfl (hfresh x h)
      · exact h
    obtain ⟨r1, r2, rfl⟩ := List.append_of_mem hxr
    obtain ⟨hxo, hxl⟩ := hD.each x hx
    have hmany := hD.many
    have hxh : ∀ y ∈ cbH x, y ∈ detH D ++ H := fun y hy => List.mem_append_left _ (by
      unfold detH
      refine .tail _ (.tail _ (.tail _ (.tail _ (.tail _ ?_))))
      exact List.mem_flatMap.2 ⟨x, hx, hy⟩)
    have hin : ∀ {w' : World} {Z : List (Nat × Obj)}, St w0 w' (Z ++ ((it, .mapIter (some D.cb) D.c5 (seen.push e.born) D.c5) :: (cpH D n8 n32 a b c es' c' ++ (cellsH cs' ++ (detH D ++ H))))) → w'.heap[x.addr]? = some (Cs (cellCs x) 142) := fun h' => h'.has _ _ (List.mem_append_right _ (.tail _ (List.mem_append_right _ (List.mem_append_right _ (hxh _ (.head _))))))
    refine .inr ⟨_, _, _, hrun, ?_⟩
    rw [f41_s11_eq, f41_s12_eq]
    refine ⟨e.key, e.val, _, run_entry (h3.get (k := 0) rfl) (h3.has _ _ hcbm) (by simp) (find_born hD.m5.st he), x.byte, hek, some (Addr.mk x.addr 0 none), hev, ?_⟩
    refine LdA_of (hin (Z := []) h3) (by rw [cellCs_len hxo.last]; omega) ?_
    rw [List.drop_zero, List.take_of_length_le (by rw [cellCs_len hxo.last]; omega)]
    obtain ⟨zc, hzc, hzl⟩ := zc142
    rw [hzc]
    refine h3.newC fun n w4 hnn h4 => h4.stA (k := 0) rfl (by simp [cellCs_len hxo.last]) (by simp [hzl]) (cellCs_one hxo) fun w5 h5 => ?_
    have h5 : St w0 w5 ((n, Cs (splice zc 0 (cellCs x)) 142) :: ((it, .mapIter (some D.cb) D.c5 (seen.push e.born) D.c5) :: (cpH D n8 n32 a b c es' c' ++ (cellsH cs' ++ (detH D ++ H))))) := h5
    rw [splice_whole (by rw [cellCs_len hxo.last, hzl])] at h5
    obtain ⟨oa, oc, hov⟩ := hxo.sl.form
    refine ⟨oa, _, oc, by rw [cell_of (hin (Z := [(n, Cs (cellCs x) 142)]) h5)]; show some x.ov = _; rw [hov], ?_⟩
    rw [← hov]
    refine clone72_ok h5 hxo.sl (fun y hy => .tail _ (.tail _ (List.mem_append_right _ (List.mem_append_right _ (hxh _ (.tail _ hy)))))) (by omega) fun a2 c2 L' w6 hS' hN' h6 => ⟨a2, _, c2, rfl, ?_⟩
    have h6 : St w0 w6 ((n, Cs (cellCs x) 142) :: (L' ++ ((it, .mapIter (some D.cb) D.c5 (seen.push e.born) D.c5) :: (cpH D n8 n32 a b c es' c' ++ (cellsH cs' ++ (detH D ++ H)))))) := h6.perm List.perm_middle
    refine h6.st1 (k := 0) rfl (by rw [cellCs_len hxo.last]; omega) rfl fun w7 h7 => ?_
    have hl8 := thCs_len (ob := a) (nb := b) hD.th
    have hn8 : ∀ {o : Obj}, (n8, Cs (thCs D.d.th a b ++ [.bool true, I64 D.d.many, .map (some n32), .map (some c)]) 126) ∈ (n, o) :: (L' ++ ((it, .mapIter (some D.cb) D.c5 (seen.push e.born) D.c5) :: (cpH D n8 n32 a b c es' c' ++ (cellsH cs' ++ (detH D ++ H))))) := by simp
    refine ⟨some n32, ?_, ?_⟩
    · rw [add_lit', Nat.zero_add, cell_of (h7.has _ _ hn8), List.getElem?_append_right (by omega), hl8]; rfl
    have hn32 : w7.heap[n32]? = some (.map es' c') := h7.has _ _ (by simp)
    obtain ⟨es2, c3, hru, hmi2⟩ := hmi.update keyU mapType123 (w := w7) (b := n32) hn32 x.byte (ptr n)
    refine ⟨_, hru, hY e _ he hnb ?_⟩
    have hlk : lookM (cellM cs') x.byte = none := by
      rw [lookM_none]
      intro p hp'
      obtain ⟨y, hy, rfl⟩ := List.mem_map.1 hp'
      have : (y.byte, y.c) ∈ cellD ms := by rw [← hcd]; exact List.mem_map.2 ⟨y, hy, rfl⟩
      obtain ⟨y2, hy2, he2⟩ := List.mem_map.1 this
      have : y2.byte = y.byte := congrArg (·.1) he2
      show y.byte ≠ x.byte
      rw [← this]
      exact hfresh y2 hy2
    have hpm : putM (cellM cs') x.byte (ptr n) = cellM (cs' ++ [⟨x.byte, n, .slice a2 x.c.l.length c2, x.c, L'⟩]) := by
      unfold putM
      rw [hlk]
      simp [cellM]
    rw [hpm] at hmi2
    have h8 := h7.perm (H' := (n32, .map es' c') :: ((n, Cs ((cellCs x).set 0 (.slice a2 x.c.l.length c2)) 142) :: (L' ++ ((it, .mapIter (some D.cb) D.c5 (seen.push e.born) D.c5) :: (n8, Cs (thCs D.d.th a b ++ [.bool true, I64 D.d.many, .map (some n32), .map (some c)]) 126) :: (c, .map D.es6 D.c6) :: (b, .map D.es4 D.c4) :: (a, .map D.es3 D.c3) :: (cellsH cs' ++ (detH D ++ H)))))) (perm_by fun c => by
        simp only [List.map_append, List.map_cons, List.map_nil, List.sum_append, List.sum_cons, List.sum_nil, List.set_cons_zero]; omega)
    have h9 := h8.put (k := 0) rfl (.map es2 c3)
    refine ⟨ms ++ [x], cs' ++ [⟨x.byte, n, .slice a2 x.c.l.length c2, x.c, L'⟩], r1 ++ r2, es2, c3, ?_, ?_, ?_, fun y hy => ?_, hmi2, ?_⟩
    · rw [List.map_append, List.map_append, hk]; simp [hek, hev]
    · refine hp.trans ?_
      rw [List.append_assoc]
      exact List.Perm.append_left ms List.perm_middle
    · have e1 : cellD (cs' ++ [⟨x.byte, n, .slice a2 x.c.l.length c2, x.c, L'⟩]) = cellD cs' ++ [(x.byte, x.c)] := by simp [cellD]
      have e2 : cellD (ms ++ [x]) = cellD ms ++ [(x.byte, x.c)] := by simp [cellD]
      rw [e1, e2, hcd]
    · rcases List.mem_append.1 hy with hy | hy
      · exact hok y hy
      · rw [List.mem_singleton.1 hy]
        exact ⟨hS', hN', hxo.last, hnn, hxo.th⟩
    · refine h9.perm (perm_by fun c => ?_)
      have e1 : cellsH (cs' ++ [⟨x.byte, n, .slice a2 x.c.l.length c2, x.c, L'⟩]) = cellsH cs' ++ ((n, Cs ((cellCs x).set 0 (.slice a2 x.c.l.length c2)) 142) :: L') := by
        simp [cellsH, cbH, cellCs]
      rw [e1]
      simp only [List.map_append, List.map_cons, List.map_nil, List.sum_append, List.sum_cons, List.sum_nil, List.set_cons_zero]
      omega
theorem detclone_ok {D : DB} (h : St w0 w (detH D ++ H)) (hD : DBok w0 D) (hK : ∀ w' D', D'.d = D.d → DBok w0 D' → St w0 w' (detH D' ++ (detH D ++ H)) → K (ptr D'.db) w') : CallL P 41 [ptr D.db] w K := by
  have hT := hD.th
  have hlen := thCs_len (ob := D.tob) (nb := D.tnb) hT
  have hB := thB_len hT
  have hmem : (D.db, Cs (thCs D.d.th D.tob D.tnb ++ restCs D) 126) ∈ detH D ++ H := List.mem_append_left _ (.head _)
  refine f41_ok _ _ _ ?_
  rw [f41_eq, f41_s0_eq, f41_s1_eq, Option.isNone_some, BIf_false]
  refine ⟨true, ?_, ?_⟩
  · rw [add_lit', Nat.zero_add, cell_of (h.has _ _ hmem), List.getElem?_append_right (by omega), hlen]; rfl
  rw [Bool.not_true, f41_s2_eq, BIf_false, f41_s3_eq]
  have hl94 : (thCs D.d.th D.tob D.tnb ++ restCs D).length = 94 := by rw [List.length_append, hlen]; rfl
  refine LdA_of (h.has _ _ hmem) (by rw [hl94]; omega) ?_
  rw [List.drop_zero, List.take_of_length_le (by rw [hl94]; omega)]
  obtain ⟨zc, hzc, hzl⟩ := z126
  rw [hzc]
  refine h.newC fun n8 w1 hn8 h1 => h1.stA (k := 0) rfl (by rw [List.size_toArray, hl94]) (by rw [List.toList_toArray]; omega) (fun v hv => ?_) fun w2 h2 => ?_
  · rcases List.mem_append.1 (show v ∈ thCs D.d.th D.tob D.tnb ++ restCs D by simpa using hv) with hv | hv
    · exact thCs_one v hv
    · simp [restCs] at hv
      rcases hv with rfl | rfl | rfl | rfl <;> rfl
  have h2 : St w0 w2 ((n8, Cs (splice zc 0 (thCs D.d.th D.tob D.tnb ++ restCs D)) 126) :: (detH D ++ H)) := h2
  rw [splice_whole (by rw [hl94, hzl])] at h2
  have hdet : ∀ {w' : World} {Z : List (Nat × Obj)} {o : Obj}, St w0 w' (Z ++ ((n8, o) :: (detH D ++ H))) → w'.cell? ((Addr.mk D.db 0 none).add 88) = some (.map (some D.tob)) ∧ w'.cell? ((Addr.mk D.db 0 none).add 89) = some (.map (some D.tnb)) ∧ w'.cell? ((Addr.mk D.db 0 none).add 93) = some (.map (some D.lb)) ∧ w'.cell? ((Addr.mk D.db 0 none).add 92) = some (.map (some D.cb)) := by
    intro w' Z o h'
    have hb := h'.has D.db (Cs (thCs D.d.th D.tob D.tnb ++ restCs D) 126) (List.mem_append_right _ (.tail _ hmem))
    have hx : ∀ i, w'.cell? ((Addr.mk D.db 0 none).add (88 + i)) = ([.map (some D.tob), .map (some D.tnb)] ++ restCs D)[i]? := fun i => by
      rw [add_lit', Nat.zero_add, cell_of hb, thCs_is, List.append_assoc, List.getElem?_append_right (by omega), hB, show 88 + i - 88 = i by omega]
    exact ⟨hx 0, hx 1, hx 5, hx 4⟩
  have hmo : ∀ {Z : List (Nat × Obj)} {o : Obj}, (D.tob, Obj.map D.es3 D.c3) ∈ Z ++ ((n8, o) :: (detH D ++ H)) ∧ (D.tnb, Obj.map D.es4 D.c4) ∈ Z ++ ((n8, o) :: (detH D ++ H)) ∧ (D.lb, Obj.map D.es6 D.c6) ∈ Z ++ ((n8, o) :: (detH D ++ H)) := by
    intro Z o; simp [detH]
  rw [f41_s4_eq]
  have fin : ∀ w3 a b c, w0.heap.size ≤ a → w0.heap.size ≤ b → w0.heap.size ≤ c → St w0 w3 ((c, .map D.es6 D.c6) :: (b, .map D.es4 D.c4) :: (a, .map D.es3 D.c3) :: (n8, Cs (thCs D.d.th D.tob D.tnb ++ restCs D) 126) :: (detH D ++ H)) →
      St1 ((Addr.mk n8 0 none).add 88) (Value.map (some a)) w3 (fun w4 => St1 ((Addr.mk n8 0 none).add 89) (Value.map (some b)) w4 (fun w5 => St1 ((Addr.mk n8 0 none).add 93) (Value.map (some c)) w5 (fun w6 => f41_s5 (Addr.mk n8 0 none) none (some (Addr.mk D.db 0 none)) w6 K))) := by
    intro w3 a b c ha hb hc h3
    simp only [add_lit', Nat.zero_add]
    refine h3.st1 (k := 3) rfl (by rw [hl94]; omega) rfl fun w4 h4 => h4.st1 (k := 3) rfl (by rw [List.length_set, hl94]; omega) rfl fun w5 h5 => h5.st1 (k := 3) rfl (by rw [List.length_set, List.length_set, hl94]; omega) rfl fun w6 h6 => ?_
    rw [f41_s5_eq]
    refine h6.newO fun n32 w7 hn32 h7 => ?_
    rw [add_lit', Nat.zero_add]
    refine h7.st1 (k := 4) rfl (by rw [List.length_set, List.length_set, List.length_set, hl94]; omega) rfl fun w8 h8 => ?_
    have h8 : St w0 w8 ((n32, .map #[] 0) :: (c, .map D.es6 D.c6) :: (b, .map D.es4 D.c4) :: (a, .map D.es3 D.c3) :: (n8, Cs (((((thCs D.d.th D.tob D.tnb ++ restCs D).set 88 (.map (some a))).set 89 (.map (some b))).set 93 (.map (some c))).set 92 (.map (some n32))) 126) :: (detH D ++ H)) := h8
    have hcs := copy_sets hT (ob := D.tob) (nb := D.tnb) (cb := D.cb) (lb := D.lb) (a := a) (b := b) (c := c) (d := n32) D.d.many
    have hr : restCs D = [.bool true, I64 D.d.many, .map (some D.cb), .map (some D.lb)] := rfl
    rw [hr, hcs] at h8
    rw [f41_s6_eq]
    have hcbm : (D.cb, Obj.map D.es5 D.c5) ∈ (n32, Obj.map #[] 0) :: (c, Obj.map D.es6 D.c6) :: (b, Obj.map D.es4 D.c4) :: (a, Obj.map D.es3 D.c3) :: (n8, Cs (thCs D.d.th a b ++ [.bool true, I64 D.d.many, .map (some n32), .map (some c)]) 126) :: (detH D ++ H) := by simp [detH]
    refine ⟨some D.cb, (hdet (Z := [(n32, .map #[] 0), (c, .map D.es6 D.c6), (b, .map D.es4 D.c4), (a, .map D.es3 D.c3)]) h8).2.2.2, w8.heap.size, _, run_range mapType123 (h8.has _ _ hcbm), ?_⟩
    have hit := h8.le
    have h9 := h8.alloc (.mapIter (some D.cb) D.c5 #[] D.c5)
    generalize w8.heap.size = it at hit h9
    rw [f41_s7_eq]
    refine clone_loop (H := H) hD hit ⟨hn8, ha, hb, hn32, hc⟩ (h9.perm ?_) fun w9 D' hd hok hdb h10 => ?_
    · refine perm_by fun c => ?_
      simp only [List.map_append, List.map_cons, List.map_nil, List.sum_append, List.sum_cons, List.sum_nil]
      omega
    · have := hK w9 D' hd hok h10
      rw [hdb] at this
      exact this
  have hd := h2.drew
  have d0 := hdet (Z := []) hd
  have m0 := hmo (Z := []) (o := Cs (thCs D.d.th D.tob D.tnb ++ restCs D) 126)
  -- the last copy; the last two; with or without looking first
  have c71 : ∀ w4 a b, w0.heap.size ≤ a → w0.heap.size ≤ b → St w0 w4 ((b, .map D.es4 D.c4) :: (a, .map D.es3 D.c3) :: (n8, Cs (thCs D.d.th D.tob D.tnb ++ restCs D) 126) :: (detH D ++ H)) →
      CallL P 71 [.map (some D.lb)] w4 (fun r w5 => ∃ m : Option Nat, r = Value.map m ∧ St1 ((Addr.mk n8 0 none).add 88) (Value.map (some a)) w5 (fun w6 => St1 ((Addr.mk n8 0 none).add 89) (Value.map (some b)) w6 (fun w7 => St1 ((Addr.mk n8 0 none).add 93) (Value.map m) w7 (fun w8 => f41_s5 (Addr.mk n8 0 none) none (some (Addr.mk D.db 0 none)) w8 K)))) := fun w4 a b ha hb h4 =>
    copy71_ok h4 (hmo (Z := [(b, .map D.es4 D.c4), (a, .map D.es3 D.c3)])).2.2 fun c w5 hc h5 => ⟨_, rfl, fin w5 a b c ha hb hc h5⟩
  have e4 : ∀ {w4 : World} {a b : Nat}, St w0 w4 ((b, .map D.es4 D.c4) :: (a, .map D.es3 D.c3) :: (n8, Cs (thCs D.d.th D.tob D.tnb ++ restCs D) 126) :: (detH D ++ H)) → w4.cell? ((Addr.mk D.db 0 none).add 93) = some (.map (some D.lb)) := fun {w4 a b} h4 => (hdet (Z := [(b, .map D.es4 D.c4), (a, .map D.es3 D.c3)]) h4).2.2.1
  have e3 : ∀ {w4 : World} {a : Nat}, St w0 w4 ((a, .map D.es3 D.c3) :: (n8, Cs (thCs D.d.th D.tob D.tnb ++ restCs D) 126) :: (detH D ++ H)) → w4.cell? ((Addr.mk D.db 0 none).add 89) = some (.map (some D.tnb)) ∧ w4.cell? ((Addr.mk D.db 0 none).add 93) = some (.map (some D.lb)) := fun {w4 a} h4 => ⟨(hdet (Z := [(a, .map D.es3 D.c3)]) h4).2.1, (hdet (Z := [(a, .map D.es3 D.c3)]) h4).2.2.1⟩
  have m4 : ∀ {a : Nat}, (D.tnb, Obj.map D.es4 D.c4) ∈ (a, Obj.map D.es3 D.c3) :: (n8, Cs (thCs D.d.th D.tob D.tnb ++ restCs D) 126) :: (detH D ++ H) := fun {a} => (hmo (Z := [(a, .map D.es3 D.c3)])).2.1
  refine ⟨_, d0.1, ?_, ⟨_, d0.2.1, ?_, _, d0.2.2.1, ?_⟩, _, d0.2.2.1, ?_, _, d0.2.1, ?_⟩
  · exact copy69_ok hd m0.1 fun a w3 ha h3 => ⟨_, rfl, _, (e3 h3).1, copy70_ok h3 m4 fun b w4 hb h4 => ⟨_, rfl, _, e4 h4, c71 w4 a b ha hb h4⟩, _, (e3 h3).2, copy70_ok h3 m4 fun b w4 hb h4 => ⟨_, rfl, c71 w4 a b ha hb h4⟩⟩
  · exact copy69_ok hd m0.1 fun a w3 ha h3 => ⟨_, rfl, copy70_ok h3 m4 fun b w4 hb h4 => ⟨_, rfl, _, e4 h4, c71 w4 a b ha hb h4⟩, _, (e3 h3).2, copy70_ok h3 m4 fun b w4 hb h4 => ⟨_, rfl, c71 w4 a b ha hb h4⟩⟩
  · exact copy69_ok hd m0.1 fun a w3 ha h3 => ⟨_, rfl, copy70_ok h3 m4 fun b w4 hb h4 => ⟨_, rfl, c71 w4 a b ha hb h4⟩⟩
  · exact copy69_ok hd m0.1 fun a w3 ha h3 => ⟨_, rfl, _, (e3 h3).1, copy70_ok h3 m4 fun b w4 hb h4 => ⟨_, rfl, c71 w4 a b ha hb h4⟩⟩
  · exact copy69_ok hd m0.1 fun a w3 ha h3 => ⟨_, rfl, copy70_ok h3 m4 fun b w4 hb h4 => ⟨_, rfl, c71 w4 a b ha hb h4⟩⟩
end Go.Fx.Try
namespace Go.Fx.Mo
theorem put_le {K V : Type} [DecidableEq K] (m : List (K × V)) (k : K) (v : V) : (put m k v).length ≤ m.length + 1 := by
  unfold put
  split <;> simp
theorem putAll_le {K V : Type} [DecidableEq K] : ∀ (u m : List (K × V)), (putAll m u).length ≤ m.length + u.length
  | [], m => by simp [putAll]
  | p :: r, m => by
    have h1 := putAll_le r (put m p.1 p.2)
    have h2 := put_le m p.1 p.2
    unfold putAll
    simp only [List.length_cons]
    omega
theorem number_objs (T : Th) (p : Pl) (x : Ob) : (number T p x).2.objs = p.objs := by
  unfold number
  split
  · rfl
  · split <;> rfl
theorem release_objs (T : Th) (p : Pl) (x : Ob) : (release T p x).objs.length ≤ p.objs.length + 1 := put_le _ _ _
theorem atomic1_objs (T : Th) (e : Ev) (x : Ob) (p : Pl) : (atomic1 T e x p).objs.length ≤ p.objs.length + 1 := by
  unfold atomic1
  refine Nat.le_trans (release_objs _ _ _) ?_
  show (number T p x).2.objs.length + 1 ≤ _
  rw [number_objs]
  exact Nat.le_refl _
theorem atomicL_objs (T : Th) (e : Ev) : ∀ (l : List Int) (x : Ob) (p : Pl), (atomicL T e l x p).objs.length ≤ p.objs.length + l.length
  | [], x, p => Nat.le_refl _
  | a :: r, x, p => by
    unfold atomicL
    dsimp only
    split
    · refine Nat.le_trans (atomicL_objs T e r x p) ?_
      simp only [List.length_cons]; omega
    · refine Nat.le_trans (atomicL_objs T e r _ _) ?_
      have := atomic1_objs T e (true, w32 (a.tdiv 4)) p
      simp only [List.length_cons]; omega
theorem plan_objs {T : Th} {e : Ev} {p : Pl} (h : plan T e = some p) : p.objs.length ≤ 16 := by
  unfold plan at h
  split at h
  · cases h
  · rename_i hr
    split at h
    · cases h
    · obtain rfl := Option.some.inj h
      unfold act
      split
      · rename_i hk
        have hn : e.n ≤ 16 := by
          simp only [refused, accesses, hk] at hr
          simp at hr
          omega
        unfold atomic
        refine Nat.le_trans (atomicL_objs T e _ _ _) ?_
        simp [pl0, bytes]; omega
      · split
        · unfold spawn
          split <;> simp [pl0, tick]
        · split
          · unfold join
            split <;> simp [pl0, tick]
          · split
            · show (number T _ _).2.objs.length ≤ _
              rw [number_objs]
              simp [pl0]
            · split
              · unfold unlock
                refine Nat.le_trans (release_objs _ _ _) ?_
                show (number T _ _).2.objs.length + 1 ≤ _
                rw [number_objs]
                simp [pl0]
              · simp [step, tick, pl0]
/-- So many events were given. -/
structure Fed (d : Det) (n : Nat) : Prop where
  told : d.told.length ≤ 1000
  objs : d.th.objs.length ≤ 16 * n
/-- What Feed answers. -/
def ansOf : List Race ⊕ Int → List Race × Int
  | .inl out => (out, 0)
  | .inr x => ([], x)
end Go.Fx.Mo
namespace Go.Fx.Try
open Go Go.Fx Go.Fx.Mo
open Go.Proofs
variable {w0 w : World} {H R0 : List (Nat × Obj)} {K : Value → World → Prop}
set_option maxRecDepth 20000
theorem perform_objs_len (T : Th) (e : Ev) (p : Pl) : (perform T e p).objs = putAll T.objs p.objs := by
  unfold perform
  dsimp only
  split <;> split <;> split <;> rfl
theorem fed_next {d : Det} {n : Nat} (h : Fed d n) (e : Ev) : Fed (feed d e).1 (n + 1) := by
  obtain ⟨d', r, he⟩ : ∃ d' r, feed d e = (d', r) := ⟨_, _, rfl⟩
  rw [he]
  rcases r with out | x
  · refine ⟨told_len he h.told (feed_len he), ?_⟩
    obtain ⟨p, hp, _, _, _, rfl⟩ := feed_inl he
    show (perform d.th e p).objs.length ≤ _
    rw [perform_objs_len]
    have h1 := putAll_le p.objs d.th.objs
    have h2 := plan_objs hp
    have h3 := h.objs
    omega
  · have : d' = d := feed_inr he
    subst this
    exact ⟨h.told, by have := h.objs; show d'.th.objs.length ≤ _; omega⟩
theorem feed_any {D : DB} {e : Ev} (h : St w0 w (detH D ++ R0)) (hD : DBok w0 D)
    (hK : ∀ w' D' a c Lo, D'.d = (feed D.d e).1 → DBok w0 D' → D'.db = D.db → (ansOf (feed D.d e).2).1.length ≤ 65536 → SlO 11 47 (.slice a (ansOf (feed D.d e).2).1.length c) (ansOf (feed D.d e).2).1.length (racesCs (ansOf (feed D.d e).2).1) Lo → New w0 Lo → St w0 w' (detH D' ++ (Lo ++ R0)) →
      K (.tuple [.slice a (ansOf (feed D.d e).2).1.length c, I64 (ansOf (feed D.d e).2).2].toArray) w') :
    CallL P 40 [ptr D.db, .agg (Evcs e).toArray] w K := by
  refine feed_ok h hD (fun d' x hf w' h' => ?_) (fun d' out hf w' D' ov Lo hd hD' hdb hS hN h' => ?_)
  · have hd : D.d = (feed D.d e).1 := by
      rw [hf]; exact (feed_inr hf).symm
    rw [hf] at hK
    have := feed_inr hf
    exact hK w' D none 0 [] this.symm hD rfl (by simp [ansOf]) (SlO.nil 11 47) (New.nil w0) h'
  · rw [hf] at hK
    obtain ⟨a, c, hov⟩ := hS.form
    subst hov
    exact hK w' D' a c Lo hd hD' hdb (feed_len hf) hS hN h'
theorem row1 {ov : Value} {n : Nat} {xs : List Value} (h : Row w 1 ov n xs) {i : Nat} (hi : i < n) : ∃ a c, ov = .slice (some a) n c ∧ w.cell? (a.add (i * 1)) = xs[i]? := by
  rcases h.2 with ⟨_, h0⟩ | ⟨a, c, h1, h2⟩
  · omega
  · exact ⟨a, c, h1, by rw [Nat.mul_one]; exact h2 i (by omega)⟩
/-- Two slices that read the same bytes. -/
theorem bytes74_ok {l : List Int} {a1 b1 : Option Addr} {a2 b2 : Nat} (h : St w0 w H) (ha : ∀ w', St w0 w' H → Row w' 1 (.slice a1 l.length a2) l.length (l.map encU)) (hb : ∀ w', St w0 w' H → Row w' 1 (.slice b1 l.length b2) l.length (l.map encU)) (hl63 : l.length < 9223372036854775807)
    (hK : ∀ w', St w0 w' H → K (.bool true) w') : CallL P 74 [.slice a1 l.length a2, .slice b1 l.length b2] w K := by
  refine f74_ok _ _ _ _ _ _ _ _ ?_
  rw [f74_eq, f74_s0_eq, f74_s1_eq]
  refine ⟨l.length, fun wq _ => run_len_101 wq, l.length, fun wq _ => run_len_101 wq, ?_⟩
  rw [show ((l.length : Int) != (l.length : Int)) = false by simp, BIf_false, f74_s2_eq, f74_s3_eq]
  refine ⟨fun m ee w => ∃ (i : Nat), i ≤ l.length ∧ m = l.length - i ∧ ee = Env.mk 26 [(5, (Value.int .i64 i)), (1, (Value.slice b1 l.length b2)), (0, (Value.slice a1 l.length a2)), (4, (Value.bool false))] [] ∧ St w0 w H,
    ⟨l.length, 0, by omega, rfl, rfl, h⟩, ?_⟩
  rintro m ee w ⟨i, hi, rfl, rfl, hw⟩
  show f74_lb4 _ _ _ _ _ _ _ _ _ _ _
  rw [f74_lb4_eq]
  refine ⟨l.length, fun wq _ => run_len_101 wq, ?_⟩
  rw [BIf_iff]
  constructor
  · intro hlt
    have hlt : i < l.length := by simpa using hlt
    rw [f74_s5_eq]
    have hd := hw.drew
    obtain ⟨a, c, hac, hld⟩ := row1 (ha _ hd) hlt
    obtain ⟨hsa, -⟩ : a1 = some a ∧ a2 = c := by simpa using hac
    subst hsa
    obtain ⟨b, c', hbc, hldb⟩ := row1 (hb _ hd) hlt
    obtain ⟨hsb, -⟩ : b1 = some b ∧ b2 = c' := by simpa using hbc
    subst hsb
    have e : ((l.map encU)[i]? : Option Value) = some (.int .u32 l[i]) := by simp [hlt]
    rw [e] at hld hldb
    refine ⟨by omega, by omega, by omega, by omega, l[i], hld, l[i], hldb, ?_⟩
    rw [show ((l[i] : Int) != l[i]) = false by simp, BIf_false, f74_s6_eq]
    refine ⟨l.length - (i + 1), by omega, i + 1, by omega, rfl, ?_, hd⟩
    rw [wrap_i64 (by omega) (by omega)]; rfl
  · intro hge
    rw [f74_s7_eq]
    exact hK w hw
end Go.Fx.Try
namespace Go.Fx.Try
open Go Go.Fx Go.Fx.Mo
open Go.Proofs
variable {w0 w : World} {R : List (Nat × Obj)} {K : Value → World → Prop}
set_option maxRecDepth 20000
theorem racyOf_len (d : Det) : (racyOf d).length = d.told.length := by
  unfold racyOf
  rw [List.length_mergeSort, List.length_map]
theorem alike_ok {D1 D2 : DB} {e : Ev} {n : Nat} (h : St w0 w (detH D1 ++ (detH D2 ++ R))) (h1 : DBok w0 D1) (h2 : DBok w0 D2) (hd : D2.d = D1.d) (hn : Fed D1.d n) (hn9 : n < 10000000)
    (hK : ∀ w' D1' D2', D1'.d = (feed D1.d e).1 → D2'.d = D1'.d → DBok w0 D1' → DBok w0 D2' → D1'.db = D1.db → D2'.db = D2.db → St w0 w' (detH D1' ++ (detH D2' ++ R)) → K (.bool true) w') :
    CallL P 42 [ptr D1.db, ptr D2.db, .agg (Evcs e).toArray] w K := by
  refine f42_ok _ _ _ _ _ ?_
  rw [f42_eq]
  refine h.newC fun n3 w1 hn3 g1 => g1.ldA (k := 0) (i := 0) rfl (by simp [Evcs_len]) ?_
  refine feed_any (R0 := (n3, Cs (Evcs e) 35) :: (detH D2 ++ R)) (g1.perm List.perm_middle.symm) h1 fun w2 D1' a c Lo hd1 hD1 hdb1 hlen hS1 hN1 g2 => ⟨a, _, c, _, rfl, ?_⟩
  have hf := fed_next hn e
  rw [← hd1] at hf
  generalize hans : ansOf (feed D1.d e).2 = ans at *
  have g3 := g2.perm (H' := (n3, Cs (Evcs e) 35) :: (detH D2 ++ (detH D1' ++ (Lo ++ R)))) (perm_by fun f => by
    simp only [List.map_append, List.map_cons, List.map_nil, List.sum_append, List.sum_cons, List.sum_nil]; omega)
  refine g3.ldA (k := 0) (i := 0) rfl (by simp [Evcs_len]) ?_
  refine feed_any (R0 := (n3, Cs (Evcs e) 35) :: (detH D1' ++ (Lo ++ R))) (g3.perm List.perm_middle.symm) h2 fun w3 D2' a2 c2 Lo2 hd2 hD2 hdb2 hlen2 hS2 hN2 g4 => ?_
  rw [hd, hans] at hS2
  rw [hd] at hd2
  have hdd : D2'.d = D1'.d := hd2.trans hd1.symm
  refine ⟨a2, _, c2, _, rfl, ?_⟩
  rw [hd, hans]
  have g5 := (g4.perm (H' := (n3, Cs (Evcs e) 35) :: (detH D1' ++ (detH D2' ++ (Lo ++ (Lo2 ++ R))))) (perm_by fun f => by
    simp only [List.map_append, List.map_cons, List.map_nil, List.sum_append, List.sum_cons, List.sum_nil]; omega)).tail hn3
  have ho := hf.objs
  have ht := hf.told
  rw [← hdb1, ← hdb2]
  refine size_ok g5 hD1 (by omega) fun w4 g6 => ⟨_, _, rfl, ?_⟩
  have g7 := g6.perm (H' := detH D2' ++ (detH D1' ++ (Lo ++ (Lo2 ++ R)))) (perm_by fun f => by
    simp only [List.map_append, List.map_cons, List.map_nil, List.sum_append, List.sum_cons, List.sum_nil]; omega)
  refine size_ok g7 hD2 (by rw [hdd]; omega) fun w5 g8 => ⟨_, _, rfl, ?_⟩
  rw [show (ans.2 == ans.2) = true by simp, BIf_true]
  have inc : ∀ {Z L Y : List (Nat × Obj)} {w' : World}, St w0 w' (Z ++ (L ++ Y)) → ∀ x ∈ L, w'.heap[x.1]? = some x.2 := fun h' x hx => h'.has _ _ (List.mem_append_right _ (List.mem_append_left _ hx))
  have g9 := g8.perm (H' := Lo ++ (Lo2 ++ (detH D1' ++ (detH D2' ++ R)))) (perm_by fun f => by
    simp only [List.map_append, List.map_cons, List.map_nil, List.sum_append, List.sum_cons, List.sum_nil]; omega)
  refine same_ok g9 (fun w' h' => hS1.row (inc (Z := []) h')) (fun w' h' => hS2.row (inc h')) (by omega) fun w6 g10 => ⟨true, rfl, ?_⟩
  rw [BIf_true]
  have g11 := (g10.sub hN1).sub hN2
  refine racy_ok g11 hD1 (by omega) fun w7 a3 c3 L3 hS3 hN3 g12 => ⟨a3, _, c3, rfl, ?_⟩
  have g13 := g12.perm (H' := detH D2' ++ (L3 ++ (detH D1' ++ R))) (perm_by fun f => by
    simp only [List.map_append, List.map_cons, List.map_nil, List.sum_append, List.sum_cons, List.sum_nil]; omega)
  refine racy_ok g13 hD2 (by rw [hdd]; omega) fun w8 a4 c4 L4 hS4 hN4 g14 => ⟨a4, _, c4, rfl, ?_⟩
  have g15 := g14.perm (H' := L3 ++ (L4 ++ (detH D1' ++ (detH D2' ++ R)))) (perm_by fun f => by
    simp only [List.map_append, List.map_cons, List.map_nil, List.sum_append, List.sum_cons, List.sum_nil]; omega)
  rw [hdd] at hS4 ⊢
  refine bytes74_ok g15 (fun w' h' => hS3.row (inc (Z := []) h')) (fun w' h' => hS4.row (inc h')) (by rw [racyOf_len]; omega) fun w9 g16 => ⟨true, rfl, ?_⟩
  rw [BIf_true, show (((D1'.d.cells.length : Nat) : Int) == ((D1'.d.cells.length : Nat) : Int)) = true by simp, BIf_true, f42_s0_eq]
  rw [show (clocksOf D1'.d == clocksOf D1'.d) = true by simp]
  exact hK w9 D1' D2' hd1 hdd hD1 hD2 hdb1 hdb2 ((g16.sub hN3).sub hN4)
end Go.Fx.Try
namespace Go.Fx.Try
open Go Go.Fx Go.Fx.Mo
open Go.Proofs
variable {w0 w : World} {H : List (Nat × Obj)} {K : Value → World → Prop}
set_option maxRecDepth 20000
theorem fed_more {d : Det} {n m : Nat} (h : Fed d n) (hm : n ≤ m) : Fed d m := ⟨h.told, by have := h.objs; omega⟩
theorem fed_0 : Fed det0 0 := ⟨by simp [det0], by simp [det0, begin']⟩
theorem run_max (a b : Int) (wq : World) : (Builtin.max_ #[3, 3] 3 [Value.int .i64 a, Value.int .i64 b].toArray).run P wq = .ok (.int .i64 (if a < b then b else a)) wq := by
  simp [Builtin.max_, Builtin.max2]
theorem alike_at {l : List Ev} {sa : Option Addr} {sc i n : Nat} {x : Int} {D1 D2 : DB} {R : List (Nat × Obj)} (hx : x = (i : Nat)) (hi : i < l.length) (hrow : Row w 6 (.slice sa l.length sc) l.length (evsCs l)) (h : St w0 w (detH D1 ++ (detH D2 ++ R))) (h1 : DBok w0 D1) (h2 : DBok w0 D2) (hd : D2.d = D1.d) (hn : Fed D1.d n) (hn9 : n < 10000000)
    (hK : ∀ w' D1' D2', D2'.d = D1'.d → DBok w0 D1' → DBok w0 D2' → D1'.db = D1.db → D2'.db = D2.db → Fed D1'.d (n + 1) → St w0 w' (detH D1' ++ (detH D2' ++ R)) → K (.bool true) w') :
    optS sa (fun a => 0 ≤ x ∧ x < (l.length : Nat) ∧ LdA 6 (a.add (Int.toNat x * 6)) w (fun cs => CallL P 42 [ptr D1.db, ptr D2.db, .agg cs] w K)) := by
  subst hx
  obtain ⟨a, c, hac, hld⟩ := hrow.ldA hi
  obtain ⟨hsa, -⟩ : sa = some a ∧ sc = c := by simpa using hac
  subst hsa
  refine ⟨by omega, by omega, hld _ ?_⟩
  rw [evs_at hi]
  refine alike_ok h h1 h2 hd hn hn9 fun w' D1' D2' e1 e2 o1 o2 b1 b2 g => hK w' D1' D2' e2 o1 o2 b1 b2 ?_ g
  rw [e1]
  exact fed_next hn _
/-- Two pairs of detectors, each pair in one state. -/
structure Four (w0 w : World) (H : List (Nat × Obj)) (n k : Nat) (D1 D2 X D3 : DB) : Prop where
  st : St w0 w (detH D1 ++ (detH D2 ++ (detH X ++ (detH D3 ++ H))))
  ok1 : DBok w0 D1
  ok2 : DBok w0 D2
  okX : DBok w0 X
  ok3 : DBok w0 D3
  d2 : D2.d = D1.d
  d3 : D3.d = X.d
  f1 : Fed D1.d n
  fX : Fed X.d k
theorem Four.all {n k : Nat} {D1 D2 X D3 : DB} (h : Four w0 w H n k D1 D2 X D3) : St w0 w H := (((h.st.sub h.ok1.newH).sub h.ok2.newH).sub h.okX.newH).sub h.ok3.newH
theorem four_loop {la lb : List Ev} {aa ba : Option Addr} {ac bc m n : Nat} {D1 D2 X D3 : DB} (h : Four w0 w H n n D1 D2 X D3) (hn : n ≤ 60) (hm : m ≤ 60) (hla : la.length ≤ 60) (hlb : lb.length ≤ 60)
    (ra : ∀ w', St w0 w' H → Row w' 6 (.slice aa la.length ac) la.length (evsCs la)) (rb : ∀ w', St w0 w' H → Row w' 6 (.slice ba lb.length bc) lb.length (evsCs lb))
    (hK : ∀ w', St w0 w' H → K (.bool true) w') :
    LoopE (f12_lp16 K) (Env.mk 131 [(7, .bool true), (96, I64 0), (2, .slice ba lb.length bc), (10, ptr D3.db), (19, ptr X.db), (1, .slice aa la.length ac), (9, ptr D2.db), (8, ptr D1.db), (6, .bool false), (95, I64 (m : Nat))] []) w := by
  refine ⟨fun k ee w => ∃ (i : Nat) (E1 E2 EX E3 : DB), i ≤ m ∧ k = m - i ∧
    ee = Env.mk 131 [(7, .bool true), (96, I64 (i : Nat)), (2, .slice ba lb.length bc), (10, ptr E3.db), (19, ptr EX.db), (1, .slice aa la.length ac), (9, ptr E2.db), (8, ptr E1.db), (6, .bool false), (95, I64 (m : Nat))] [] ∧ Four w0 w H (n + i) (n + i) E1 E2 EX E3,
    ⟨m, 0, D1, D2, X, D3, by omega, rfl, rfl, h⟩, ?_⟩
  rintro k ee w1 ⟨i, E1, E2, EX, E3, hi, rfl, rfl, hF⟩
  show f12_lb16 _ _ _ _ _ _ _ _ _ _ _ _ _ _ _ _ _
  rw [f12_lb16_eq, f12_s17_eq, BIf_iff]
  constructor
  · intro hlt
    have hlt : i < m := by simpa using hlt
    rw [f12_s18_eq]
    generalize hY : (fun e' w' => ∃ k, k < m - i ∧ ∃ (i : Nat) (E1 E2 EX E3 : DB), i ≤ m ∧ k = m - i ∧
            e' = Env.mk 131 [(7, .bool true), (96, I64 (i : Nat)), (2, .slice ba lb.length bc), (10, ptr E3.db), (19, ptr EX.db), (1, .slice aa la.length ac), (9, ptr E2.db), (8, ptr E1.db), (6, .bool false), (95, I64 (m : Nat))] [] ∧ Four w0 w' H (n + i) (n + i) E1 E2 EX E3) = Y
    have fin : ∀ w2 G1 G2 GX G3, Four w0 w2 H (n + i + 1) (n + i + 1) G1 G2 GX G3 → G1.db = E1.db → G2.db = E2.db → GX.db = EX.db → G3.db = E3.db →
        f12_s19 false true ba lb.length bc (some (Addr.mk E3.db 0 none)) (some (Addr.mk EX.db 0 none)) aa la.length ac (some (Addr.mk E2.db 0 none)) (some (Addr.mk E1.db 0 none)) (m : Nat) (i : Nat) false w2 K Y := by
      intro w2 G1 G2 GX G3 hG e1 e2 eX e3
      rw [f12_s19_eq, BIf_false, f12_s20_eq, ← hY]
      refine ⟨m - (i + 1), by omega, i + 1, G1, G2, GX, G3, by omega, rfl, ?_, hG⟩
      rw [wrap_i64 (by omega) (by omega), e1, e2, eX, e3]; rfl
    have second : ∀ w2 G1 G2, Four w0 w2 H (n + i + 1) (n + i) G1 G2 EX E3 → G1.db = E1.db → G2.db = E2.db →
        ∃ x : Int, (∀ wq, Ext w2 wq → (Builtin.len_ #[22] 3 [Value.slice ba lb.length bc].toArray).run P wq = .ok (I64 x) wq) ∧
          BIf (decide ((i : Int) < x)) (optS ba (fun a => 0 ≤ (i : Int) ∧ (i : Int) < (lb.length : Nat) ∧ LdA 6 (a.add (Int.toNat (i : Int) * 6)) w2 (fun cs => CallL P 42 [ptr EX.db, ptr E3.db, .agg cs] w2 (fun r w3 => ∃ b : Bool, r = Value.bool b ∧
            f12_s19 (!b) true ba lb.length bc (some (Addr.mk E3.db 0 none)) (some (Addr.mk EX.db 0 none)) aa la.length ac (some (Addr.mk E2.db 0 none)) (some (Addr.mk E1.db 0 none)) (m : Nat) (i : Nat) false w3 K Y))))
          (f12_s19 false true ba lb.length bc (some (Addr.mk E3.db 0 none)) (some (Addr.mk EX.db 0 none)) aa la.length ac (some (Addr.mk E2.db 0 none)) (some (Addr.mk E1.db 0 none)) (m : Nat) (i : Nat) false w2 K Y) := by
      intro w2 G1 G2 hG e1 e2
      refine ⟨lb.length, fun wq _ => run_len_22 wq, ?_⟩
      rw [BIf_iff]
      constructor
      · intro hlb2
        have hlb2 : i < lb.length := by simpa using hlb2
        refine alike_at (R := detH G1 ++ (detH G2 ++ H)) rfl hlb2 (rb w2 hG.all) (hG.st.perm (perm_by fun f => ?_)) hG.okX hG.ok3 hG.d3 hG.fX (by omega) fun w3 GX G3 d3 oX o3 bX b3 fX g => ⟨true, rfl, ?_⟩
        · simp only [List.map_append, List.sum_append]; omega
        · exact fin w3 G1 G2 GX G3 ⟨g.perm (perm_by fun f => by simp only [List.map_append, List.sum_append]; omega), hG.ok1, hG.ok2, oX, o3, hG.d2, d3, hG.f1, fX⟩ e1 e2 bX b3
      · intro _
        exact fin w2 G1 G2 EX E3 ⟨hG.st, hG.ok1, hG.ok2, hG.okX, hG.ok3, hG.d2, hG.d3, hG.f1, fed_more hG.fX (by omega)⟩ e1 e2 rfl rfl
    refine ⟨la.length, fun wq _ => run_len_22 wq, ?_⟩
    rw [BIf_iff]
    constructor
    · intro hla2
      have hla2 : i < la.length := by simpa using hla2
      refine alike_at (R := detH EX ++ (detH E3 ++ H)) rfl hla2 (ra w1 hF.all) hF.st hF.ok1 hF.ok2 hF.d2 hF.f1 (by omega) fun w2 G1 G2 d2 o1 o2 b1 b2 f1 g => ⟨true, rfl, ?_⟩
      rw [Bool.not_true, BIf_false]
      exact second w2 G1 G2 ⟨g, o1, o2, hF.okX, hF.ok3, d2, hF.d3, f1, hF.fX⟩ b1 b2
    · intro _
      exact second w1 E1 E2 ⟨hF.st, hF.ok1, hF.ok2, hF.okX, hF.ok3, hF.d2, hF.d3, fed_more hF.f1 (by omega), hF.fX⟩ rfl rfl
  · intro hge
    rw [f12_s21_eq]
    exact hK w1 hF.all
theorem ans_ne (r : List Mo.Race ⊕ Int) : ((ansOf r).2 != (ansOf r).2) = false := by simp
theorem clones_loop {l la lb : List Ev} {sa aa ba : Option Addr} {sc ac bc : Nat} {D1 D2 D3 : DB} (h : St w0 w (detH D1 ++ (detH D2 ++ (detH D3 ++ H)))) (h1 : DBok w0 D1) (h2 : DBok w0 D2) (h3 : DBok w0 D3) (d1 : D1.d = det0) (d2 : D2.d = det0) (d3 : D3.d = det0)
    (hl : l.length ≤ 60) (hla : la.length ≤ 60) (hlb : lb.length ≤ 60)
    (rl : ∀ w', St w0 w' H → Row w' 6 (.slice sa l.length sc) l.length (evsCs l)) (ra : ∀ w', St w0 w' H → Row w' 6 (.slice aa la.length ac) la.length (evsCs la)) (rb : ∀ w', St w0 w' H → Row w' 6 (.slice ba lb.length bc) lb.length (evsCs lb))
    (hK : ∀ w', St w0 w' H → K (.bool true) w') :
    LoopE (f12_lp7 K) (Env.mk 131 [(7, .bool true), (2, .slice ba lb.length bc), (10, ptr D3.db), (1, .slice aa la.length ac), (9, ptr D2.db), (8, ptr D1.db), (56, I64 0), (54, .slice sa l.length sc), (6, .bool false), (55, I64 (l.length : Nat))] []) w := by
  refine ⟨fun k ee w => ∃ (i : Nat) (E1 E2 E3 : DB), i ≤ l.length ∧ k = l.length - i ∧
    ee = Env.mk 131 [(7, .bool true), (2, .slice ba lb.length bc), (10, ptr E3.db), (1, .slice aa la.length ac), (9, ptr E2.db), (8, ptr E1.db), (56, I64 (i : Nat)), (54, .slice sa l.length sc), (6, .bool false), (55, I64 (l.length : Nat))] [] ∧
    DBok w0 E1 ∧ DBok w0 E2 ∧ DBok w0 E3 ∧ E2.d = E1.d ∧ E3.d = E1.d ∧ Fed E1.d i ∧ St w0 w (detH E1 ++ (detH E2 ++ (detH E3 ++ H))),
    ⟨l.length, 0, D1, D2, D3, by omega, rfl, rfl, h1, h2, h3, d2.trans d1.symm, d3.trans d1.symm, d1 ▸ fed_0, h⟩, ?_⟩
  rintro k ee w1 ⟨i, E1, E2, E3, hi, rfl, rfl, h1, h2, h3, e2, e3, hf, hw⟩
  show f12_lb7 _ _ _ _ _ _ _ _ _ _ _ _ _ _ _ _ _ _ _
  rw [f12_lb7_eq, f12_s8_eq, BIf_iff]
  constructor
  · intro hlt
    have hlt : i < l.length := by simpa using hlt
    rw [f12_s9_eq]
    obtain ⟨a, c, hac, hld⟩ := (rl w1 (((hw.sub h1.newH).sub h2.newH).sub h3.newH)).ldA hlt
    obtain ⟨hsa, -⟩ : sa = some a ∧ sc = c := by simpa using hac
    subst hsa
    refine ⟨by omega, by omega, hld _ ?_⟩
    rw [evs_at hlt]
    obtain ⟨ze, hze, hzel⟩ := z35
    rw [hze]
    refine hw.newC fun n97 w2 hn97 g2 => g2.stA (k := 0) rfl (by simp [Evcs_len]) (by simp [hzel]) (Evcs_one _) fun w3 g3 => ?_
    have g3 : St w0 w3 ((n97, Cs (splice ze 0 (Evcs l[i])) 35) :: (detH E1 ++ (detH E2 ++ (detH E3 ++ H)))) := g3
    rw [splice_whole (by rw [Evcs_len, hzel])] at g3
    refine g3.ldA (k := 0) (i := 0) rfl (by simp [Evcs_len]) ?_
    refine feed_any (e := l[i]) (R0 := (n97, Cs (Evcs l[i]) 35) :: (detH E2 ++ (detH E3 ++ H))) (g3.perm List.perm_middle.symm) h1 fun w4 F1 a1 c1 L1 q1 o1 b1 hlen S1 N1 g4 => ⟨a1, _, c1, _, rfl, ?_⟩
    have g5 := g4.perm (H' := (n97, Cs (Evcs l[i]) 35) :: (detH E2 ++ (detH F1 ++ (L1 ++ (detH E3 ++ H))))) (perm_by fun f => by
      simp only [List.map_append, List.map_cons, List.sum_append, List.sum_cons]; omega)
    refine g5.ldA (k := 0) (i := 0) rfl (by simp [Evcs_len]) ?_
    refine feed_any (e := l[i]) (R0 := (n97, Cs (Evcs l[i]) 35) :: (detH F1 ++ (L1 ++ (detH E3 ++ H)))) (g5.perm List.perm_middle.symm) h2 fun w5 F2 a2 c2 L2 q2 o2 b2 hlen2 S2 N2 g6 => ⟨a2, _, c2, _, rfl, ?_⟩
    have g7 := g6.perm (H' := (n97, Cs (Evcs l[i]) 35) :: (detH E3 ++ (L2 ++ (L1 ++ (detH F1 ++ (detH F2 ++ H)))))) (perm_by fun f => by
      simp only [List.map_append, List.map_cons, List.sum_append, List.sum_cons]; omega)
    refine g7.ldA (k := 0) (i := 0) rfl (by simp [Evcs_len]) ?_
    refine feed_any (e := l[i]) (R0 := (n97, Cs (Evcs l[i]) 35) :: (L2 ++ (L1 ++ (detH F1 ++ (detH F2 ++ H))))) (g7.perm List.perm_middle.symm) h3 fun w6 F3 a3 c3 L3 q3 o3 b3 hlen3 S3 N3 g8 => ⟨a3, _, c3, _, rfl, ?_⟩
    rw [e2, e3, ans_ne, BIf_false, f12_s10_eq, BIf_false, f12_s11_eq]
    rw [e2] at q2
    rw [e3] at q3
    have hf' := fed_next hf l[i]
    rw [← q1] at hf'
    refine ⟨l.length - (i + 1), by omega, i + 1, F1, F2, F3, by omega, rfl, ?_, o1, o2, o3, q2.trans q1.symm, q3.trans q1.symm, hf', ?_⟩
    · rw [wrap_i64 (by omega) (by omega), b1, b2, b3]; rfl
    · have g9 := g8.perm (H' := (n97, Cs (Evcs l[i]) 35) :: (L3 ++ (L2 ++ (L1 ++ (detH F1 ++ (detH F2 ++ (detH F3 ++ H))))))) (perm_by fun f => by
        simp only [List.map_append, List.map_cons, List.sum_append, List.sum_cons]; omega)
      exact (((g9.tail hn97).sub N3).sub N2).sub N1
  · intro hge
    rw [f12_s12_eq]
    refine detclone_ok hw h1 fun w2 X qX oX g2 => ⟨_, rfl, ?_⟩
    rw [f12_s13_eq, Option.isNone_some, BIf_false, f12_s14_eq]
    refine ⟨la.length, fun wq _ => run_len_22 wq, lb.length, fun wq _ => run_len_22 wq, _, w2, run_max _ _ _, ?_⟩
    rw [f12_s15_eq]
    have hm : (if ((la.length : Int) < (lb.length : Int)) then (lb.length : Int) else (la.length : Int)) = ((if la.length < lb.length then lb.length else la.length : Nat) : Int) := by
      split <;> split <;> omega
    rw [hm]
    refine four_loop (D1 := E1) (D2 := E2) (X := X) (D3 := E3) (n := 60) (H := H) ⟨g2.perm (perm_by fun f => ?_), h1, h2, oX, h3, e2, e3.trans qX.symm, fed_more hf (by omega), qX ▸ fed_more hf (by omega)⟩ (by omega) (by split <;> omega) hla hlb ra rb hK
    simp only [List.map_append, List.sum_append]; omega
theorem clones_ok {l la lb : List Ev} {sa aa ba : Option Addr} {sc ac bc : Nat} (h : St w0 w H)
    (rl : ∀ w', St w0 w' H → Row w' 6 (.slice sa l.length sc) l.length (evsCs l)) (ra : ∀ w', St w0 w' H → Row w' 6 (.slice aa la.length ac) la.length (evsCs la)) (rb : ∀ w', St w0 w' H → Row w' 6 (.slice ba lb.length bc) lb.length (evsCs lb))
    (hK : ∀ w', St w0 w' H → K (.bool true) w') : CallL P 12 [.slice sa l.length sc, .slice aa la.length ac, .slice ba lb.length bc] w K := by
  refine f12_ok _ _ _ _ _ _ _ _ _ _ _ ?_
  rw [f12_eq, f12_s0_eq, f12_s1_eq]
  refine sane_ok h fun w1 h1 => ⟨true, rfl, ?_⟩
  rw [f12_s2_eq]
  have out : ∀ w', St w0 w' H → f12_s3 true true ba lb.length bc aa la.length ac false sa l.length sc w' K := fun w' h' => by
    rw [f12_s3_eq, BIf_true]
    exact hK w' h'
  refine ⟨l.length, fun wq _ => run_len_22 wq, ?_⟩
  rw [BIf_iff]
  refine ⟨fun _ => out w1 h1, fun hl => ?_⟩
  have hl : l.length ≤ 60 := by simp at hl; omega
  refine ⟨la.length, fun wq _ => run_len_22 wq, ?_⟩
  rw [BIf_iff]
  refine ⟨fun _ => out w1 h1, fun hla => ?_⟩
  have hla : la.length ≤ 60 := by simp at hla; omega
  refine ⟨lb.length, fun wq _ => run_len_22 wq, ?_⟩
  rw [BIf_iff]
  refine ⟨fun _ => out w1 h1, fun hlb => ?_⟩
  have hlb : lb.length ≤ 60 := by simp at hlb; omega
  refine bytesOf_ok h1 rl (by omega) fun x w2 h2 => ⟨x, rfl, ?_⟩
  rw [BIf_iff]
  refine ⟨fun _ => out w2 h2, fun _ => ?_⟩
  refine bytesOf_ok h2 ra (by omega) fun x2 w3 h3 => ⟨x2, rfl, ?_⟩
  rw [BIf_iff]
  refine ⟨fun _ => out w3 h3, fun _ => ?_⟩
  refine bytesOf_ok h3 rb (by omega) fun x3 w4 h4 => ⟨x3, rfl, ?_⟩
  rw [f12_s3_eq, BIf_iff]
  refine ⟨fun _ => hK w4 h4, fun _ => ?_⟩
  rw [f12_s4_eq]
  refine new_ok h4 fun w5 D1 d1 o1 h5 => ⟨_, rfl, ?_⟩
  refine new_ok h5 fun w6 D2 d2 o2 h6 => ⟨_, rfl, ?_⟩
  refine new_ok h6 fun w7 D3 d3 o3 h7 => ⟨_, rfl, ?_⟩
  rw [f12_s5_eq]
  refine ⟨l.length, fun wq _ => run_len_22 wq, ?_⟩
  rw [f12_s6_eq]
  exact clones_loop (H := H) (h7.perm (perm_by fun f => by simp only [List.map_append, List.sum_append]; omega)) o1 o2 o3 d1 d2 d3 hl hla hlb rl ra rb hK
end Go.Fx.Try
namespace Go.Proofs.Ytamciedmojpjaaa
open Go Go.Fx Go.Fx.Try Go.Fx.Mo
open Go.ChangeShapes Go.WideShapes Go.ChangeAt Go.RowKit
set_option maxRecDepth 100000
theorem raceClones_lifted (os : Os) (started : os.Started) (H : Type) (enc : TypeId × Value → H) :
    ReturnsInHanded {} Try.checked os 12 .any (Rows.raceClonesSpec.pre6 enc Try.prog Try.f12 Rows.raceClonesRow.domain false) (Rows.raceClonesSpec.post enc Try.prog Try.f12 false true false false) := by
  refine returnsInHanded_of_change (C := Try.checked) own started (by kernel_rfl) Try.func12
    (ChangeSpec.witness6 (enc := enc) (C := Try.checked) false ⟨#[], #[.slice none 0 0, .slice none 0 0, .slice none 0 0], []⟩ 8 (by kernel_rfl) (by kernel_rfl) (by kernel_rfl) (by kernel_rfl)) ?_
  intro W base args ds gs before hval0 hW _ _
  have hval : ∀ (j : Nat) t v, Try.f12.params[j]? = some t → args[j]? = some v → Value.okWide Try.prog W .any base t v := hval0
  have hW' := hW
  obtain ⟨p, q, hA0, hV, rfl, hfz, hnd⟩ := hW
  have hA : DataW.TrodAll enc Try.prog W 0 (fun _ => true) true Try.f12.params.toList args.toList ds p := hA0
  rw [Try.params12] at hA hval
  obtain ⟨v0, v1, v2, d0, d1, d2, p0, p1, p2, rfl, rfl, rfl, h0, h1, h2⟩ := trodAll_three hA
  obtain ⟨rfl, rfl⟩ := trodVars_none hV
  obtain ⟨l, hrow, hlen⟩ := open_events (okWide_slice Try.underlying22 (hval 0 22 v0 rfl rfl)) h0
  obtain ⟨la, hrowa, hlena⟩ := open_events (okWide_slice Try.underlying22 (hval 1 22 v1 rfl rfl)) h1
  obtain ⟨lb, hrowb, hlenb⟩ := open_events (okWide_slice Try.underlying22 (hval 2 22 v2 rfl rfl)) h2
  obtain ⟨sa, sc, rfl⟩ := hrow.form
  obtain ⟨aa, ac, rfl⟩ := hrowa.form
  obtain ⟨ba, bc, rfl⟩ := hrowb.form
  have hcall := clones_ok (w0 := W) (H := []) (K := fun v w' => v = .bool true ∧ Below W.heap.size W w') (St.refl W) (fun w' h' => Row.old hrow (New.nil W) h') (fun w' h' => Row.old hrowa (New.nil W) h') (fun w' h' => Row.old hrowb (New.nil W) h') (fun w' h' => ⟨rfl, h'.below⟩)
  refine Calls.mono hcall fun e W' he => ?_
  unfold retK at he
  split at he
  · obtain ⟨rfl, hB⟩ := he
    have hlt0 : ∀ x ∈ p0, x.block < W.heap.size := fun x hx => hW'.lt x (by simp [hx])
    have hlt1 : ∀ x ∈ p1, x.block < W.heap.size := fun x hx => hW'.lt x (by simp [hx])
    have hlt2 : ∀ x ∈ p2, x.block < W.heap.size := fun x hx => hW'.lt x (by simp [hx])
    have h0' := Below.trod laidOut readable22 types22 h0 hB hlt0
    have h1' := Below.trod laidOut readable22 types22 h1 hB hlt1
    have h2' := Below.trod laidOut readable22 types22 h2 hB hlt2
    exact ⟨_, rfl, _, _, _, [], p0 ++ (p1 ++ p2), [], hW', trodAll_mk1 (shut_bool Try.underlying4 _), trodAll_mk3 h0' h1' h2', rfl, hB.frame _, fun h => by cases h⟩
  · exact he.elim
theorem raceClones_holds : Rows.RaceClonesSaid :=
  OpenClaim.holds_of_wide 12 Try.f12 rfl rfl rfl rfl rfl rfl rfl ⟨rfl, rfl, rfl, rfl, rfl⟩ rfl rfl rfl rfl rfl (by kernel_rfl) Try.func12 (by kernel_rfl)
    (of_decide_eq_true (by kernel_rfl)) (by unfold Func.isWrapper; first | (rw [if_pos (by decide +kernel)]; kernel_rfl) | (rw [if_neg (by decide +kernel)]; exact ⟨rfl, rfl⟩))
    (fun os started H enc _ => raceClones_lifted os started H enc)
#print axioms raceClones_holds
end Go.Proofs.Ytamciedmojpjaaa
