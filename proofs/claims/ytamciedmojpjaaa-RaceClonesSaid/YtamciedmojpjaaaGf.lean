/- Known blocks of a world, slices and maps. -/
import Derived.Test.YtamciedmojpjaaaGa
import Derived.Maps.AppendAt
import Derived.MapKept
namespace Go.Fx
open Go

@[simp] theorem BIf_true (A B : Prop) : BIf true A B = A := rfl
@[simp] theorem BIf_false (A B : Prop) : BIf false A B = B := rfl
theorem BIf_iff (b : Bool) (A B : Prop) : BIf b A B ↔ (b = true → A) ∧ (b = false → B) := by cases b <;> simp
/-- A block of cells, as a list. -/
def Cs (cs : List Value) (t : TypeId) : Obj := .cells cs.toArray t (0, 0)

/-- The blocks H are known in w; all other blocks of w0 are as they were. -/
structure Kept (w0 w : World) : Prop where
  os : w.os = w0.os
  tape : w.tape = w0.tape
  output : w.output = w0.output
structure St (w0 w : World) (H : List (Nat × Obj)) : Prop where
  kept : Kept w0 w
  le : w0.heap.size ≤ w.heap.size
  has : ∀ b o, (b, o) ∈ H → w.heap[b]? = some o
  nd : (H.map (·.1)).Nodup
  old : ∀ b, b < w0.heap.size → b ∉ H.map (·.1) → w.heap[b]? = w0.heap[b]?

variable {w0 w : World} {H : List (Nat × Obj)}
theorem alloc_heap (w : World) (o : Obj) : (w.alloc o).heap = w.heap.push o := rfl
theorem St.refl (w : World) : St w w [] := ⟨⟨rfl, rfl, rfl⟩, Nat.le_refl _, by simp, by simp, fun _ _ _ => rfl⟩
theorem St.lt (h : St w0 w H) {b : Nat} {o : Obj} (hb : (b, o) ∈ H) : b < w.heap.size := (Array.getElem?_eq_some_iff.1 (h.has b o hb)).1
theorem St.get (h : St w0 w H) {k b : Nat} {o : Obj} (hk : H[k]? = some (b, o)) : w.heap[b]? = some o := h.has b o (List.mem_of_getElem? hk)
theorem St.add (h : St w0 w H) {b : Nat} {o : Obj} (hb : w0.heap[b]? = some o) (hn : b ∉ H.map (·.1)) : St w0 w ((b, o) :: H) := by
  have hlt : b < w0.heap.size := (Array.getElem?_eq_some_iff.1 hb).1
  refine ⟨h.kept, h.le, fun c p hc => ?_, by simp only [List.map_cons, List.nodup_cons]; exact ⟨hn, h.nd⟩, fun c hc hn' => h.old c hc (fun hh => hn' (by simp at hh ⊢; exact .inr hh))⟩
  rcases List.mem_cons.1 hc with e | hc
  · cases e; rw [h.old b hlt hn, hb]
  · exact h.has c p hc
theorem St.drew (h : St w0 w H) : St w0 w.drew H := ⟨⟨h.kept.os, h.kept.tape, h.kept.output⟩, h.le, h.has, h.nd, h.old⟩
theorem St.alloc (h : St w0 w H) (o : Obj) : St w0 (w.alloc o) ((w.heap.size, o) :: H) := by
  refine ⟨⟨h.kept.os, h.kept.tape, h.kept.output⟩, by rw [alloc_heap, Array.size_push]; exact Nat.le_succ_of_le h.le, fun c p hc => ?_, ?_, fun c hc hn => ?_⟩
  · rcases List.mem_cons.1 hc with e | hc
    · cases e; rw [alloc_heap]; simp
    · have hlt := h.lt hc
      have := h.has c p hc
      rw [alloc_heap]; simp [Array.getElem?_push, Nat.ne_of_lt hlt, this]
  · simp only [List.map_cons, List.nodup_cons]
    refine ⟨fun hh => ?_, h.nd⟩
    obtain ⟨⟨c, p⟩, hc, e⟩ := List.mem_map.1 hh
    have := h.lt hc
    simp at e; omega
  · have : c ∉ H.map (·.1) := fun hh => hn (by simp at hh ⊢; exact .inr hh)
    rw [← h.old c hc this]
    have hlt : c < w.heap.size := Nat.lt_of_lt_of_le hc h.le
    rw [alloc_heap]; simp [Array.getElem?_push, Nat.ne_of_lt hlt]
theorem nodup_idx {α : Type} {l : List α} (h : l.Nodup) {i j : Nat} {x : α} (hi : l[i]? = some x) (hj : l[j]? = some x) : i = j := by
  obtain ⟨hi1, hi2⟩ := List.getElem?_eq_some_iff.1 hi
  obtain ⟨hj1, hj2⟩ := List.getElem?_eq_some_iff.1 hj
  have hp := List.pairwise_iff_getElem.1 h
  rcases Nat.lt_trichotomy i j with hlt | he | hlt
  · exact absurd (hi2.trans hj2.symm) (hp i j hi1 hj1 hlt)
  · exact he
  · exact absurd (hj2.trans hi2.symm) (hp j i hj1 hi1 hlt)
theorem keys_set {k b : Nat} {o o' : Obj} (hk : H[k]? = some (b, o)) : (H.set k (b, o')).map (·.1) = H.map (·.1) := by
  apply List.ext_getElem?
  intro i
  simp only [List.getElem?_map, List.getElem?_set]
  by_cases hi : k = i
  · subst hi
    obtain ⟨hlt, he⟩ := List.getElem?_eq_some_iff.1 hk
    simp [hlt, he]
  · simp [hi]
theorem St.put (h : St w0 w H) {k b : Nat} {o : Obj} (hk : H[k]? = some (b, o)) (o' : Obj) : St w0 (w.putObj b o') (H.set k (b, o')) := by
  have hb := h.get hk
  have hlt : b < w.heap.size := (Array.getElem?_eq_some_iff.1 hb).1
  refine ⟨⟨h.kept.os, h.kept.tape, h.kept.output⟩, by simp; exact h.le, fun c p hc => ?_, by rw [keys_set hk]; exact h.nd, fun c hc hn => ?_⟩
  · obtain ⟨i, hi⟩ := List.mem_iff_getElem?.1 hc
    rw [List.getElem?_set] at hi
    by_cases hki : k = i
    · subst hki
      have hkl : k < H.length := (List.getElem?_eq_some_iff.1 hk).1
      simp [hkl] at hi
      obtain ⟨rfl, rfl⟩ := hi
      exact World.putObj_heap_same (w := _) hlt
    · simp [hki] at hi
      have hcb : c ≠ b := fun e => hki (nodup_idx h.nd (x := b) (by simp [hk]) (by simp [hi, e]))
      rw [World.putObj_heap_other (w := _) hcb]
      exact h.get hi
  · rw [keys_set hk] at hn
    have hcb : c ≠ b := fun e => hn (by subst e; exact List.mem_map.2 ⟨_, List.mem_of_getElem? hk, rfl⟩)
    rw [World.putObj_heap_other (w := _) hcb]
    exact h.old c hc hn
/-- New blocks are let go. -/
theorem St.sub {L : List (Nat × Obj)} (h : St w0 w (L ++ H)) (hL : ∀ x ∈ L, w0.heap.size ≤ x.1) : St w0 w H := by
  refine ⟨h.kept, h.le, fun b o hb => h.has b o (by simp [hb]), ?_, fun b hb hn => h.old b hb ?_⟩
  · have := h.nd
    rw [List.map_append] at this
    exact (List.nodup_append.1 this).2.1
  · intro hh
    rw [List.map_append, List.mem_append] at hh
    rcases hh with hh | hh
    · obtain ⟨x, hx, rfl⟩ := List.mem_map.1 hh
      have := hL x hx
      omega
    · exact hn hh
theorem St.tail {b : Nat} {o : Obj} (h : St w0 w ((b, o) :: H)) (hb : w0.heap.size ≤ b) : St w0 w H := St.sub (L := [(b, o)]) h (by simpa using hb)
theorem St.perm {H' : List (Nat × Obj)} (h : St w0 w H) (hp : H.Perm H') : St w0 w H' :=
  ⟨h.kept, h.le, fun b o hb => h.has b o (hp.mem_iff.2 hb), (hp.map _).nodup_iff.1 h.nd, fun b hb hn => h.old b hb fun hh => hn ((hp.map _).mem_iff.1 hh)⟩

@[simp] theorem add_lit' (b i j : Nat) : (Addr.mk b i none).add j = Addr.mk b (i + j) none := by
  unfold Addr.add
  split
  · rename_i h; subst h; rfl
  · rfl
theorem cell_of {b i : Nat} {cs : List Value} {t : TypeId} (h : w.heap[b]? = some (Cs cs t)) : w.cell? (Addr.mk b i none) = cs[i]? := by
  unfold World.cell?
  rw [h]
  simp [Cs]
theorem frozen_of {b i : Nat} {cs : List Value} {t : TypeId} (h : w.heap[b]? = some (Cs cs t)) : w.frozen? (Addr.mk b i none) = false := by
  unfold World.frozen?
  rw [h]
  simp [Cs]
theorem setCell_of {b i : Nat} {cs : List Value} {t : TypeId} (v : Value) (h : w.heap[b]? = some (Cs cs t)) : w.setCell (Addr.mk b i none) v = w.putObj b (Cs (cs.set i v) t) := by
  unfold World.setCell World.putObj
  congr 1
  apply Array.ext_getElem?
  intro c
  rw [Array.getElem?_modify, Array.getElem?_setIfInBounds]
  obtain ⟨hlt, he⟩ := Array.getElem?_eq_some_iff.1 h
  by_cases hbc : b = c
  · subst hbc
    simp [hlt, he, Cs]
  · simp [hbc]
theorem St.cell (h : St w0 w H) {k b i : Nat} {cs : List Value} {t : TypeId} (hk : H[k]? = some (b, Cs cs t)) : w.cell? (Addr.mk b i none) = cs[i]? := cell_of (h.get hk)

theorem St.newC (h : St w0 w H) {cs : Array Value} {t : TypeId} {K : Nat → World → Prop}
    (hK : ∀ b w', w0.heap.size ≤ b → St w0 w' ((b, Cs cs.toList t) :: H) → K b w') : NewC cs t w K :=
  hK _ _ h.le (by have := h.alloc (.cells cs t); simpa [Cs] using this)
theorem St.newO (h : St w0 w H) {o : Obj} {K : Nat → World → Prop} (hK : ∀ b w', w0.heap.size ≤ b → St w0 w' ((b, o) :: H) → K b w') : NewO o w K := hK _ _ h.le (h.alloc o)
theorem St.st1 (h : St w0 w H) {k b i : Nat} {cs : List Value} {t : TypeId} {v : Value} {K : World → Prop} (hk : H[k]? = some (b, Cs cs t)) (hi : i < cs.length) (hv : v.oneCell' = true)
    (hK : ∀ w', St w0 w' (H.set k (b, Cs (cs.set i v) t)) → K w') : St1 (Addr.mk b i none) v w K := by
  have hb := h.get hk
  refine ⟨⟨_, by rw [cell_of hb, List.getElem?_eq_getElem hi]⟩, frozen_of hb, hv, ?_⟩
  rw [setCell_of v hb]
  exact hK _ (h.put hk _)
theorem LdA_of {n b i : Nat} {cs : List Value} {t : TypeId} {K : Array Value → Prop} (hb : w.heap[b]? = some (Cs cs t)) (hi : i + n ≤ cs.length) (hK : K ((cs.drop i).take n).toArray) : LdA n (Addr.mk b i none) w K := by
  refine ⟨_, by simp; omega, fun j hj => ?_, hK⟩
  rw [add_lit', cell_of hb]
  simp [hj]
theorem St.ldA (h : St w0 w H) {n k b i : Nat} {cs : List Value} {t : TypeId} {K : Array Value → Prop} (hk : H[k]? = some (b, Cs cs t)) (hi : i + n ≤ cs.length) (hK : K ((cs.drop i).take n).toArray) : LdA n (Addr.mk b i none) w K :=
  LdA_of (h.get hk) hi hK
/-- Cells from i on replaced. -/
def splice (cs : List Value) (i : Nat) : List Value → List Value
  | [] => cs
  | v :: r => splice (cs.set i v) (i + 1) r
theorem splice_length (vs : List Value) : ∀ (cs : List Value) (i : Nat), (splice cs i vs).length = cs.length := by
  induction vs with
  | nil => intro cs i; rfl
  | cons v r ih => intro cs i; rw [splice, ih]; simp
theorem set_comm' (cs : List Value) {i j : Nat} (h : i ≠ j) (u v : Value) : (cs.set i u).set j v = (cs.set j v).set i u := List.set_comm u v h
theorem splice_eq (vs : List Value) : ∀ (cs : List Value) (i : Nat), i + vs.length ≤ cs.length → splice cs i vs = cs.take i ++ vs ++ cs.drop (i + vs.length) := by
  induction vs with
  | nil => intro cs i h; simp [splice]
  | cons v r ih =>
    intro cs i h
    simp at h
    rw [splice, ih _ _ (by simp; omega)]
    apply List.ext_getElem?
    intro j
    simp only [List.append_assoc, List.getElem?_append, List.length_take, List.length_set, List.getElem?_take, List.getElem?_drop, List.length_cons, List.getElem?_set, List.getElem?_cons]
    rcases Nat.lt_trichotomy j i with hj | hj | hj
    · simp [show j < min (i + 1) cs.length by omega, show j < i + 1 by omega, show j < min i cs.length by omega, hj, show i ≠ j by omega]
    · subst hj
      simp [show j < min (j + 1) cs.length by omega, show j < cs.length by omega, show ¬ j < min j cs.length by omega, show j - min j cs.length = 0 by omega]
    · have e1 : min (i + 1) cs.length = i + 1 := by omega
      have e2 : min i cs.length = i := by omega
      rw [e1, e2]
      simp only [show ¬ j < i + 1 by omega, if_false, show ¬ j < i by omega]
      by_cases hr : j - (i + 1) < r.length
      · simp [hr, show j - i < r.length + 1 by omega, show ¬ (j - i = 0) by omega, show j - i - 1 = j - (i + 1) by omega]
      · simp [hr, show ¬ (j - i < r.length + 1) by omega, show i + 1 + r.length + (j - (i + 1) - r.length) = i + (r.length + 1) + (j - i - (r.length + 1)) by omega, show i ≠ i + (r.length + 1) + (j - i - (r.length + 1)) by omega]
theorem splice_snoc (vs : List Value) (v : Value) : ∀ (cs : List Value) (i : Nat), splice cs i (vs ++ [v]) = (splice cs i vs).set (i + vs.length) v := by
  induction vs with
  | nil => intro cs i; simp [splice]
  | cons u r ih => intro cs i; simp only [List.cons_append, splice, ih, List.length_cons]; congr 1; omega
theorem splice_out (vs : List Value) : ∀ (cs : List Value) (i j : Nat), j < i ∨ i + vs.length ≤ j → (splice cs i vs)[j]? = cs[j]? := by
  induction vs with
  | nil => intro cs i j _; rfl
  | cons u r ih =>
    intro cs i j h
    rw [splice, ih _ _ _ (by simp at h; omega), List.getElem?_set_ne (by simp at h; omega)]
theorem splice_in (vs : List Value) (cs : List Value) (i j : Nat) (h : i + vs.length ≤ cs.length) (hj : j < vs.length) : (splice cs i vs)[i + j]? = vs[j]? := by
  rw [splice_eq _ _ _ h, List.append_assoc, List.getElem?_append_right (by simp; omega), List.getElem?_append_left (by simp; omega)]
  congr 1
  simp; omega
theorem take_succ' {α : Type} (l : List α) {i : Nat} (h : i < l.length) : l.take (i + 1) = l.take i ++ [l[i]] := by rw [List.take_add_one, List.getElem?_eq_getElem h]; rfl
theorem setCells_of {b t : Nat} (vs : List Value) : ∀ {w : World} {cs : List Value} {off i : Nat}, w.heap[b]? = some (Cs cs t) → setCells w (Addr.mk b off none) i vs = w.putObj b (Cs (splice cs (off + i) vs) t) := by
  induction vs with
  | nil =>
    intro w cs off i h
    show w = w.putObj b (Cs cs t)
    unfold World.putObj
    have : w.heap.setIfInBounds b (Cs cs t) = w.heap := by
      apply Array.ext_getElem?
      intro c
      rw [Array.getElem?_setIfInBounds]
      by_cases hbc : b = c
      · subst hbc; obtain ⟨h1, h2⟩ := Array.getElem?_eq_some_iff.1 h; simp [h1, h2]
      · simp [hbc]
    rw [this]
  | cons v r ih =>
    intro w cs off i h
    have hlt := (Array.getElem?_eq_some_iff.1 h).1
    show setCells (w.setCell ((Addr.mk b off none).add i) v) _ (i + 1) r = _
    rw [add_lit', setCell_of v h, ih (cs := cs.set (off + i) v) (World.putObj_heap_same (w := _) hlt)]
    show { w with heap := (w.heap.setIfInBounds b _).setIfInBounds b _ } = _
    simp only [Array.setIfInBounds_setIfInBounds]
    rfl
theorem St.stA (h : St w0 w H) {n k b i : Nat} {cs : List Value} {t : TypeId} {vs : Array Value} {K : World → Prop} (hk : H[k]? = some (b, Cs cs t)) (hn : vs.size = n) (hi : i + n ≤ cs.length)
    (hv : ∀ v ∈ vs.toList, v.oneCell' = true) (hK : ∀ w', St w0 w' (H.set k (b, Cs (splice cs i vs.toList) t)) → K w') : StA n (Addr.mk b i none) vs w K := by
  have hb := h.get hk
  refine ⟨hn, fun j hj => ⟨⟨_, by rw [add_lit', cell_of hb, List.getElem?_eq_getElem (by omega)]⟩, by rw [add_lit']; exact frozen_of hb, fun v hv' => hv v (by simpa using Array.mem_of_getElem? hv')⟩, ?_⟩
  rw [setCells_of _ hb]
  exact hK _ (h.put hk _)

theorem wrap_i64 {x : Int} (h1 : -9223372036854775808 ≤ x) (h2 : x < 9223372036854775808) : IntKind.wrap .i64 x = x := by
  simp only [IntKind.wrap, IntKind.bits, IntKind.signed, Bool.true_and]
  by_cases h : x % 2 ^ 64 ≥ 2 ^ (64 - 1)
  · rw [if_pos (by simpa using h)]; omega
  · rw [if_neg (by simpa using h)]; omega
theorem wrap_u32 {x : Int} (h1 : 0 ≤ x) (h2 : x < 4294967296) : IntKind.wrap .u32 x = x := by
  simp only [IntKind.wrap, IntKind.bits, IntKind.signed]
  simp
  omega
theorem wrap_u64 {x : Int} (h1 : 0 ≤ x) (h2 : x < 18446744073709551616) : IntKind.wrap .u64 x = x := by
  simp only [IntKind.wrap, IntKind.bits, IntKind.signed]
  simp
  omega
theorem run_max {P : Program} (k : IntKind) (ts : Array TypeId) (t : TypeId) (a b : Int) (w : World) : (Builtin.max_ ts t [Value.int k a, Value.int k b].toArray).run P w = .ok (.int k (if b > a then b else a)) w := by
  simp [Builtin.max_, Builtin.max2]
theorem St.same {w' : World} (h : St w0 w H) (hw : w'.heap = w.heap) (hk : Kept w w') : St w0 w' H := ⟨⟨hk.os.trans h.kept.os, hk.tape.trans h.kept.tape, hk.output.trans h.kept.output⟩, by rw [hw]; exact h.le, by rw [hw]; exact h.has, h.nd, by rw [hw]; exact h.old⟩

theorem retK_mono {K K' : Value → World → Prop} (hk : ∀ v w, K v w → K' v w) (e : Ending) (w : World) (h : retK K e w) : retK K' e w := by
  unfold retK at *
  split at h
  · exact hk _ _ h
  · exact h.elim
theorem CallL_mono {P : Program} {g : FuncId} {args : List Value} {w : World} {K K' : Value → World → Prop} (hk : ∀ v w, K v w → K' v w) (h : CallL P g args w K) : CallL P g args w K' := by
  unfold CallL CallC at *
  exact Calls.mono h (retK_mono hk)
theorem CallF_mono {P : Program} {f : Value} {args : List Value} {w : World} {K K' : Value → World → Prop} (hk : ∀ v w, K v w → K' v w) (h : CallF P f args w K) : CallF P f args w K' := by
  unfold CallF at *
  split at h
  · split at h
    · exact CallL_mono hk h
    · exact h.elim
  · obtain ⟨fn, tmps, assign, body, h1, h2⟩ := h
    exact ⟨fn, tmps, assign, body, h1, RoundIn.mono h2 (retK_mono hk)⟩
  · exact h.elim
end Go.Fx
namespace Go.Fx
open Go
variable {P : Program} {w0 w : World}

/-- The value ov is a slice of n elements, of the cells xs, and L is its block (none of nil). -/
def SlO (size : Nat) (e : TypeId) (ov : Value) (n : Nat) (xs : List Value) (L : List (Nat × Obj)) : Prop :=
  xs.length = n * size ∧ ((ov = .slice none 0 0 ∧ n = 0 ∧ L = []) ∨
    ∃ g cap cur, ov = .slice (some ⟨g, 0, none⟩) n cap ∧ L = [(g, Cs cur e)] ∧ n ≤ cap ∧ cap ≤ maxLen ∧ cur.length = cap * size ∧ cur.take (n * size) = xs)
def New (w0 : World) (L : List (Nat × Obj)) : Prop := ∀ x ∈ L, w0.heap.size ≤ x.1
theorem idx_app (L H : List (Nat × Obj)) (k : Nat) : (L ++ H)[L.length + k]? = H[k]? := by
  rw [List.getElem?_append_right (by omega)]; congr 1; omega
theorem set_app (L H : List (Nat × Obj)) (k : Nat) (x : Nat × Obj) : (L ++ H).set (L.length + k) x = L ++ H.set k x := by
  rw [List.set_append_right _ _ (by omega)]; congr 2; omega
theorem SlO.form {size : Nat} {e : TypeId} {ov : Value} {n : Nat} {xs : List Value} {L : List (Nat × Obj)} (h : SlO size e ov n xs L) : ∃ a c, ov = .slice a n c := by
  rcases h.2 with ⟨h1, h2, _⟩ | ⟨g, cap, cur, h1, _⟩
  · exact ⟨_, _, by rw [h1, h2]⟩
  · exact ⟨_, _, h1⟩
theorem SlO.nil (size : Nat) (e : TypeId) : SlO size e (.slice none 0 0) 0 [] [] := ⟨by simp, .inl ⟨rfl, rfl, rfl⟩⟩
theorem New.nil (w0 : World) : New w0 [] := by simp [New]

theorem St.append (t ty e : TypeId) (i : TypeInfo) (z : Value) (size bytes : Nat) (ht : P.underlying t = some (.slice e)) (hi : P.info? e = some i) (hz : i.zero = some z)
    (hsize : i.size = size) (hby : i.bytes = bytes) (hzs : z.cells.size = size) (hsz : 0 < size)
    {A L H : List (Nat × Obj)} {ov : Value} {n : Nat} {xs : List Value} (h : St w0 w (A ++ (L ++ H))) (hL : SlO size e ov n xs L) (hLn : New w0 L)
    {j nb : Nat} {t2 : TypeId} {news : List Value} (hj : A[j]? = some (nb, Cs news t2)) (hl : news.length = size) (h1 : ∀ u ∈ news, u.oneCell' = true)
    (h63 : n + 1 ≤ maxLen) (hbytes : (n + 1) * bytes ≤ 140737488355328) :
    ∃ g cap w' L', (Builtin.append_ #[t, t] ty [ov, .slice (some ⟨nb, 0, none⟩) 1 1].toArray).run P w = .ok (.slice (some ⟨g, 0, none⟩) (n + 1) cap) w' ∧
      SlO size e (.slice (some ⟨g, 0, none⟩) (n + 1) cap) (n + 1) (xs ++ news) L' ∧ St w0 w' (A ++ (L' ++ H)) ∧ New w0 L' := by
  have hown : w.ownsRow 0 e size ov n xs := by
    refine ⟨hL.1, ?_⟩
    rcases hL.2 with ⟨h1, h2, _⟩ | ⟨g, cap, cur, h1, h2, h3, h4, h5, h6⟩
    · exact .inl ⟨h1, h2⟩
    · exact .inr ⟨g, cap, cur.toArray, h1, Nat.zero_le _, h.has g (Cs cur e) (by simp [h2]), h3, h4, by simpa using h5, by simpa using h6⟩
  have hnb : w.heap[nb]? = some (Cs news t2) := h.has _ _ (List.mem_append_left _ (List.mem_of_getElem? hj))
  obtain ⟨v', w', hr, ho, hgr, _, hblk⟩ := run_append_own_at (P := P) w 0 t ty e i z size bytes ht hi hz hsize hby hzs hsz ov n xs hown ⟨nb, 0, none⟩ 1 1 news (by simpa using hl)
    (fun j u hu => by rw [add_lit', cell_of hnb]; simpa using hu) h1 h63 hbytes (Nat.zero_le _)
  rcases ho.2 with ⟨_, h0⟩ | ⟨g, cap, cur, rfl, _, hg, hnc, hcm, hcs, htk⟩
  · omega
  have hnd := h.nd
  simp only [List.map_append] at hnd
  have hgsz := hgr.size
  have hgold := hgr.block
  -- the blocks of A and of H are as they were
  have keep : ∀ b o, (b, o) ∈ A ∨ (b, o) ∈ H → w'.heap[b]? = some o := fun b o hb => by
    have hmem : (b, o) ∈ A ++ (L ++ H) := by simp only [List.mem_append]; rcases hb with hb | hb <;> simp [hb]
    rw [hgold b (h.lt hmem) ?_]
    · exact h.has b o hmem
    · rcases hL.2 with ⟨h1, _, _⟩ | ⟨g0, cap0, cur0, h1, h2, _⟩
      · rw [h1]; simp [Value.ownBlock]
      · rw [h1]
        simp only [Value.ownBlock, ne_eq, Option.some.injEq]
        rintro rfl
        rw [h2] at hnd
        have h3 := List.nodup_append.1 hnd
        rcases hb with hb | hb
        · exact h3.2.2 b (List.mem_map.2 ⟨_, hb, rfl⟩) b (by simp) rfl
        · have h4 := h3.2.1
          simp only [List.map_cons, List.map_nil, List.cons_append, List.nil_append, List.nodup_cons] at h4
          exact h4.1 (List.mem_map.2 ⟨_, hb, rfl⟩)
  have hAH : (A.map (·.1) ++ H.map (·.1)).Nodup := by
    have h3 := List.nodup_append.1 hnd
    refine List.nodup_append.2 ⟨h3.1, (List.nodup_append.1 h3.2.1).2.1, fun a ha b hb => h3.2.2 a ha b (by simp [hb])⟩
  have hgn : g ∉ A.map (·.1) ∧ g ∉ H.map (·.1) ∧ w0.heap.size ≤ g := by
    rcases hblk with hb | hb
    · rcases hL.2 with ⟨h1, _, _⟩ | ⟨g0, cap0, cur0, h1, h2, _⟩
      · rw [h1] at hb; simp [Value.ownBlock] at hb
      · rw [h1] at hb
        simp only [Value.ownBlock, Option.some.injEq] at hb
        subst hb
        rw [h2] at hnd
        have h3 := List.nodup_append.1 hnd
        have h4 := h3.2.1
        simp only [List.map_cons, List.map_nil, List.cons_append, List.nil_append, List.nodup_cons] at h4
        refine ⟨fun ha => h3.2.2 g ha g (by simp) rfl, h4.1, ?_⟩
        rw [h2] at hLn
        simpa using hLn (g, Cs cur0 e) (by simp)
    · simp only [Value.ownBlock, Option.some.injEq] at hb
      subst hb
      refine ⟨fun ha => ?_, fun ha => ?_, h.le⟩ <;> obtain ⟨⟨c, p⟩, hc, he⟩ := List.mem_map.1 ha <;> have := h.lt (b := c) (o := p) (by simp [hc]) <;> simp at he <;> omega
  refine ⟨g, cap, w', [(g, Cs cur.toList e)], hr, ⟨ho.1, .inr ⟨g, cap, cur.toList, rfl, rfl, hnc, hcm, by simpa using hcs, htk⟩⟩, ⟨⟨hgr.os.trans h.kept.os, hgr.tape.trans h.kept.tape, hgr.output.trans h.kept.output⟩, Nat.le_trans h.le hgsz, fun b o hb => ?_, ?_, fun b hb hn => ?_⟩, by simpa [New] using hgn.2.2⟩
  · simp only [List.mem_append, List.mem_singleton] at hb
    rcases hb with hb | hb | hb
    · exact keep b o (.inl hb)
    · cases hb; simpa [Cs] using hg
    · exact keep b o (.inr hb)
  · simp only [List.map_append, List.map_cons, List.map_nil]
    have h3 := List.nodup_append.1 hAH
    refine List.nodup_append.2 ⟨h3.1, ?_, ?_⟩
    · simp only [List.cons_append, List.nil_append, List.nodup_cons]; exact ⟨hgn.2.1, h3.2.1⟩
    · intro a ha b hb
      simp only [List.cons_append, List.nil_append, List.mem_cons] at hb
      rcases hb with rfl | hb
      · rintro rfl; exact hgn.1 ha
      · exact h3.2.2 a ha b hb
  · simp only [List.map_append, List.map_cons, List.map_nil, List.mem_append, List.mem_singleton, not_or] at hn
    have hbL : b ∉ L.map (·.1) := fun hh => by
      obtain ⟨x, hx, rfl⟩ := List.mem_map.1 hh
      have := hLn x hx
      omega
    rw [hgold b (Nat.lt_of_lt_of_le hb h.le) ?_]
    · exact h.old b hb (by simp only [List.map_append, List.mem_append, not_or]; exact ⟨hn.1, hbL, hn.2.2⟩)
    · rcases hL.2 with ⟨h1, _, _⟩ | ⟨g0, cap0, cur0, h1, h2, _⟩
      · rw [h1]; simp [Value.ownBlock]
      · rw [h1]
        simp only [Value.ownBlock, ne_eq, Option.some.injEq]
        rintro rfl
        exact hbL (by simp [h2])
end Go.Fx
namespace Go.Fx
open Go
variable {P : Program} {w0 w : World}
theorem St.appendS (t ty e : TypeId) (i : TypeInfo) (z : Value) (size bytes : Nat) (ht : P.underlying t = some (.slice e)) (hi : P.info? e = some i) (hz : i.zero = some z)
    (hsize : i.size = size) (hby : i.bytes = bytes) (hzs : z.cells.size = size) (hsz : 0 < size)
    {A L H : List (Nat × Obj)} {ov : Value} {n : Nat} {xs : List Value} (h : St w0 w (A ++ (L ++ H))) (hL : SlO size e ov n xs L) (hLn : New w0 L)
    {ad : Addr} {m c : Nat} {news : List Value} (hl : news.length = m * size) (hnews : ∀ j u, news[j]? = some u → w.cell? (ad.add j) = some u) (h1 : ∀ u ∈ news, u.oneCell' = true)
    (h63 : n + m ≤ maxLen) (hbytes : (n + m) * bytes ≤ 140737488355328) :
    ∃ v' w' L', (Builtin.append_ #[t, t] ty [ov, .slice (some ad) m c].toArray).run P w = .ok v' w' ∧
      SlO size e v' (n + m) (xs ++ news) L' ∧ St w0 w' (A ++ (L' ++ H)) ∧ New w0 L' := by
  have hown : w.ownsRow 0 e size ov n xs := by
    refine ⟨hL.1, ?_⟩
    rcases hL.2 with ⟨h1, h2, _⟩ | ⟨g, cap, cur, h1, h2, h3, h4, h5, h6⟩
    · exact .inl ⟨h1, h2⟩
    · exact .inr ⟨g, cap, cur.toArray, h1, Nat.zero_le _, h.has g (Cs cur e) (by simp [h2]), h3, h4, by simpa using h5, by simpa using h6⟩
  obtain ⟨v', w', hr, ho, hgr, _, hblk⟩ := run_append_own_at (P := P) w 0 t ty e i z size bytes ht hi hz hsize hby hzs hsz ov n xs hown ad m c news hl hnews h1 h63 hbytes (Nat.zero_le _)
  rcases ho.2 with ⟨rfl, h0⟩ | ⟨g, cap, cur, rfl, _, hg, hnc, hcm, hcs, htk⟩
  · -- nothing to nothing
    have hn0 : n = 0 := by omega
    have hm0 : m = 0 := by omega
    subst hn0; subst hm0
    have hx0 : xs = [] := List.eq_nil_of_length_eq_zero (by simpa using hL.1)
    have hn0' : news = [] := List.eq_nil_of_length_eq_zero (by simpa using hl)
    subst hx0; subst hn0'
    rcases hL.2 with ⟨h1, _, h2⟩ | ⟨g0, cap0, cur0, h1, h2, _⟩
    · subst h2
      refine ⟨_, w', [], hr, ⟨by simp, .inl ⟨rfl, rfl, rfl⟩⟩, ?_, New.nil w0⟩
      have hs : w' = w' := rfl
      refine ⟨⟨hgr.os.trans h.kept.os, hgr.tape.trans h.kept.tape, hgr.output.trans h.kept.output⟩, Nat.le_trans h.le hgr.size, fun b o hb => ?_, by simpa using h.nd, fun b hb hn => ?_⟩
      · have hmem : (b, o) ∈ A ++ ([] ++ H) := hb
        rw [hgr.block b (h.lt hmem) (by rw [h1]; simp [Value.ownBlock])]
        exact h.has b o hmem
      · rw [hgr.block b (Nat.lt_of_lt_of_le hb h.le) (by rw [h1]; simp [Value.ownBlock])]
        exact h.old b hb (by simpa using hn)
    · rcases hblk with hb | hb
      · rw [h1] at hb; simp [Value.ownBlock] at hb
      · simp [Value.ownBlock] at hb
  have hnd := h.nd
  simp only [List.map_append] at hnd
  have hgsz := hgr.size
  have hgold := hgr.block
  -- the blocks of A and of H are as they were
  have keep : ∀ b o, (b, o) ∈ A ∨ (b, o) ∈ H → w'.heap[b]? = some o := fun b o hb => by
    have hmem : (b, o) ∈ A ++ (L ++ H) := by simp only [List.mem_append]; rcases hb with hb | hb <;> simp [hb]
    rw [hgold b (h.lt hmem) ?_]
    · exact h.has b o hmem
    · rcases hL.2 with ⟨h1, _, _⟩ | ⟨g0, cap0, cur0, h1, h2, _⟩
      · rw [h1]; simp [Value.ownBlock]
      · rw [h1]
        simp only [Value.ownBlock, ne_eq, Option.some.injEq]
        rintro rfl
        rw [h2] at hnd
        have h3 := List.nodup_append.1 hnd
        rcases hb with hb | hb
        · exact h3.2.2 b (List.mem_map.2 ⟨_, hb, rfl⟩) b (by simp) rfl
        · have h4 := h3.2.1
          simp only [List.map_cons, List.map_nil, List.cons_append, List.nil_append, List.nodup_cons] at h4
          exact h4.1 (List.mem_map.2 ⟨_, hb, rfl⟩)
  have hAH : (A.map (·.1) ++ H.map (·.1)).Nodup := by
    have h3 := List.nodup_append.1 hnd
    refine List.nodup_append.2 ⟨h3.1, (List.nodup_append.1 h3.2.1).2.1, fun a ha b hb => h3.2.2 a ha b (by simp [hb])⟩
  have hgn : g ∉ A.map (·.1) ∧ g ∉ H.map (·.1) ∧ w0.heap.size ≤ g := by
    rcases hblk with hb | hb
    · rcases hL.2 with ⟨h1, _, _⟩ | ⟨g0, cap0, cur0, h1, h2, _⟩
      · rw [h1] at hb; simp [Value.ownBlock] at hb
      · rw [h1] at hb
        simp only [Value.ownBlock, Option.some.injEq] at hb
        subst hb
        rw [h2] at hnd
        have h3 := List.nodup_append.1 hnd
        have h4 := h3.2.1
        simp only [List.map_cons, List.map_nil, List.cons_append, List.nil_append, List.nodup_cons] at h4
        refine ⟨fun ha => h3.2.2 g ha g (by simp) rfl, h4.1, ?_⟩
        rw [h2] at hLn
        simpa using hLn (g, Cs cur0 e) (by simp)
    · simp only [Value.ownBlock, Option.some.injEq] at hb
      subst hb
      refine ⟨fun ha => ?_, fun ha => ?_, h.le⟩ <;> obtain ⟨⟨c, p⟩, hc, he⟩ := List.mem_map.1 ha <;> have := h.lt (b := c) (o := p) (by simp [hc]) <;> simp at he <;> omega
  refine ⟨_, w', [(g, Cs cur.toList e)], hr, ⟨ho.1, .inr ⟨g, cap, cur.toList, rfl, rfl, hnc, hcm, by simpa using hcs, htk⟩⟩, ⟨⟨hgr.os.trans h.kept.os, hgr.tape.trans h.kept.tape, hgr.output.trans h.kept.output⟩, Nat.le_trans h.le hgsz, fun b o hb => ?_, ?_, fun b hb hn => ?_⟩, by simpa [New] using hgn.2.2⟩
  · simp only [List.mem_append, List.mem_singleton] at hb
    rcases hb with hb | hb | hb
    · exact keep b o (.inl hb)
    · cases hb; simpa [Cs] using hg
    · exact keep b o (.inr hb)
  · simp only [List.map_append, List.map_cons, List.map_nil]
    have h3 := List.nodup_append.1 hAH
    refine List.nodup_append.2 ⟨h3.1, ?_, ?_⟩
    · simp only [List.cons_append, List.nil_append, List.nodup_cons]; exact ⟨hgn.2.1, h3.2.1⟩
    · intro a ha b hb
      simp only [List.cons_append, List.nil_append, List.mem_cons] at hb
      rcases hb with rfl | hb
      · rintro rfl; exact hgn.1 ha
      · exact h3.2.2 a ha b hb
  · simp only [List.map_append, List.map_cons, List.map_nil, List.mem_append, List.mem_singleton, not_or] at hn
    have hbL : b ∉ L.map (·.1) := fun hh => by
      obtain ⟨x, hx, rfl⟩ := List.mem_map.1 hh
      have := hLn x hx
      omega
    rw [hgold b (Nat.lt_of_lt_of_le hb h.le) ?_]
    · exact h.old b hb (by simp only [List.map_append, List.mem_append, not_or]; exact ⟨hn.1, hbL, hn.2.2⟩)
    · rcases hL.2 with ⟨h1, _, _⟩ | ⟨g0, cap0, cur0, h1, h2, _⟩
      · rw [h1]; simp [Value.ownBlock]
      · rw [h1]
        simp only [Value.ownBlock, ne_eq, Option.some.injEq]
        rintro rfl
        exact hbL (by simp [h2])

theorem run_append_none (t ty e : TypeId) (i : TypeInfo) (ht : P.underlying t = some (.slice e)) (hi : P.info? e = some i) (w : World) (a : Option Addr) (n cap : Nat) (h : n ≤ cap) :
    (Builtin.append_ #[t, t] ty [.slice a n cap, .slice none 0 0].toArray).run P w = .ok (.slice a n cap) w := by
  cases a <;> simp [Builtin.append_, run_underlying ht, sizeOf, typeInfo, hi, Builtin.lenOf, Builtin.firstCells, loadCells, h, storeCells]
/-- A slice appended to a slice. -/
theorem St.appendN (t ty e : TypeId) (i : TypeInfo) (z : Value) (size bytes : Nat) (ht : P.underlying t = some (.slice e)) (hi : P.info? e = some i) (hz : i.zero = some z)
    (hsize : i.size = size) (hby : i.bytes = bytes) (hzs : z.cells.size = size) (hsz : 0 < size)
    {A L H M : List (Nat × Obj)} {ov xv : Value} {n m : Nat} {xs news : List Value} (h : St w0 w (A ++ (L ++ H))) (hL : SlO size e ov n xs L) (hLn : New w0 L)
    (hx : SlO size e xv m news M) (hM : ∀ x ∈ M, w.heap[x.1]? = some x.2) (h1 : ∀ u ∈ news, u.oneCell' = true)
    (h63 : n + m ≤ maxLen) (hbytes : (n + m) * bytes ≤ 140737488355328) :
    ∃ v' w' L', (Builtin.append_ #[t, t] ty [ov, xv].toArray).run P w = .ok v' w' ∧
      SlO size e v' (n + m) (xs ++ news) L' ∧ St w0 w' (A ++ (L' ++ H)) ∧ New w0 L' := by
  rcases hx.2 with ⟨rfl, rfl, rfl⟩ | ⟨g, cap, cur, rfl, rfl, hnc, hcm, hcl, htk⟩
  · have hn0 : news = [] := List.eq_nil_of_length_eq_zero (by simpa using hx.1)
    subst hn0
    have hle : ∃ a c, ov = .slice a n c ∧ n ≤ c := by
      rcases hL.2 with ⟨h1, h2, _⟩ | ⟨g, cap, cur, h1, _, h3, _⟩
      · exact ⟨_, _, by rw [h1, h2], by omega⟩
      · exact ⟨_, _, h1, h3⟩
    obtain ⟨a, c, hov, hle⟩ := hle
    refine ⟨ov, w, L, ?_, by simpa using hL, h, hLn⟩
    rw [hov]
    exact run_append_none t ty e i ht hi w a n c hle
  · refine St.appendS (P := P) t ty e i z size bytes ht hi hz hsize hby hzs hsz h hL hLn hx.1 (fun j u hu => ?_) h1 h63 hbytes
    rw [add_lit', cell_of (hM (g, Cs cur e) (by simp)), Nat.zero_add]
    rw [← htk, List.getElem?_take] at hu
    split at hu
    · exact hu
    · cases hu
end Go.Fx
namespace Go.Fx
open Go
variable {P : Program} {w0 w : World} {H : List (Nat × Obj)}
theorem add_add' (a : Addr) (m n : Nat) : (a.add m).add n = a.add (m + n) := by
  unfold Addr.add
  by_cases hm : m = 0
  · subst hm; simp
  · by_cases hn : n = 0
    · subst hn; simp [hm]
    · have : ¬ (m + n = 0) := by omega
      simp [hm, hn]; omega
/-- The value ov is a slice of n elements of so many cells, which read xs. -/
def Row (w : World) (size : Nat) (ov : Value) (n : Nat) (xs : List Value) : Prop :=
  xs.length = n * size ∧ ((ov = .slice none 0 0 ∧ n = 0) ∨ ∃ a c, ov = .slice (some a) n c ∧ ∀ i, i < n * size → w.cell? (a.add i) = xs[i]?)
theorem Row.form {size : Nat} {ov : Value} {n : Nat} {xs : List Value} (h : Row w size ov n xs) : ∃ a c, ov = .slice a n c := by
  rcases h.2 with ⟨h1, h2⟩ | ⟨a, c, h1, _⟩
  · exact ⟨_, _, by rw [h1, h2]⟩
  · exact ⟨_, _, h1⟩
theorem Row.ldA {size : Nat} {ov : Value} {n : Nat} {xs : List Value} (h : Row w size ov n xs) {i : Nat} (hi : i < n) :
    ∃ a c, ov = .slice (some a) n c ∧ ∀ K : Array Value → Prop, K ((xs.drop (i * size)).take size).toArray → LdA size (a.add (i * size)) w K := by
  rcases h.2 with ⟨_, h0⟩ | ⟨a, c, h1, h2⟩
  · omega
  · have hle : i * size + size ≤ n * size := by rw [← Nat.succ_mul]; exact Nat.mul_le_mul_right _ hi
    refine ⟨a, c, h1, fun K hK => ⟨_, by simp [h.1]; omega, fun j hj => ?_, hK⟩⟩
    rw [add_add', h2 _ (by omega)]
    simp [hj]
theorem SlO.row {size : Nat} {e : TypeId} {ov : Value} {n : Nat} {xs : List Value} {L : List (Nat × Obj)} (h : SlO size e ov n xs L) (hL : ∀ x ∈ L, w.heap[x.1]? = some x.2) : Row w size ov n xs := by
  refine ⟨h.1, ?_⟩
  rcases h.2 with ⟨h1, h2, _⟩ | ⟨g, cap, cur, h1, h2, h3, h4, h5, h6⟩
  · exact .inl ⟨h1, h2⟩
  · refine .inr ⟨_, _, h1, fun i hi => ?_⟩
    rw [add_lit', cell_of (hL (g, Cs cur e) (by simp [h2])), Nat.zero_add, ← h6, List.getElem?_take, if_pos hi]
/-- A row of old blocks reads on. -/
theorem Row.old {size : Nat} {ov : Value} {n : Nat} {xs : List Value} (h : Row w0 size ov n xs) (hn : New w0 H) (hs : St w0 w H) : Row w size ov n xs := by
  refine ⟨h.1, ?_⟩
  rcases h.2 with h1 | ⟨a, c, h1, h2⟩
  · exact .inl h1
  · refine .inr ⟨a, c, h1, fun i hi => ?_⟩
    have hx := h2 i hi
    have hi' : i < xs.length := by rw [h.1]; exact hi
    rw [List.getElem?_eq_getElem hi'] at hx
    rw [List.getElem?_eq_getElem hi', ← hx]
    have hb : (a.add i).block < w0.heap.size := by
      unfold World.cell? at hx
      cases hh : w0.heap[(a.add i).block]? with
      | none => rw [hh] at hx; simp at hx
      | some o => exact (Array.getElem?_eq_some_iff.1 hh).1
    unfold World.cell?
    rw [hs.old _ hb (fun hm => by
      obtain ⟨x, hx, he⟩ := List.mem_map.1 hm
      have := hn x hx
      omega)]
end Go.Fx
namespace Go.Fx
open Go
set_option linter.unusedSectionVars false
variable {P : Program}

/-- A type of keys, told by K. -/
structure KeyT (P : Program) (kt : TypeId) {K : Type} (enc : K → Value) : Prop where
  check : ∀ w em k, (Instr.checkKey em 10000 kt (enc k)).run P w = .ok () w
  find : ∀ w k (es : List MapEntry), (∀ e ∈ es, ∃ x, e.key = enc x) →
    ((Instr.findKey kt (enc k) es).run P w = .ok none w ∧ ∀ e ∈ es, e.key ≠ enc k) ∨ ∃ j e, (Instr.findKey kt (enc k) es).run P w = .ok (some (j, e.val)) w ∧ es[j]? = some e ∧ e.key = enc k
  stays : ∀ w k, (Instr.keyThatStays (enc k) (enc k)).run P w = .ok (enc k) w
  inj : ∀ {a b}, enc a = enc b → a = b

variable {K : Type} [DecidableEq K] {enc : K → Value} {kt : TypeId}
/-- A map, as a list of pairs. -/
structure MapIs (enc : K → Value) (es : Array MapEntry) (clk : Nat) (m : List (K × Value)) : Prop where
  st : MapKept.Stamped es clk
  perm : (es.toList.map fun e => (e.key, e.val)).Perm (m.map fun p => (enc p.1, p.2))

def lookM (m : List (K × Value)) (k : K) : Option Value := (m.find? fun p => p.1 == k).map (·.2)
def putM (m : List (K × Value)) (k : K) (v : Value) : List (K × Value) := match lookM m k with
  | some _ => m.map fun p => if p.1 = k then (p.1, v) else p
  | none => m ++ [(k, v)]
theorem lookM_none {m : List (K × Value)} {k : K} : lookM m k = none ↔ ∀ p ∈ m, p.1 ≠ k := by
  simp [lookM]
theorem lookM_some {m : List (K × Value)} {k : K} {v : Value} (hn : (m.map (·.1)).Nodup) : lookM m k = some v ↔ (k, v) ∈ m := by
  induction m with
  | nil => simp [lookM]
  | cons p r ih =>
    simp only [List.map_cons, List.nodup_cons] at hn
    simp only [lookM, List.find?_cons]
    by_cases hp : p.1 = k
    · subst hp
      simp only [beq_self_eq_true, Option.map_some, Option.some.injEq, List.mem_cons]
      constructor
      · rintro rfl; exact .inl rfl
      · rintro (h | h)
        · rw [← h]
        · exact absurd (List.mem_map.2 ⟨_, h, rfl⟩) hn.1
    · have : (p.1 == k) = false := by simpa using hp
      rw [this]
      simp only [List.mem_cons]
      have ih := ih hn.2
      unfold lookM at ih
      rw [ih]
      constructor
      · exact .inr
      · rintro (h | h)
        · exact absurd (by rw [← h]) hp
        · exact h

namespace MapIs
variable {es : Array MapEntry} {clk : Nat} {m : List (K × Value)}
theorem empty : MapIs enc #[] 0 ([] : List (K × Value)) := ⟨MapKept.stamped_empty 0, by simp⟩
theorem keys (h : MapIs enc es clk m) : ∀ e ∈ es.toList, ∃ x, e.key = enc x := fun e he => by
  have : (e.key, e.val) ∈ es.toList.map fun e => (e.key, e.val) := List.mem_map.2 ⟨e, he, rfl⟩
  obtain ⟨p, _, hp⟩ := List.mem_map.1 (h.perm.mem_iff.1 this)
  exact ⟨p.1, (congrArg Prod.fst hp).symm⟩
theorem nodup (h : MapIs enc es clk m) : (m.map (·.1)).Nodup := by
  have h1 := h.st.2.2
  have h2 := h.perm.map Prod.fst
  rw [List.map_map, List.map_map] at h2
  have h3 : (m.map (Prod.fst ∘ fun p => (enc p.1, p.2))).Nodup := h2.nodup_iff.1 h1
  have : m.map (Prod.fst ∘ fun p => (enc p.1, p.2)) = (m.map (·.1)).map enc := by simp [Function.comp_def]
  rw [this] at h3
  exact List.Pairwise.of_map enc (fun a b hab e => hab (by rw [e])) h3
theorem size (h : MapIs enc es clk m) : es.size = m.length := by
  have := h.perm.length_eq
  simpa using this
theorem mem (h : MapIs enc es clk m) (kl : KeyT P kt enc) {e : MapEntry} (he : e ∈ es.toList) {k : K} (hk : e.key = enc k) : (k, e.val) ∈ m := by
  have : (e.key, e.val) ∈ es.toList.map fun e => (e.key, e.val) := List.mem_map.2 ⟨e, he, rfl⟩
  obtain ⟨p, hp, hpe⟩ := List.mem_map.1 (h.perm.mem_iff.1 this)
  have h1 : enc p.1 = enc k := (congrArg Prod.fst hpe).trans hk
  have h2 : p.2 = e.val := congrArg Prod.snd hpe
  rw [← kl.inj h1, ← h2]
  exact hp
/-- What a search finds. -/
theorem find (h : MapIs enc es clk m) (kl : KeyT P kt enc) (w : World) (k : K) :
    (lookM m k = none ∧ (Instr.findKey kt (enc k) es.toList).run P w = .ok none w ∧ ∀ e ∈ es.toList, e.key ≠ enc k) ∨
    ∃ v j e, lookM m k = some v ∧ (Instr.findKey kt (enc k) es.toList).run P w = .ok (some (j, v)) w ∧ es[j]? = some e ∧ e.key = enc k ∧ e.val = v := by
  rcases kl.find w k es.toList h.keys with ⟨h1, h2⟩ | ⟨j, e, h1, h2, h3⟩
  · refine .inl ⟨lookM_none.2 fun p hp e => ?_, h1, h2⟩
    have : (enc p.1, p.2) ∈ es.toList.map fun e => (e.key, e.val) := h.perm.mem_iff.2 (List.mem_map.2 ⟨p, hp, rfl⟩)
    obtain ⟨x, hx, he⟩ := List.mem_map.1 this
    exact h2 x hx ((congrArg Prod.fst he).trans (by rw [e]))
  · refine .inr ⟨e.val, j, e, (lookM_some h.nodup).2 (h.mem kl (List.mem_of_getElem? h2) h3), h1, by simpa using h2, h3, rfl⟩
theorem lookup (h : MapIs enc es clk m) (kl : KeyT P kt enc) {T et : TypeId} (hT : P.underlying T = some (.map kt et)) {z : Value} (hz : ∀ w, (zeroValue et).run P w = .ok z w)
    {w : World} {b : Nat} (hb : w.heap[b]? = some (.map es clk)) (k : K) (ok : Bool) :
    (Instr.lookup T (.map (some b)) (enc k) ok).run P w = .ok (if ok then .tuple #[(lookM m k).getD z, .bool (lookM m k).isSome] else (lookM m k).getD z) w := by
  unfold Instr.lookup
  simp only [Sem.run_bind, run_underlying hT, Result.andThen_ok, MapKept.run_getObj_map hb, Sem.run_pure, kl.check]
  rcases h.find kl w k with ⟨h1, h2, _⟩ | ⟨v, j, e, h1, h2, _⟩
  · rw [h2, h1]
    simp only [Result.andThen_ok, Sem.run_bind, hz, Sem.run_pure]
    cases ok <;> simp
  · rw [h2, h1]
    simp only [Result.andThen_ok, Sem.run_bind, Sem.run_pure]
    cases ok <;> simp
open Classical in
theorem update (h : MapIs enc es clk m) (kl : KeyT P kt enc) {T et : TypeId} (hT : P.underlying T = some (.map kt et)) {w : World} {b : Nat} (hb : w.heap[b]? = some (.map es clk)) (k : K) (v : Value) :
    ∃ es' clk', (Instr.mapUpdate T (.map (some b)) (enc k) v).run P w = .ok () (w.putObj b (.map es' clk')) ∧ MapIs enc es' clk' (putM m k v) := by
  unfold Instr.mapUpdate
  simp only [Sem.run_bind, run_underlying hT, Result.andThen_ok, MapKept.run_getObj_map hb, kl.check]
  rcases h.find kl w k with ⟨h1, h2, h3⟩ | ⟨v0, j, e, h1, h2, h3, h4, h5⟩
  · refine ⟨es.push { key := enc k, val := v, born := clk }, clk + 1, ?_, MapKept.stamped_push h.st h3, ?_⟩
    · rw [h2]
      simp only [Result.andThen_ok, MapKept.run_setObj_map _ hb]
      rfl
    · unfold putM
      rw [h1]
      simp only [Array.toList_push, List.map_append, List.map_cons, List.map_nil]
      exact h.perm.append_right _
  · refine ⟨es.modify j fun e => { e with key := enc k, val := v }, clk, ?_, MapKept.stamped_modify h.st j _ (fun _ _ => rfl) (fun x _ hx => ?_), ?_⟩
    · rw [h2]
      simp only [Result.andThen_ok, Sem.run_bind, h3, Option.map_some, Option.getD_some, h4, kl.stays, MapKept.run_setObj_map _ hb]
      rfl
    · rw [h3] at hx; cases hx; exact h4.symm
    · unfold putM
      rw [h1]
      have e1 : (es.modify j fun e => { e with key := enc k, val := v }).toList.map (fun e => (e.key, e.val)) =
          (es.toList.map fun e => (e.key, e.val)).map fun q => if q.1 = enc k then (q.1, v) else q := by
        apply List.ext_getElem?
        intro i
        simp only [List.getElem?_map, Array.getElem?_toList, Array.getElem?_modify]
        by_cases hij : j = i
        · subst hij
          simp [h3, h4]
        · simp only [hij, if_false]
          cases hx : es[i]? with
          | none => rfl
          | some x =>
            have hne : x.key ≠ enc k := fun hk => hij (nodup_idx h.st.2.2 (x := enc k) (by simp [h3, h4]) (by simp [hx, hk]))
            simp [hne]
      have e2 : (m.map fun p => if p.1 = k then (p.1, v) else p).map (fun p => (enc p.1, p.2)) =
          (m.map fun p => (enc p.1, p.2)).map fun q => if q.1 = enc k then (q.1, v) else q := by
        rw [List.map_map, List.map_map]
        apply List.map_congr_left
        intro p _
        simp only [Function.comp_def]
        by_cases hp : p.1 = k
        · subst hp; simp
        · have : enc p.1 ≠ enc k := fun e => hp (kl.inj e)
          simp [hp, this]
      simp only [e1, e2]
      exact h.perm.map _
theorem len (h : MapIs enc es clk m) {w : World} {b : Nat} (hb : w.heap[b]? = some (.map es clk)) {T et : TypeId} (hT : P.underlying T = some (.map kt et)) (t : TypeId) :
    (Builtin.len_ #[T] t [Value.map (some b)].toArray).run P w = .ok (.int .i64 m.length) w := by
  simp [Builtin.len_, MapKept.run_getObj_map hb, h.size, goInt, run_underlying hT]
end MapIs
theorem run_len_slice {w : World} (p : Option Addr) (l c : Nat) {T et : TypeId} (hT : P.underlying T = some (.slice et)) (t : TypeId) : (Builtin.len_ #[T] t [Value.slice p l c].toArray).run P w = .ok (.int .i64 l) w := by
  simp [Builtin.len_, goInt, run_underlying hT]
/-- Keys that are numbers. -/
theorem keyT_int {k : IntKind} (hkt : P.underlying kt = some (.int k)) : KeyT P kt (fun x : Int => Value.int k x) where
  check w em x := MapKept.run_checkKey hkt (d := .int k) (by simp [MapKept.IsKey]) em 9999
  find w x es hes := by
    rcases MapKept.findNow_spec (d := .int k) (k := .int k x) (by simp [MapKept.IsKey]) es 0 (fun e he => by obtain ⟨y, hy⟩ := hes e he; rw [hy]; simp [MapKept.IsKey]) with ⟨h1, h2⟩ | ⟨j, e, h1, h2, h3⟩
    · exact .inl ⟨MapKept.run_findKey hkt h1, h2⟩
    · exact .inr ⟨j, e, MapKept.run_findKey hkt (by rw [h1]; simp), h2, h3⟩
  stays w x := by simp [Instr.keyThatStays, Instr.sameBits]
  inj h := by simpa using h
end Go.Fx
namespace Go.Fx
open Go
variable {P : Program} {w : World}
theorem run_range {T kt et : TypeId} (hT : P.underlying T = some (.map kt et)) {m : Nat} {es : Array MapEntry} {clk : Nat} (hm : w.heap[m]? = some (.map es clk)) :
    (Instr.range T (.map (some m))).run P w = .ok (.pointer (some (Addr.mk w.heap.size 0 none))) (w.alloc (.mapIter (some m) clk #[] clk)) := by
  simp [Instr.range, run_underlying hT, MapKept.run_getObj_map hm]
theorem run_entry {it m : Nat} {es : Array MapEntry} {clk s stamp : Nat} {seen : Array Nat} {e : MapEntry} (hi : w.heap[it]? = some (.mapIter (some m) s seen clk)) (hm : w.heap[m]? = some (.map es clk))
    (hs : seen.back? = some stamp) (he : es.find? (fun x => x.born == stamp) = some e) : (Instr.entry (.pointer (some (Addr.mk it 0 none)))).run P w = .ok (.tuple #[e.key, e.val]) w := by
  have h1 : (getObj it).run P w = .ok (.mapIter (some m) s seen clk) w := by simp [getObj, Sem.run, hi]
  simp [Instr.entry, h1, hs, MapKept.run_getObj_map hm, he]

theorem guard_false {es : Array MapEntry} {clk : Nat} {seen : Array Nat} (hst : MapKept.Stamped es clk) : (!seen.isEmpty && !es.isEmpty && es.all (fun x => decide (x.born ≥ clk))) = false := by
  by_cases he : es.isEmpty = true
  · simp [he]
  · have : es.all (fun x => decide (x.born ≥ clk)) = false := by
      cases hes : es.toList with
      | nil => simp at hes; simp [hes] at he
      | cons x r =>
        have hx := hst.1 x (by rw [hes]; simp)
        rw [← Array.all_toList, hes]
        simp; omega
    simp [this]
/-- One step: what is left, by the entries' numbers. -/
theorem run_next {it m : Nat} {es : Array MapEntry} {clk : Nat} {seen : Array Nat} (hi : w.heap[it]? = some (.mapIter (some m) clk seen clk)) (hm : w.heap[m]? = some (.map es clk)) (hst : MapKept.Stamped es clk)
    {left : Array MapEntry} (hleft : (es.filter fun e => !seen.contains e.born) = left) (hold : (left.filter fun e => decide (e.born < clk)) = left) (hnew : (left.filter fun e => decide (e.born ≥ clk)) = #[]) :
    (Instr.next (.pointer (some (Addr.mk it 0 none))) false 0).run P w = (do
      match ((if left.isEmpty then #[none] else #[]) ++ left.map some)[← choose (.mapNext ((if left.isEmpty then #[none] else #[]) ++ left.map some).size)]? with
      | some (some e) => do
        setObj it (.mapIter (some m) clk (seen.push e.born) clk)
        pure (.tuple #[.bool true, e.key, e.val])
      | some none => pure (.tuple #[.bool false])
      | none => stuck "Next: no such candidate" : Sem Value).run P w := by
  have h1 : (getObj it).run P w = .ok (.mapIter (some m) clk seen clk) w := by simp [getObj, Sem.run, hi]
  unfold Instr.next
  simp only [Sem.run_bind, h1, Result.andThen_ok, MapKept.run_getObj_map hm, guard_false hst, Bool.false_eq_true, if_false, hleft, hold, hnew, Array.append_empty]
  rfl
theorem run_next_over {it m : Nat} {es : Array MapEntry} {clk : Nat} {seen : Array Nat} (hi : w.heap[it]? = some (.mapIter (some m) clk seen clk)) (hm : w.heap[m]? = some (.map es clk)) (hst : MapKept.Stamped es clk)
    (hleft : (es.filter fun e => !seen.contains e.born) = #[]) : (Instr.next (.pointer (some (Addr.mk it 0 none))) false 0).run P w = .ok (.tuple #[.bool false]) w := by
  rw [run_next hi hm hst hleft (by simp) (by simp)]
  simp [Question.forced]
theorem run_next_some {it m : Nat} {es : Array MapEntry} {clk : Nat} {seen : Array Nat} (hi : w.heap[it]? = some (.mapIter (some m) clk seen clk)) (hm : w.heap[m]? = some (.map es clk)) (hst : MapKept.Stamped es clk)
    (hne : (es.filter fun e => !seen.contains e.born) ≠ #[]) : ∃ (e : MapEntry) (w1 : World), e ∈ es.toList ∧ e.born ∉ seen.toList ∧ w1.heap = w.heap ∧ Kept w w1 ∧
      (Instr.next (.pointer (some (Addr.mk it 0 none))) false 0).run P w = .ok (.tuple #[.bool true, e.key, e.val]) (w1.putObj it (.mapIter (some m) clk (seen.push e.born) clk)) := by
  generalize hl : (es.filter fun e => !seen.contains e.born) = left at hne
  have hmem : ∀ e ∈ left.toList, e ∈ es.toList ∧ e.born ∉ seen.toList := fun e he => by
    rw [← hl] at he
    simp at he
    exact ⟨by simpa using he.1, by simpa using he.2⟩
  have hb : ∀ e ∈ left.toList, e.born < clk := fun e he => hst.1 e (hmem e he).1
  rw [run_next hi hm hst hl (by rw [Array.filter_eq_self]; intro e he; simpa using hb e (by simpa using he)) (by rw [Array.filter_eq_empty_iff]; intro e he; have := hb e (by simpa using he); simp; omega)]
  have hemp : left.isEmpty = false := by simpa using hne
  have hpos : 0 < left.size := Array.size_pos_iff.2 hne
  have hch : ∃ (j : Nat) (w1 : World), j < left.size ∧ w1.heap = w.heap ∧ Kept w w1 ∧ (choose (.mapNext left.size)).run P w = .ok j w1 := by
    rw [run_choose_drew]
    by_cases hf : (Question.mapNext left.size).forced = true
    · exact ⟨0, w, hpos, rfl, ⟨rfl, rfl, rfl⟩, by rw [if_pos hf]⟩
    · exact ⟨_, w.drew, Nat.mod_lt _ hpos, rfl, ⟨rfl, rfl, rfl⟩, by rw [if_neg hf]; rfl⟩
  obtain ⟨j, w1, hj, hw, hkept, hr⟩ := hch
  have hi1 : w1.heap[it]? = some (.mapIter (some m) clk seen clk) := by rw [hw]; exact hi
  refine ⟨left[j], w1, (hmem _ (by simp)).1, (hmem _ (by simp)).2, hw, hkept, ?_⟩
  have hset : ∀ o, (setObj it o).run P w1 = .ok () (w1.putObj it o) := fun o => by simp [setObj, Sem.run, hi1, World.putObj]
  simp only [hemp, Bool.false_eq_true, if_false, Array.empty_append, Array.size_map, Sem.run_bind, hr, Result.andThen_ok, Array.getElem?_map, Array.getElem?_eq_getElem hj, Option.map_some, hset, Sem.run_pure]
/-- The entries met, and those that are left. -/
structure Vis (es : Array MapEntry) (vis rem : List MapEntry) (seen : Array Nat) : Prop where
  perm : es.toList.Perm (vis ++ rem)
  seen : seen.toList = vis.map (·.born)
theorem Vis.start (es : Array MapEntry) : Vis es [] es.toList #[] := ⟨.refl _, rfl⟩
theorem Vis.over {es : Array MapEntry} {vis : List MapEntry} {seen : Array Nat} (h : Vis es vis [] seen) : (es.filter fun e => !seen.contains e.born) = #[] := by
  rw [Array.filter_eq_empty_iff]
  intro e he
  have h1 : e ∈ vis := by have := h.perm.mem_iff.1 (show e ∈ es.toList by simpa using he); simpa using this
  have h2 : e.born ∈ seen.toList := by rw [h.seen]; exact List.mem_map.2 ⟨e, h1, rfl⟩
  simp
  simpa using h2
theorem Vis.more {es : Array MapEntry} {clk : Nat} {vis rem : List MapEntry} {seen : Array Nat} (h : Vis es vis rem seen) (hst : MapKept.Stamped es clk) (hr : rem ≠ []) : (es.filter fun e => !seen.contains e.born) ≠ #[] := by
  obtain ⟨e, r, rfl⟩ := List.exists_cons_of_ne_nil hr
  intro hc
  rw [Array.filter_eq_empty_iff] at hc
  have he : e ∈ es.toList := h.perm.mem_iff.2 (by simp)
  have := hc e (show e ∈ es by simpa using he)
  have hin : e.born ∈ seen.toList := by simp at this; simpa using this
  rw [h.seen] at hin
  have hnd : ((vis ++ e :: r).map (·.born)).Nodup := (h.perm.map _).nodup_iff.1 hst.2.1
  rw [List.map_append] at hnd
  exact (List.nodup_append.1 hnd).2.2 _ hin _ (by simp) rfl
theorem Vis.step {es : Array MapEntry} {vis rem : List MapEntry} {seen : Array Nat} (h : Vis es vis rem seen) {e : MapEntry} (he : e ∈ es.toList) (hn : e.born ∉ seen.toList) :
    ∃ rem', rem.length = rem'.length + 1 ∧ Vis es (vis ++ [e]) rem' (seen.push e.born) := by
  have h1 : e ∈ rem := by
    have := h.perm.mem_iff.1 he
    rcases List.mem_append.1 this with hv | hv
    · exact absurd (by rw [h.seen]; exact List.mem_map.2 ⟨e, hv, rfl⟩) hn
    · exact hv
  obtain ⟨a, b, rfl⟩ := List.append_of_mem h1
  refine ⟨a ++ b, by simp; omega, ?_, by simp [h.seen]⟩
  refine h.perm.trans ?_
  rw [List.append_assoc]
  exact List.Perm.append_left vis List.perm_middle
theorem find_born {es : Array MapEntry} {clk : Nat} (hst : MapKept.Stamped es clk) {e : MapEntry} (he : e ∈ es.toList) : es.find? (fun x => x.born == e.born) = some e := by
  cases hf : es.find? (fun x => x.born == e.born) with
  | none =>
    rw [Array.find?_eq_none] at hf
    have := hf e (by simpa using he)
    simp at this
  | some x =>
    have h1 := Array.find?_some hf
    have h2 := Array.mem_of_find?_eq_some hf
    have h1 : x.born = e.born := by simpa using h1
    obtain ⟨i, hi⟩ := List.mem_iff_getElem?.1 (show x ∈ es.toList by simpa using h2)
    obtain ⟨j, hj⟩ := List.mem_iff_getElem?.1 he
    have : i = j := nodup_idx hst.2.1 (x := e.born) (by rw [List.getElem?_map, hi]; simp [h1]) (by rw [List.getElem?_map, hj]; rfl)
    subst this
    rw [hi] at hj
    exact hj
end Go.Fx
