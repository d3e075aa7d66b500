/- The sort of races and the law's small functions. -/
import Derived.Test.YtamciedmojpjaaaGj
import Derived.Sort.Grow
import Derived.Deep.Draws
import Derived.Shelf.SlSortCmp.WholeK
import Derived.Test.YtamciedmojpjaaaProg
import Derived.KernelRfl
import Derived.Shelf.SlSortCmp.NoneTotal
import Derived.Test.YtamciedmojpjaaaGg
import Derived.Test.YtamciedmojpjaaaGb
namespace Go.Fx.Try
open Go Go.Fx Go.Fx.Mo
open Go.Proofs
open Go.Sort (grow grow_grow alloc_eq_grow)
variable {w0 w : World} {H : List (Nat × Obj)} {K : Value → World → Prop}
set_option maxRecDepth 20000
def cmpI (x y : Int) : Int := if x < y then -1 else if x > y then 1 else 0
def orI (a b : Int) : Int := if a ≠ 0 then a else b
theorem isnan51 (x : Int) (hK : K (.bool false) w) : CallL P 51 [.int .i64 x] w K := by
  refine f51_ok _ _ _ ?_
  rw [f51_eq]
  simpa using hK
theorem isnan52 (x : Int) (hK : K (.bool false) w) : CallL P 52 [.int .u32 x] w K := by
  refine f52_ok _ _ _ ?_
  rw [f52_eq]
  simpa using hK
theorem cmp24 (x y : Int) (hK : K (.int .i64 (cmpI x y)) w) : CallL P 24 [.int .i64 x, .int .i64 y] w K := by
  refine f24_ok _ _ _ _ ?_
  rw [f24_eq]
  refine isnan51 x ⟨_, rfl, isnan51 y ⟨_, rfl, ?_⟩⟩
  rw [BIf_false, f24_s1_eq, BIf_false, f24_s2_eq, f24_s3_eq, f24_s4_eq]
  unfold cmpI at hK
  simp only [BIf_iff]
  split at hK
  · rename_i h; simp [h]; exact hK
  · rename_i h
    split at hK
    · rename_i h'; simp [h, h']; exact hK
    · rename_i h'; simp [h, h']; exact hK
theorem cmp25 (x y : Int) (hK : K (.int .i64 (cmpI x y)) w) : CallL P 25 [.int .u32 x, .int .u32 y] w K := by
  refine f25_ok _ _ _ _ ?_
  rw [f25_eq]
  refine isnan52 x ⟨_, rfl, isnan52 y ⟨_, rfl, ?_⟩⟩
  rw [BIf_false, f25_s1_eq, BIf_false, f25_s2_eq, f25_s3_eq, f25_s4_eq]
  unfold cmpI at hK
  simp only [BIf_iff]
  split at hK
  · rename_i h; simp [h]; exact hK
  · rename_i h
    split at hK
    · rename_i h'; simp [h, h']; exact hK
    · rename_i h'; simp [h, h']; exact hK
theorem run_len_39 {p : Option Addr} {l c : Nat} (wq : World) : (Builtin.len_ #[39] 3 [Value.slice p l c].toArray).run P wq = .ok (.int .i64 l) wq := run_len_slice p l c Try.underlying39 3
theorem or23 {b : Nat} {a c : Int} {t : TypeId} (h : w.heap[b]? = some (Cs [I64 a, I64 c] t)) (hK : K (.int .i64 (orI a c)) w) : CallL P 23 [.slice (some (Addr.mk b 0 none)) 2 2] w K := by
  refine f23_ok _ _ _ _ _ ?_
  rw [f23_eq]
  refine ⟨2, fun wq _ => run_len_39 wq, ?_⟩
  refine ⟨fun m ee w' => w' = w ∧ ∃ i : Nat, i ≤ 2 ∧ m = 2 - i ∧ ee = Env.mk 18 [(3, (Value.int .i64 0)), (8, (Value.int .i64 i)), (6, (Value.slice (some (Addr.mk b 0 none)) 2 2)), (2, (Value.int .i64 0)), (7, (Value.int .i64 2))] [] ∧ ∀ j, j < i → [a, c][j]? = some 0, ⟨2, rfl, 0, by omega, rfl, rfl, by intro j hj; omega⟩, ?_⟩
  rintro m ee w' ⟨rfl, i, hi, rfl, rfl, hz⟩
  show f23_lb0 _ _ _ _ _ _ _ _ _ _
  rw [f23_lb0_eq, BIf_iff]
  constructor
  · intro hlt
    have hlt : i < 2 := by simp at hlt; omega
    rw [f23_s1_eq]
    refine ⟨by omega, by omega, [a, c].getD i 0, ?_, ?_⟩
    · rw [add_lit', cell_of h, Int.toNat_natCast]
      rcases i with _ | _ | i
      · rfl
      · rfl
      · omega
    rw [BIf_iff]
    constructor
    · intro hne
      have hne : [a, c].getD i 0 ≠ 0 := by simpa using hne
      have : [a, c].getD i 0 = orI a c := by
        rcases i with _ | _ | i
        · simp at hne; simp [orI, hne]
        · have := hz 0 (by omega)
          simp at this
          simp [orI, this]
        · omega
      rw [this]
      exact hK
    · intro heq
      have heq : [a, c].getD i 0 = 0 := by simpa using heq
      rw [f23_s2_eq]
      refine ⟨2 - (i + 1), by omega, rfl, i + 1, by omega, rfl, ?_, ?_⟩
      · rw [wrap_i64 (by omega) (by omega)]; rfl
      · intro j hj
        by_cases hji : j < i
        · exact hz j hji
        · have : j = i := by omega
          subst this
          rcases j with _ | _ | j
          · simpa using heq
          · simpa using heq
          · omega
  · intro hge
    have : i = 2 := by simp at hge; omega
    subst this
    rw [f23_s3_eq]
    have h0 := hz 0 (by omega)
    have h1 := hz 1 (by omega)
    simp at h0 h1
    have : orI a c = 0 := by simp [orI, h0, h1]
    rw [this] at hK
    exact hK
def cfR (a b : Mo.Race) : Int := orI (cmpI a.second.ev b.second.ev) (cmpI a.byte b.byte)
theorem drew_alloc (w : World) (o : Obj) : (w.alloc o).drew = (w.drewN 1).alloc o := rfl
theorem cmp_world (w : World) (A B C : Obj) : (((w.alloc A).alloc B).drew).alloc C = grow (w.drewN 1) #[A, B, C] := by
  have e : ∀ (w : World) (o : Obj), w.alloc o = grow w #[o] := alloc_eq_grow
  rw [e, e, e]
  have : ∀ (w : World) (os : Array Obj), (grow w os).drew = grow (w.drewN 1) os := fun _ _ => rfl
  have t2 : ∀ (w : World) (os : Array Obj), (grow w os).drewN 1 = grow (w.drewN 1) os := fun _ _ => rfl
  rw [this, t2, grow_grow, grow_grow]
  rfl
theorem cmp_tail {a b : Mo.Race} {K : Value → World → Prop} (w : World)
    (hK : ∀ C, K (.int .i64 (cfR a b)) ((((w.alloc (Cs (Racecs a) 47)).alloc (Cs (Racecs b) 47)).drew).alloc C)) :
    sizesAre 1 [(Value.int .i64 (cmpI a.second.ev b.second.ev)), (Value.int .i64 (cmpI a.byte b.byte))] ∧ NewC (([(Value.int .i64 (cmpI a.second.ev b.second.ev)), (Value.int .i64 (cmpI a.byte b.byte))].map fun (v : Value) => v.cells.toList).flatten.toArray) 3 (((w.alloc (Cs (Racecs a) 47)).alloc (Cs (Racecs b) 47)).drew)
      (fun n19 w17 => CallL P 23 [(Value.slice (some (Addr.mk n19 0 none)) 2 2)] w17 (fun r20 w21 => ∃ x22 : Int, r20 = (Value.int .i64 x22) ∧ K (Value.int .i64 x22) w21)) := by
  refine ⟨⟨rfl, rfl, trivial⟩, ?_⟩
  refine or23 (a := cmpI a.second.ev b.second.ev) (c := cmpI a.byte b.byte) (t := 3) ?_ ⟨_, rfl, hK _⟩
  rw [alloc_heap, Array.getElem?_push]
  simp [Cs, Value.cells]
theorem cells_two (w : World) (a b : Mo.Race) (i : Nat) :
    (((w.alloc (Cs (Racecs a) 47)).alloc (Cs (Racecs b) 47)).drew).cell? (Addr.mk w.heap.size i none) = (Racecs a)[i]? ∧
    (((w.alloc (Cs (Racecs a) 47)).alloc (Cs (Racecs b) 47)).drew).cell? (Addr.mk (w.alloc (Cs (Racecs a) 47)).heap.size i none) = (Racecs b)[i]? := by
  have hs := ((St.refl w).alloc (Cs (Racecs a) 47)).alloc (Cs (Racecs b) 47) |>.drew
  exact ⟨hs.cell (k := 1) rfl, hs.cell (k := 0) rfl⟩
theorem cmp48 (a b : Mo.Race) (hK : ∀ w', (∃ q os, w' = grow (w.drewN q) os) → K (.int .i64 (cfR a b)) w') : CallL P 48 [.agg (Racecs a).toArray, .agg (Racecs b).toArray] w K := by
  refine f48_ok _ _ _ _ ?_
  have hc := cells_two w a b
  have hK' : ∀ C, K (.int .i64 (cfR a b)) ((((w.alloc (Cs (Racecs a) 47)).alloc (Cs (Racecs b) 47)).drew).alloc C) := fun C => hK _ ⟨1, _, cmp_world w _ _ C⟩
  have ht := cmp_tail (a := a) (b := b) (K := K) w hK'
  rw [f48_eq]
  simp only [f48_s0_eq]
  have a0 : (((w.alloc (Cs (Racecs a) 47)).alloc (Cs (Racecs b) 47)).drew).cell? (Addr.mk w.heap.size 0 none) = some (Value.int .u32 a.byte) := (hc 0).1
  have b0 : (((w.alloc (Cs (Racecs a) 47)).alloc (Cs (Racecs b) 47)).drew).cell? (Addr.mk (w.alloc (Cs (Racecs a) 47)).heap.size 0 none) = some (Value.int .u32 b.byte) := (hc 0).2
  exact ⟨a.second.ev, (hc 6).1, b.second.ev, (hc 6).2, cmp24 _ _ ⟨_, rfl, a.byte, a0, b.byte, b0, cmp25 _ _ ⟨_, rfl, ht⟩⟩,
    ⟨a.byte, a0, cmp24 _ _ ⟨_, rfl, b.byte, b0, cmp25 _ _ ⟨_, rfl, ht⟩⟩, b.byte, b0, cmp24 _ _ ⟨_, rfl, cmp25 _ _ ⟨_, rfl, ht⟩⟩⟩,
    b.byte, b0, cmp24 _ _ ⟨_, rfl, a.byte, a0, cmp25 _ _ ⟨_, rfl, ht⟩⟩, a.byte, a0, cmp24 _ _ ⟨_, rfl, cmp25 _ _ ⟨_, rfl, ht⟩⟩⟩
theorem cmp46 (a b : Mo.Race) (hK : ∀ w', (∃ q os, w' = grow (w.drewN q) os) → K (.int .i64 (cfR a b)) w') : CallL P 46 [.agg (Racecs a).toArray, .agg (Racecs b).toArray] w K := by
  refine f46_ok _ _ _ _ ?_
  have hc := cells_two w a b
  have hK' : ∀ C, K (.int .i64 (cfR a b)) ((((w.alloc (Cs (Racecs a) 47)).alloc (Cs (Racecs b) 47)).drew).alloc C) := fun C => hK _ ⟨1, _, cmp_world w _ _ C⟩
  have ht := cmp_tail (a := a) (b := b) (K := K) w hK'
  rw [f46_eq]
  simp only [f46_s0_eq]
  have a0 : (((w.alloc (Cs (Racecs a) 47)).alloc (Cs (Racecs b) 47)).drew).cell? (Addr.mk w.heap.size 0 none) = some (Value.int .u32 a.byte) := (hc 0).1
  have b0 : (((w.alloc (Cs (Racecs a) 47)).alloc (Cs (Racecs b) 47)).drew).cell? (Addr.mk (w.alloc (Cs (Racecs a) 47)).heap.size 0 none) = some (Value.int .u32 b.byte) := (hc 0).2
  exact ⟨a.second.ev, (hc 6).1, b.second.ev, (hc 6).2, cmp24 _ _ ⟨_, rfl, a.byte, a0, b.byte, b0, cmp25 _ _ ⟨_, rfl, ht⟩⟩,
    ⟨a.byte, a0, cmp24 _ _ ⟨_, rfl, b.byte, b0, cmp25 _ _ ⟨_, rfl, ht⟩⟩, b.byte, b0, cmp24 _ _ ⟨_, rfl, cmp25 _ _ ⟨_, rfl, ht⟩⟩⟩,
    b.byte, b0, cmp24 _ _ ⟨_, rfl, a.byte, a0, cmp25 _ _ ⟨_, rfl, ht⟩⟩, a.byte, a0, cmp24 _ _ ⟨_, rfl, cmp25 _ _ ⟨_, rfl, ht⟩⟩⟩
end Go.Fx.Try
namespace Go.Fx.Try
open Go Go.Fx Go.Fx.Mo
open Go.Proofs
variable {w0 w : World} {H : List (Nat × Obj)} {K : Value → World → Prop}
set_option maxRecDepth 20000
theorem bs0 (w : World) : (Instr.buildSlice 81 0 ([] : List (Nat × Value)).toArray).run P w = .ok (.slice (some ⟨w.heap.size, 0, none⟩) 0 0) (w.alloc (.cells #[] 85 (0, 0))) := by kernel_rfl
theorem fieldsOf45 : P.fieldsOf 45 = #[{ name := "Event", type := 3, offset := 0, embedded := false, tag := "", pkgPath := "", byteOffset := 0 },
        { name := "Thread", type := 3, offset := 1, embedded := false, tag := "", pkgPath := "", byteOffset := 8 },
        { name := "PC", type := 33, offset := 2, embedded := false, tag := "", pkgPath := "", byteOffset := 16 },
        { name := "Store", type := 4, offset := 3, embedded := false, tag := "", pkgPath := "", byteOffset := 20 },
        { name := "Atomic", type := 4, offset := 4, embedded := false, tag := "", pkgPath := "", byteOffset := 21 }] := by kernel_rfl
theorem fieldsOf47 : P.fieldsOf 47 = #[{ name := "At", type := 33, offset := 0, embedded := false, tag := "", pkgPath := "", byteOffset := 0 },
        { name := "First", type := 45, offset := 1, embedded := false, tag := "", pkgPath := "", byteOffset := 8 },
        { name := "Second", type := 45, offset := 6, embedded := false, tag := "", pkgPath := "", byteOffset := 32 }] := by kernel_rfl
theorem eq45 (w : World) (d : Nat) (a : Mo.Acc) : (Op.equalIn (d + 2) 45 (.agg (Acccs a).toArray) (.agg (Acccs a).toArray)).run P w = .ok true w := by
  have h3 : ∀ d x, (Op.equalIn (d + 1) 3 (.int .i64 x) (.int .i64 x)).run P w = .ok true w := fun d x => by simp [Op.equalIn, run_underlying Try.underlying3]
  have h4 : ∀ d x, (Op.equalIn (d + 1) 4 (.bool x) (.bool x)).run P w = .ok true w := fun d x => by simp [Op.equalIn, run_underlying Try.underlying4]
  have h33 : ∀ d x, (Op.equalIn (d + 1) 33 (.int .u32 x) (.int .u32 x)).run P w = .ok true w := fun d x => by simp [Op.equalIn, run_underlying Try.underlying33]
  obtain ⟨a0, a1, a2, a3, a4⟩ := a
  rw [run_equalIn_struct w (d + 1) 45 _ _ (by rw [fieldsOf45]; exact Try.underlying45) Try.stoodInHeld45, fieldsOf45]
  have p0 : (part 3 #[I64 a0, I64 a1, U32 a2, .bool a3, .bool a4] 0).run P w = .ok (I64 a0) w := by kernel_rfl
  have p1 : (part 3 #[I64 a0, I64 a1, U32 a2, .bool a3, .bool a4] 1).run P w = .ok (I64 a1) w := by kernel_rfl
  have p2 : (part 33 #[I64 a0, I64 a1, U32 a2, .bool a3, .bool a4] 2).run P w = .ok (U32 a2) w := by kernel_rfl
  have p3 : (part 4 #[I64 a0, I64 a1, U32 a2, .bool a3, .bool a4] 3).run P w = .ok (.bool a3) w := by kernel_rfl
  have p4 : (part 4 #[I64 a0, I64 a1, U32 a2, .bool a3, .bool a4] 4).run P w = .ok (.bool a4) w := by kernel_rfl
  simp [Op.eqFields, Acccs, p0, p1, p2, p3, p4, h3, h4, h33]
theorem part47 (w : World) (r : Mo.Race) : (part 33 (Racecs r).toArray 0).run P w = .ok (U32 r.byte) w ∧ (part 45 (Racecs r).toArray 1).run P w = .ok (.agg (Acccs r.first).toArray) w ∧ (part 45 (Racecs r).toArray 6).run P w = .ok (.agg (Acccs r.second).toArray) w := by
  obtain ⟨b, ⟨a0, a1, a2, a3, a4⟩, ⟨b0, b1, b2, b3, b4⟩⟩ := r
  exact ⟨by kernel_rfl, by kernel_rfl, by kernel_rfl⟩
theorem eq47 (w : World) (r : Mo.Race) : (do eqGuard .neq 47 (.tmp 20) (.tmp 24) (.agg (Racecs r).toArray) (.agg (Racecs r).toArray); binOp .neq 47 (.agg (Racecs r).toArray) (.agg (Racecs r).toArray) : Sem Value).run P w = .ok (.bool false) w := by
  have h33 : ∀ d x, (Op.equalIn (d + 1) 33 (.int .u32 x) (.int .u32 x)).run P w = .ok true w := fun d x => by simp [Op.equalIn, run_underlying Try.underlying33]
  have hm : ∃ d, Op.maxDepth = d + 4 := ⟨_, rfl⟩
  obtain ⟨d, hd⟩ := hm
  obtain ⟨p0, p1, p2⟩ := part47 w r
  have he : (Op.equal 47 (.agg (Racecs r).toArray) (.agg (Racecs r).toArray)).run P w = .ok true w := by
    unfold Op.equal
    rw [hd, run_equalIn_struct w (d + 3) 47 _ _ (by rw [fieldsOf47]; exact Try.underlying47) Try.stoodInHeld47, fieldsOf47]
    simp [Op.eqFields, p0, p1, p2, h33, eq45 w (d + 1)]
  simp [eqGuard, binOp, he, Try.eqGuardType47]

theorem run_min (a b : Int) (wq : World) : (Builtin.min_ #[3, 3] 3 [Value.int .i64 a, Value.int .i64 b].toArray).run P wq = .ok (.int .i64 (if b < a then b else a)) wq := by
  simp [Builtin.min_, Builtin.min2]
theorem bytesOf_ok {l : List Ev} {ov : Value} (h : St w0 w H) (hrow : ∀ w', St w0 w' H → Row w' 6 ov l.length (evsCs l)) (hl63 : l.length < 9223372036854775807) (hK : ∀ x w', St w0 w' H → K (.int .i64 x) w') : CallL P 14 [ov] w K := by
  obtain ⟨sa, sc, hov⟩ := (hrow w h).form
  rw [hov]
  refine f14_ok _ _ _ _ _ ?_
  rw [f14_eq]
  refine ⟨l.length, fun wq _ => run_len_22 wq, ?_⟩
  refine ⟨fun m ee w => ∃ (i : Nat) (s : Int), i ≤ l.length ∧ m = l.length - i ∧ ee = Env.mk 30 [(8, (Value.int .i64 i)), (3, (Value.int .i64 s)), (6, (Value.slice sa l.length sc)), (2, (Value.int .i64 0)), (7, (Value.int .i64 l.length))] [] ∧ St w0 w H,
    ⟨l.length, 0, 0, by omega, rfl, rfl, h⟩, ?_⟩
  rintro m ee w ⟨i, s, hi, rfl, rfl, hw⟩
  show f14_lb0 _ _ _ _ _ _ _ _ _ _
  rw [f14_lb0_eq, BIf_iff]
  constructor
  · intro hlt
    have hlt : i < l.length := by simpa using hlt
    rw [f14_s1_eq]
    obtain ⟨a, c, hac, hld⟩ := (hrow w hw).ldA hlt
    rw [hov] at hac
    obtain ⟨hsa, -⟩ : sa = some a ∧ sc = c := by simpa using hac
    subst hsa
    refine ⟨by omega, by omega, hld _ ?_⟩
    rw [evs_at hlt]
    obtain ⟨ze, hze, hzel⟩ := z35
    rw [hze]
    refine hw.newC fun n14 w6 hn14 h6 => h6.stA (k := 0) rfl (by simp [Evcs_len]) (by simp [hzel]) (Evcs_one _) fun w7 h7 => ?_
    have h7 : St w0 w7 ((n14, Cs (splice ze 0 (Evcs l[i])) 35) :: H) := h7
    rw [splice_whole (by rw [Evcs_len, hzel])] at h7
    have s2 : ∀ b, f14_s2 b (some a) l.length sc 0 l.length i (Addr.mk n14 0 none) s w7 K (fun e' w' => ∃ m, m < l.length - i ∧ ∃ (i : Nat) (s : Int), i ≤ l.length ∧ m = l.length - i ∧ e' = Env.mk 30 [(8, (Value.int .i64 i)), (3, (Value.int .i64 s)), (6, (Value.slice (some a) l.length sc)), (2, (Value.int .i64 0)), (7, (Value.int .i64 l.length))] [] ∧ St w0 w' H) := by
      intro b
      have fin : ∀ x, f14_s3 x (some a) l.length sc 0 l.length i w7 K (fun e' w' => ∃ m, m < l.length - i ∧ ∃ (i : Nat) (s : Int), i ≤ l.length ∧ m = l.length - i ∧ e' = Env.mk 30 [(8, (Value.int .i64 i)), (3, (Value.int .i64 s)), (6, (Value.slice (some a) l.length sc)), (2, (Value.int .i64 0)), (7, (Value.int .i64 l.length))] [] ∧ St w0 w' H) := fun x => by
        rw [f14_s3_eq]
        refine ⟨l.length - (i + 1), by omega, i + 1, x, by omega, rfl, ?_, h7.tail hn14⟩
        rw [wrap_i64 (by omega) (by omega)]; rfl
      have c5 : w7.cell? ((Addr.mk n14 0 none).add 5) = some (I64 l[i].n) := by rw [add_lit', h7.cell (k := 0) rfl]; rfl
      rw [f14_s2_eq, BIf_iff]
      refine ⟨fun _ => ⟨_, c5, ?_⟩, fun _ => fin _⟩
      rw [BIf_iff]
      exact ⟨fun _ => ⟨_, c5, _, w7, run_min _ _ _, fin _⟩, fun _ => fin _⟩
    refine ⟨l[i].kind, by rw [h7.cell (k := 0) rfl]; rfl, ?_⟩
    simp only [BIf_iff]
    exact ⟨fun _ => s2 _, fun _ => ⟨fun _ => s2 _, fun _ => ⟨fun _ => s2 _, fun _ => ⟨fun _ => s2 _, fun _ => s2 _⟩⟩⟩⟩
  · intro hge
    rw [f14_s4_eq]
    exact hK _ w hw
theorem races_at {l : List Mo.Race} {i : Nat} (hi : i < l.length) : ((racesCs l).drop (i * 11)).take 11 = Racecs l[i] := flat_slice (f := Racecs) (fun x _ => Racecs_len x) hi
/-- Two slices that read the same races. -/
theorem same_ok {l : List Mo.Race} {av bv : Value} (h : St w0 w H) (ha : ∀ w', St w0 w' H → Row w' 11 av l.length (racesCs l)) (hb : ∀ w', St w0 w' H → Row w' 11 bv l.length (racesCs l)) (hl63 : l.length < 9223372036854775807)
    (hK : ∀ w', St w0 w' H → K (.bool true) w') : CallL P 17 [av, bv] w K := by
  obtain ⟨a1, a2, hav⟩ := (ha w h).form
  obtain ⟨b1, b2, hbv⟩ := (hb w h).form
  rw [hav, hbv]
  refine f17_ok _ _ _ _ _ _ _ _ ?_
  rw [f17_eq]
  refine ⟨l.length, fun wq _ => run_len_25 wq, l.length, fun wq _ => run_len_25 wq, ?_⟩
  rw [show ((l.length : Int) != (l.length : Int)) = false by simp, BIf_false, f17_s0_eq]
  refine ⟨fun m ee w => ∃ (i : Nat), i ≤ l.length ∧ m = l.length - i ∧ ee = Env.mk 26 [(5, (Value.int .i64 i)), (1, (Value.slice b1 l.length b2)), (0, (Value.slice a1 l.length a2)), (4, (Value.bool false))] [] ∧ St w0 w H,
    ⟨l.length, 0, by omega, rfl, rfl, h⟩, ?_⟩
  rintro m ee w ⟨i, hi, rfl, rfl, hw⟩
  show f17_lb1 _ _ _ _ _ _ _ _ _ _ _
  rw [f17_lb1_eq]
  refine ⟨l.length, fun wq _ => run_len_25 wq, ?_⟩
  rw [BIf_iff]
  constructor
  · intro hlt
    have hlt : i < l.length := by simpa using hlt
    rw [f17_s2_eq]
    have hd := hw.drew
    obtain ⟨a, c, hac, hld⟩ := (ha _ hd).ldA hlt
    rw [hav] at hac
    obtain ⟨hsa, -⟩ : a1 = some a ∧ a2 = c := by simpa using hac
    subst hsa
    obtain ⟨b, c', hbc, hldb⟩ := (hb _ hd).ldA hlt
    rw [hbv] at hbc
    obtain ⟨hsb, -⟩ : b1 = some b ∧ b2 = c' := by simpa using hbc
    subst hsb
    refine ⟨by omega, by omega, by omega, by omega, hld _ (hldb _ ?_)⟩
    rw [races_at hlt]
    refine ⟨_, fun wq => eq47 wq l[i], ?_⟩
    rw [BIf_false, f17_s3_eq]
    refine ⟨l.length - (i + 1), by omega, i + 1, by omega, rfl, ?_, hd⟩
    rw [wrap_i64 (by omega) (by omega)]; rfl
  · intro hge
    rw [f17_s4_eq]
    exact hK w hw
/-- The first races, as the law tells them. -/
def triple (r : Mo.Race) : List Int := [w64 r.byte, r.first.ev, r.second.ev]
def triplesCs (l : List Mo.Race) : List Value := (l.map fun r => (triple r).map I64).flatten
theorem build85 (a b c : Int) (wq : World) : (Instr.build 85 [(0, (Value.int .i64 a)), (1, (Value.int .i64 b)), (2, (Value.int .i64 c))].toArray).run P wq = .ok (.agg #[I64 a, I64 b, I64 c]) wq := by kernel_rfl
theorem info85 : P.info? 85 = some Try.t85 := by kernel_rfl
theorem firsts_ok (hsort : SortOk w0 48) {l : List Ev} {ov : Value} (h : St w0 w H) (hrow : ∀ w', St w0 w' H → Row w' 6 ov l.length (evsCs l)) (hl63 : l.length < 9223372036854775807)
    (herr : ∀ x, Mo.races l = .inr x → ∀ w' rv Lo, SlO 3 85 rv 0 [] Lo → New w0 Lo → St w0 w' (Lo ++ H) → K (.tuple [rv, .bool false].toArray) w')
    (hok : ∀ out, Mo.races l = .inl out → out.length < 2000000000 → ∀ w' rv Lo, SlO 3 85 rv out.length (triplesCs out) Lo → New w0 Lo → St w0 w' (Lo ++ H) → K (.tuple [rv, .bool true].toArray) w') :
    CallL P 43 [ov] w K := by
  obtain ⟨sa, sc, hov⟩ := (hrow w h).form
  rw [hov]
  refine f43_ok _ _ _ _ _ ?_
  rw [f43_eq, ← hov]
  have nil85 : ∀ n, SlO 3 85 (.slice (some ⟨n, 0, none⟩) 0 0) 0 [] [(n, Cs [] 85)] := fun n => ⟨rfl, .inr ⟨n, 0, [], rfl, rfl, by omega, by simp [maxLen], rfl, rfl⟩⟩
  refine races_ok hsort h hrow (by omega) (fun x hx hx0 w2 h2 => ⟨none, 0, 0, x, rfl, _, _, _, _, bs0 w2, ?_⟩) (fun out hx hlen w2 rv Lo hS hN h2 => ?_)
  · have h3 := h2.alloc (.cells #[] 85 (0, 0))
    have hn := h2.le
    generalize w2.heap.size = n at h3 hn
    have h3 : St w0 (w2.alloc (.cells #[] 85 (0, 0))) ([(n, Cs [] 85)] ++ H) := h3
    refine ⟨0, fun wq _ => run_len_25 wq, ?_⟩
    refine ⟨fun m ee w => m = 0 ∧ ee = Env.mk 38 [(17, (Value.int .i64 0)), (6, (Value.slice (some ⟨n, 0, none⟩) 0 0)), (15, nilS), (2, nilS), (3, (Value.bool false)), (5, (Value.int .i64 x)), (16, (Value.int .i64 0))] [] ∧ St w0 w ([(n, Cs [] 85)] ++ H), ⟨0, rfl, rfl, h3⟩, ?_⟩
    rintro m ee w ⟨rfl, rfl, hw⟩
    show f43_lb0 _ _ _ _ _ _ _ _ _ _ _ _ _ _ _ _
    rw [f43_lb0_eq, show decide ((0 : Int) < 0) = false by decide, BIf_false, f43_s3_eq]
    rw [show (x == (0 : Int)) = false by simpa using hx0]
    exact herr x hx w _ [(n, Cs [] 85)] (nil85 n) (by simpa [New] using hn) hw
  · obtain ⟨ra, rc, hrv⟩ := hS.form
    subst hrv
    refine ⟨ra, _, rc, 0, rfl, _, _, _, _, bs0 w2, ?_⟩
    have h3 := h2.alloc (.cells #[] 85 (0, 0))
    have hn := h2.le
    generalize w2.heap.size = n at h3 hn
    have h3 : St w0 (w2.alloc (.cells #[] 85 (0, 0))) ([(n, Cs [] 85)] ++ (Lo ++ H)) := h3
    refine ⟨out.length, fun wq _ => run_len_25 wq, ?_⟩
    refine ⟨fun m ee w => ∃ (i : Nat) (ta : Option Addr) (tc : Nat) (Lt : List (Nat × Obj)), i ≤ out.length ∧ m = out.length - i ∧
      ee = Env.mk 38 [(17, (Value.int .i64 i)), (6, (Value.slice ta i tc)), (15, (Value.slice ra out.length rc)), (2, nilS), (3, (Value.bool false)), (5, (Value.int .i64 0)), (16, (Value.int .i64 out.length))] [] ∧
      SlO 3 85 (.slice ta i tc) i (triplesCs (out.take i)) Lt ∧ New w0 Lt ∧ St w0 w (Lt ++ (Lo ++ H)), ⟨out.length, 0, _, _, [(n, Cs [] 85)], by omega, rfl, rfl, nil85 n, by simpa [New] using hn, h3⟩, ?_⟩
    rintro m ee w ⟨i, ta, tc, Lt, hi, rfl, rfl, hT, hTn, hw⟩
    show f43_lb0 _ _ _ _ _ _ _ _ _ _ _ _ _ _ _ _
    rw [f43_lb0_eq, BIf_iff]
    constructor
    · intro hlt
      have hlt : i < out.length := by simpa using hlt
      rw [f43_s1_eq]
      obtain ⟨g, cc, hg, hld⟩ := slO_ldA hS (w := w) (i := i) (fun y hy => hw.has _ _ (by simp [hy])) hlt
      obtain ⟨hsa, -⟩ : ra = some ⟨g, 0, none⟩ ∧ rc = cc := by simpa using hg
      subst hsa
      refine ⟨by omega, by omega, hld _ ?_⟩
      rw [races_at hlt, z47]
      refine hw.newC fun n28 w5 hn28 h5 => h5.stA (k := 0) rfl rfl (by simp) (by simpa using Racecs_one out[i]) fun w6 h6 => ?_
      have h6 : St w0 w6 ((n28, Cs (Racecs out[i]) 47) :: (Lt ++ (Lo ++ H))) := h6
      refine ⟨out[i].byte, by rw [h6.cell (k := 0) rfl]; rfl, out[i].first.ev, by rw [add_lit', h6.cell (k := 0) rfl]; rfl, out[i].second.ev, by rw [add_lit', h6.cell (k := 0) rfl]; rfl, _, build85 _ _ _, ⟨rfl, trivial⟩, ?_⟩
      refine h6.newC fun n38 w7 hn38 h7 => ?_
      obtain ⟨g', cap, w8, Lt', hr, hS', hs8, hN'⟩ := St.append (P := P) 81 81 85 Try.t85 (.agg #[I64 0, I64 0, I64 0]) 3 24 Try.underlying81 info85 rfl rfl rfl rfl (by omega)
        (A := [(n38, Cs ((triple out[i]).map I64) 85), (n28, Cs (Racecs out[i]) 47)]) (L := Lt) (H := Lo ++ H) (by exact h7) hT hTn (j := 0) rfl rfl (by simp [triple, Value.oneCell']) (by simp [maxLen]; omega) (by omega)
      refine ⟨_, _, _, w8, hr, ?_⟩
      rw [f43_s2_eq]
      have hs8 : St w0 w8 ((n38, Cs ((triple out[i]).map I64) 85) :: (n28, Cs (Racecs out[i]) 47) :: (Lt' ++ (Lo ++ H))) := hs8
      refine ⟨out.length - (i + 1), by omega, i + 1, some ⟨g', 0, none⟩, cap, Lt', by omega, rfl, ?_, ?_, hN', (hs8.tail hn38).tail hn28⟩
      · rw [wrap_i64 (by omega) (by omega)]; rfl
      · have e : triplesCs (out.take (i + 1)) = triplesCs (out.take i) ++ (triple out[i]).map I64 := by
          rw [take_succ' _ hlt]
          unfold triplesCs
          rw [List.map_append, List.flatten_append]
          simp only [List.map_cons, List.map_nil, List.flatten_cons, List.flatten_nil, List.append_nil]
        rw [e]
        exact hS'
    · intro hge
      have : i = out.length := by simp at hge; omega
      subst this
      rw [f43_s3_eq]
      rw [List.take_length] at hT
      refine hok out hx hlen w _ Lt hT hTn ?_
      refine St.sub (L := Lo) (hw.perm (perm_by fun c => ?_)) hN
      simp only [List.map_append, List.sum_append]
      omega
end Go.Fx.Try

namespace Go.Proofs
open Go.Shelf
set_option maxRecDepth 100000
def Try.sortR_ren : Go.Shelf.Ren := ⟨fun | 6 => 21 | 15 => 50 | 14 => 49 | 28 => 84 | 29 => 85 | 20 => 76 | 21 => 77 | 22 => 78 | 23 => 79 | 24 => 80 | 25 => 81 | 26 => 82 | 27 => 83 | 46 => 101 | 47 => 102 | 48 => 103 | 49 => 104 | 50 => 105 | 57 => 123 | n => n, fun | 22 => 25 | 24 => 47 | 25 => 54 | 3 => 3 | 39 => 41 | 0 => 0 | 53 => 33 | 55 => 92 | 4 => 4 | 46 => 161 | 45 => 160 | 50 => 165 | 5 => 5 | 9 => 9 | 66 => 188 | 70 => 182 | 76 => 203 | 77 => 153 | n => n, fun | n => n⟩
theorem Try.sortR : Go.Proofs.SlLaysF0.n6 Try.prog Try.sortR_ren := {
  mixed := by kernel_rfl,
  f6 := ⟨Try.f21.name, by decide, Try.func21.trans (congrArg some (by kernel_rfl))⟩,
  f14 := ⟨Try.f49.name, by decide, Try.func49.trans (congrArg some (by kernel_rfl))⟩,
  f15 := Try.func50.trans (congrArg some (by kernel_rfl)),
  f20 := ⟨Try.f76.name, by decide, Try.func76.trans (congrArg some (by kernel_rfl))⟩,
  f21 := ⟨Try.f77.name, by decide, Try.func77.trans (congrArg some (by kernel_rfl))⟩,
  f22 := ⟨Try.f78.name, by decide, Try.func78.trans (congrArg some (by kernel_rfl))⟩,
  f23 := ⟨Try.f79.name, by decide, Try.func79.trans (congrArg some (by kernel_rfl))⟩,
  f24 := ⟨Try.f80.name, by decide, Try.func80.trans (congrArg some (by kernel_rfl))⟩,
  f25 := ⟨Try.f81.name, by decide, Try.func81.trans (congrArg some (by kernel_rfl))⟩,
  f26 := ⟨Try.f82.name, by decide, Try.func82.trans (congrArg some (by kernel_rfl))⟩,
  f27 := ⟨Try.f83.name, by decide, Try.func83.trans (congrArg some (by kernel_rfl))⟩,
  f28 := Try.func84.trans (congrArg some (by kernel_rfl)),
  f29 := Try.func85.trans (congrArg some (by kernel_rfl)),
  f46 := ⟨Try.f101.name, by decide, Try.func101.trans (congrArg some (by kernel_rfl))⟩,
  f47 := Try.func102.trans (congrArg some (by kernel_rfl)),
  f48 := Try.func103.trans (congrArg some (by kernel_rfl)),
  f49 := ⟨Try.f104.name, by decide, Try.func104.trans (congrArg some (by kernel_rfl))⟩,
  f50 := ⟨Try.f105.name, by decide, Try.func105.trans (congrArg some (by kernel_rfl))⟩,
  f57 := ⟨Try.f123.name, by decide, Try.func123.trans (congrArg some (by kernel_rfl))⟩,
  t0 := Try.underlying0,
  a0 := Try.isAgg0,
  z0 := Try.sizeOf0,
  v0 := Try.zeroValue0,
  t3 := Try.underlying3,
  a3 := Try.isAgg3,
  z3 := Try.sizeOf3,
  v3 := Try.zeroValue3,
  t4 := Try.underlying4,
  a4 := Try.isAgg4,
  z4 := Try.sizeOf4,
  v4 := Try.zeroValue4,
  t5 := Try.underlying5,
  a5 := Try.isAgg5,
  z5 := Try.sizeOf5,
  v5 := Try.zeroValue5,
  t9 := Try.underlying9,
  a9 := Try.isAgg9,
  z9 := Try.sizeOf9,
  v9 := Try.zeroValue9,
  t22 := Try.underlying25,
  a22 := Try.isAgg25,
  z22 := Try.sizeOf25,
  v22 := Try.zeroValue25,
  t25 := Try.underlying54,
  a25 := Try.isAgg54,
  z25 := Try.sizeOf54,
  v25 := Try.zeroValue54,
  t39 := Try.underlying41,
  a39 := Try.isAgg41,
  z39 := Try.sizeOf41,
  v39 := Try.zeroValue41,
  t45 := Try.underlying160,
  a45 := Try.isAgg160,
  z45 := Try.sizeOf160,
  v45 := Try.zeroValue160,
  t46 := Try.underlying161,
  a46 := Try.isAgg161,
  z46 := Try.sizeOf161,
  v46 := Try.zeroValue161,
  t50 := Try.underlying165,
  a50 := Try.isAgg165,
  z50 := Try.sizeOf165,
  v50 := Try.zeroValue165,
  t53 := Try.underlying33,
  a53 := Try.isAgg33,
  z53 := Try.sizeOf33,
  v53 := Try.zeroValue33,
  t55 := Try.underlying92,
  a55 := Try.isAgg92,
  z55 := Try.sizeOf92,
  v55 := Try.zeroValue92,
  t66 := Try.underlying188,
  a66 := Try.isAgg188,
  z66 := Try.sizeOf188,
  v66 := Try.zeroValue188,
  t70 := Try.underlying182,
  a70 := Try.isAgg182,
  z70 := Try.sizeOf182,
  v70 := Try.zeroValue182,
  t76 := Try.underlying203,
  a76 := Try.isAgg203,
  z76 := Try.sizeOf203,
  v76 := Try.zeroValue203,
  t77 := Try.underlying153,
  a77 := Try.isAgg153,
  z77 := Try.sizeOf153,
  v77 := Try.zeroValue153 }
end Go.Proofs
namespace Go.Fx
open Go Go.Sort Go.Proofs
variable {w0 w : World} {H : List (Nat × Obj)}
theorem St.grow (h : St w0 w H) (os : Array Obj) : St w0 (Go.Sort.grow w os) H := by
  have hg : ∀ b, b < w.heap.size → (Go.Sort.grow w os).heap[b]? = w.heap[b]? := fun b hb => by
    show (w.heap ++ os)[b]? = _
    rw [Array.getElem?_append_left hb]
  refine ⟨⟨h.kept.os, h.kept.tape, h.kept.output⟩, ?_, fun b o hb => ?_, h.nd, fun b hb hn => ?_⟩
  · show w0.heap.size ≤ (w.heap ++ os).size
    rw [Array.size_append]
    have := h.le
    omega
  · rw [hg b (h.lt hb)]; exact h.has b o hb
  · rw [hg b (Nat.lt_of_lt_of_le hb h.le)]; exact h.old b hb hn
theorem flat_get {α : Type} {f : α → List Value} {n : Nat} (hn : 0 < n) : ∀ {l : List α}, (∀ x ∈ l, (f x).length = n) → ∀ t : Nat, ((l.map f).flatten)[t]? = (l[t / n]?).bind fun x => (f x)[t % n]?
  | [], _, t => by simp
  | x :: r, h, t => by
    have hx := h x (.head _)
    rw [List.map_cons, List.flatten_cons]
    by_cases ht : t < n
    · rw [List.getElem?_append_left (by omega), Nat.div_eq_of_lt ht, Nat.mod_eq_of_lt ht]
      rfl
    · rw [List.getElem?_append_right (by omega), flat_get hn (fun y hy => h y (.tail _ hy)), hx]
      have e1 : t / n = (t - n) / n + 1 := by rw [← Nat.add_div_right _ hn]; congr 1; omega
      have e2 : t % n = (t - n) % n := by rw [← Nat.add_mod_right (t - n)]; congr 1; omega
      rw [e1, e2, List.getElem?_cons_succ]
theorem mapBlock_put {w : World} {b : Nat} {cs : List Value} {t : TypeId} (h : w.heap[b]? = some (Cs cs t)) (f : Array Value → Array Value) : mapBlock w b f = w.putObj b (Cs (f cs.toArray).toList t) := by
  unfold mapBlock World.putObj
  congr 1
  apply Array.ext_getElem?
  intro c
  rw [Array.getElem?_modify, Array.getElem?_setIfInBounds]
  obtain ⟨hlt, he⟩ := Array.getElem?_eq_some_iff.1 h
  by_cases hbc : b = c
  · subst hbc
    simp only [if_true, hlt]
    rw [Array.getElem?_eq_getElem hlt, he]
    simp [onCells, Cs]
  · simp [hbc]
namespace Try
open Go.Fx.Mo
set_option maxRecDepth 20000
theorem flat_races (d : Array Mo.Race) : (flatK Racecs 11 d).toList = racesCs d.toList := by
  apply List.ext_getElem?
  intro t
  have hl : (flatK Racecs 11 d).size = d.size * 11 := size_flatK ..
  by_cases ht : t < d.size * 11
  · have h1 : t / 11 < d.size := by omega
    have e1 : (flatK Racecs 11 d).toList[t]? = some (flatK Racecs 11 d)[t]! := by
      rw [Array.getElem?_toList, Array.getElem?_eq_getElem (by omega), getElem!_pos _ t (by omega)]
    rw [e1, get_flatK _ _ _ _ ht]
    unfold racesCs
    rw [flat_get (by omega) (fun x _ => Racecs_len x)]
    rw [Array.getElem?_toList, Array.getElem?_eq_getElem h1, Option.bind_some, getElem!_pos d _ h1]
    have h2 : t % 11 < (Racecs d[t / 11]).length := by rw [Racecs_len]; omega
    rw [List.getElem?_eq_getElem h2, getElem!_pos (Racecs d[t / 11]) _ h2]
  · rw [List.getElem?_eq_none (by rw [Array.length_toList, hl]; omega), List.getElem?_eq_none]
    have : (racesCs d.toList).length = d.size * 11 := by
      have key : ∀ l : List Mo.Race, (racesCs l).length = l.length * 11 := by
        intro l
        induction l with
        | nil => rfl
        | cons x r ih =>
          have e : racesCs (x :: r) = Racecs x ++ racesCs r := rfl
          rw [e, List.length_append, ih, Racecs_len, List.length_cons]
          omega
      rw [key, Array.length_toList]
    omega
theorem ltR (a b : Mo.Race) : ltOf cfR a b = decide (a.second.ev < b.second.ev ∨ a.second.ev = b.second.ev ∧ a.byte < b.byte) := by
  unfold ltOf cfR orI cmpI
  by_cases h1 : a.second.ev < b.second.ev
  · simp [h1]
  · by_cases h2 : a.second.ev > b.second.ev
    · have : ¬ a.second.ev = b.second.ev := by omega
      simp [h1, h2, this]
    · have he : a.second.ev = b.second.ev := by omega
      by_cases h3 : a.byte < b.byte
      · simp [he, h3]
      · by_cases h4 : b.byte < a.byte <;> simp [he, h3, h4]
theorem swoR : SWO (ltOf cfR) where
  irrefl x := by rw [ltR]; simp
  trans x y z h1 h2 := by rw [ltR] at *; simp at *; omega
  ntrans x y z h1 h2 := by rw [ltR] at *; simp at *; omega
theorem cmpLays {g : Nat} (hg : ∀ (a b : Mo.Race) {w : World} {K : Value → World → Prop}, (∀ w', (∃ q os, w' = Go.Sort.grow (w.drewN q) os) → K (.int .i64 (cfR a b)) w') → CallL P g [.agg (Racecs a).toArray, .agg (Racecs b).toArray] w K)
    (blk off size : Nat) (w : World) : CmpLays P g #[] Racecs 11 cfR blk off size w := by
  intro m os dk _ x y
  have h := hg x y (w := sortWorldK Racecs 11 w blk off m dk os) (K := fun v w' => v = .int .i64 (cfR x y) ∧ ∃ q os', w' = Go.Sort.grow ((sortWorldK Racecs 11 w blk off m dk os).drewN q) os') (fun w' hw => ⟨rfl, hw⟩)
  unfold CallL CallC at h
  refine Calls.mono h fun e w' he => ?_
  unfold retK at he
  split at he
  · exact ⟨by rw [he.1], he.2⟩
  · exact he.elim
theorem aggR (w : World) : (isAgg 47).run P w = .ok true w := Try.isAgg47 w
theorem sizeR (w : World) : (Go.sizeOf 47).run P w = .ok 11 w := Try.sizeOf47 w
theorem CallL_of {g : Nat} {args : List Value} {K : Value → World → Prop} {Q : Ending → World → Prop} (h : Calls P g args.toArray w Q) (hK : ∀ e w', Q e w' → ∃ v, e = .returned v ∧ K v w') : CallL P g args w K := by
  unfold CallL CallC
  refine Calls.mono h fun e w' he => ?_
  obtain ⟨v, rfl, hv⟩ := hK e w' he
  exact hv
theorem sort_g {g : Nat} (eg : ∀ args w, (callFunc g args).run P w = .ok (.enter g args) w) (hg : ∀ (a b : Mo.Race) {w : World} {K : Value → World → Prop}, (∀ w', (∃ q os, w' = Go.Sort.grow (w.drewN q) os) → K (.int .i64 (cfR a b)) w') → CallL P g [.agg (Racecs a).toArray, .agg (Racecs b).toArray] w K) : SortOk w0 g := by
  intro w H K out ov Lo h hLo hnd hlen hK
  rcases hLo.2 with ⟨rfl, hn, rfl⟩ | ⟨blk, cap, cur, rfl, rfl, hnc, hcm, hcl, htk⟩
  · have hout : out = [] := List.length_eq_zero_iff.1 hn
    subst hout
    refine CallL_of (AnyF.slices_SortFunc_none (P := P) { Try.sortR with } none 0 (.func (.func g) #[] #[]) w) ?_
    rintro e w' ⟨rfl, rfl⟩
    exact ⟨_, rfl, hK w' [] (by simpa using hLo) (fun hN => hN) h⟩
  · have hb : w.heap[blk]? = some (Cs cur 47) := h.has _ _ (by simp)
    have hrow : racesCs out = cur.take (out.length * 11) := htk.symm
    have hxl : (racesCs out).length = out.length * 11 := hLo.1
    have hH : HoldsK Racecs 11 w blk 0 out.toArray := by
      intro j hj
      rw [size_flatK] at hj
      have hj : j < out.length * 11 := by simpa using hj
      have e : (flatK Racecs 11 out.toArray)[j]! = (racesCs out)[j]! := by
        have hf := flat_races out.toArray
        have hs : j < (flatK Racecs 11 out.toArray).size := by rw [size_flatK]; simpa using hj
        have hf : (flatK Racecs 11 out.toArray).toList = racesCs out := hf
        rw [getElem!_pos _ j hs, ← hf, getElem!_pos _ j (by simpa using hs)]
        rfl
      refine ⟨?_, ?_⟩
      · rw [Nat.zero_add, cell_of hb]
        simp only [id]
        rw [e, getElem!_pos (racesCs out) j (by omega)]
        have e2 : (racesCs out)[j]? = cur[j]? := by rw [hrow, List.getElem?_take, if_pos hj]
        rw [← e2, List.getElem?_eq_getElem (by omega)]
      · rw [Nat.zero_add]; exact frozen_of hb
    have hcon := AnyQ.slices_SortFunc (P := P) { Try.sortR with } 11 aggR sizeR Racecs Racecs_len (fun x v hv => Racecs_one x v hv) cfR swoR g #[] blk 0 cap out.toArray w eg (cmpLays hg blk 0 out.toArray.size w) hH (Array.getElem?_eq_some_iff.1 hb).1 (by simp; omega)
    have hsz : out.toArray.size = out.length := by simp
    rw [hsz] at hcon
    refine CallL_of hcon ?_
    rintro e w' ⟨rfl, d', n, os, ⟨hds, _, hperm⟩, hsort, rfl⟩
    refine ⟨_, rfl, ?_⟩
    have e1 : d'.extract 0 out.length = d' := by rw [← hsz, ← hds]; exact Array.extract_size
    have e0 : out.toArray.extract 0 out.length = out.toArray := by rw [← hsz]; exact Array.extract_size
    rw [e1, e0] at hperm
    have hds' : d'.size = out.length := by rw [hds, hsz]
    have hpw : d'.toList.Pairwise fun a b => raceLe a b = true := by
      rw [List.pairwise_iff_getElem]
      intro i j hi hj hij
      have hi' : i < d'.size := by simpa using hi
      have hj' : j < d'.size := by simpa using hj
      have hlt := hsort i j (Nat.zero_le _) hij (by omega)
      rw [ltR, getElem!_pos d' i hi', getElem!_pos d' j hj'] at hlt
      have hlt := of_decide_eq_false hlt
      rw [raceLe_iff]
      simp only [Array.getElem_toList]
      omega
    have hsorted := sort_is hnd (by simpa using hperm) hpw
    -- the world behind the sort
    have hs1 : St w0 (Go.Sort.ahead w n) ([(blk, Cs cur 47)] ++ H) := ⟨⟨h.kept.os, h.kept.tape, h.kept.output⟩, h.le, h.has, h.nd, h.old⟩
    have hb1 : (Go.Sort.ahead w n).heap[blk]? = some (Cs cur 47) := hb
    have hw' : sortWorldK Racecs 11 w blk 0 n d' os = Go.Sort.grow ((Go.Sort.ahead w n).putObj blk (Cs (putCells id 0 (flatK Racecs 11 d') cur.toArray).toList 47)) os := by
      unfold sortWorldK putRowK putRow
      rw [mapBlock_put hb1]
    rw [hw']
    have hs2 := (hs1.put (k := 0) rfl (Cs (putCells id 0 (flatK Racecs 11 d') cur.toArray).toList 47)).grow os
    refine hK _ [(blk, Cs (putCells id 0 (flatK Racecs 11 d') cur.toArray).toList 47)] ?_ (fun hN => by simpa [New] using hN) hs2
    have hfl : (flatK Racecs 11 d').size = out.length * 11 := by rw [size_flatK, hds']
    have hml : out.length = (out.mergeSort raceLe).length := by rw [List.length_mergeSort]
    refine ⟨?_, .inr ⟨blk, cap, _, rfl, rfl, hnc, hcm, ?_, ?_⟩⟩
    · rw [← hsorted, ← flat_races d', Array.length_toList, hfl]
    · simp [putCells, hcl]
    · rw [← hsorted, ← flat_races d']
      apply List.ext_getElem?
      intro t
      rw [List.getElem?_take]
      have hle : out.length * 11 ≤ cap * 11 := Nat.mul_le_mul_right _ hnc
      by_cases ht : t < out.length * 11
      · rw [if_pos ht]
        have htc : t < cur.length := by omega
        have e : (putCells id 0 (flatK Racecs 11 d') cur.toArray).toList[t]? = some (flatK Racecs 11 d')[t]! := by
          simp [putCells, htc, hfl, ht]
        rw [e, Array.getElem?_toList, Array.getElem?_eq_getElem (by omega), getElem!_pos _ t (by omega)]
      · rw [if_neg ht, List.getElem?_eq_none (by rw [Array.length_toList, hfl]; omega)]
theorem sort48 : SortOk w0 48 := sort_g (enters_of Try.func48 (by kernel_rfl) rfl) fun a b {_ _} h => cmp48 a b h
theorem sort46 : SortOk w0 46 := sort_g (enters_of Try.func46 (by kernel_rfl) rfl) fun a b {_ _} h => cmp46 a b h
end Try
end Go.Fx
namespace Go.Fx.Try
open Go Go.Fx Go.Fx.Mo
open Go.Proofs
variable {w0 w : World} {H : List (Nat × Obj)} {K : Value → World → Prop}
set_option maxRecDepth 20000
abbrev evV (e : Ev) : Value := .agg (Evcs e).toArray
theorem build35 (k t a n : Int) (wq : World) : (Instr.build 35 [(0, (Value.int .i64 k)), (1, (Value.int .i64 t)), (3, (Value.int .u32 a)), (5, (Value.int .i64 n))].toArray).run P wq = .ok (evV (ev k t a n)) wq := by kernel_rfl
theorem ev_ok (h : St w0 w H) (k t a n : Int) (hK : ∀ w', St w0 w' H → K (evV (ev k t a n)) w') : CallL P 26 [.int .i64 k, .int .i64 t, .int .u32 a, .int .i64 n] w K := by
  refine f26_ok _ _ _ _ _ _ ?_
  obtain ⟨ze, hze, hzel⟩ := z35
  rw [f26_eq, hze]
  refine h.newC fun n4 w1 hn4 h1 => ⟨_, build35 k t a n, ?_⟩
  refine h1.stA (k := 0) rfl (by simp [Evcs_len]) (by simp [hzel]) (Evcs_one _) fun w2 h2 => ?_
  have h2 : St w0 w2 ((n4, Cs (splice ze 0 (Evcs (ev k t a n))) 35) :: H) := h2
  rw [splice_whole (by rw [Evcs_len, hzel])] at h2
  refine h2.ldA (k := 0) (i := 0) rfl (by simp [Evcs_len]) ?_
  exact hK w2 (h2.tail hn4)
theorem evsCs_len (l : List Ev) : (evsCs l).length = l.length * 6 := by
  induction l with
  | nil => rfl
  | cons x r ih =>
    have e : evsCs (x :: r) = Evcs x ++ evsCs r := rfl
    rw [e, List.length_append, ih, Evcs_len, List.length_cons]
    omega
theorem evs_row {l : List Ev} {n : Nat} (hn : (n, Cs (evsCs l) 35) ∈ H) : ∀ w', St w0 w' H → Row w' 6 (.slice (some (Addr.mk n 0 none)) l.length l.length) l.length (evsCs l) := fun w' h' =>
  ⟨evsCs_len l, .inr ⟨_, _, rfl, fun i _ => by rw [add_lit', cell_of (h'.has _ _ hn), Nat.zero_add]⟩⟩
theorem evs_flat (l : List Ev) : (((l.map evV).map fun (v : Value) => v.cells.toList).flatten.toArray).toList = evsCs l := by
  simp only [List.toList_toArray, List.map_map, evsCs]
  congr 1
theorem evs_sizes (l : List Ev) : sizesAre 6 (l.map evV) := by
  induction l with
  | nil => trivial
  | cons x r ih => exact ⟨rfl, ih⟩
/-- A list of events, laid. -/
theorem lay_evs (l : List Ev) (h : St w0 w H) {K : Nat → World → Prop} (hK : ∀ n w', w0.heap.size ≤ n → St w0 w' ((n, Cs (evsCs l) 35) :: H) → K n w') :
    sizesAre 6 (l.map evV) ∧ NewC (((l.map evV).map fun (v : Value) => v.cells.toList).flatten.toArray) 35 w K := by
  refine ⟨evs_sizes l, h.newC fun n w' hn h' => hK n w' hn ?_⟩
  rw [evs_flat] at h'
  exact h'
theorem first_at (hsort : SortOk w0 48) {l : List Ev} {out : List Mo.Race} (hr : races l = .inl out) (hl : l.length < 1000) (h : St w0 w H) {n : Nat} (hn : (n, Cs (evsCs l) 35) ∈ H)
    (hK : ∀ w' a c Lo, SlO 3 85 (.slice a out.length c) out.length (triplesCs out) Lo → New w0 Lo → St w0 w' (Lo ++ H) → K (.tuple [.slice a out.length c, .bool true].toArray) w') :
    CallL P 43 [.slice (some (Addr.mk n 0 none)) l.length l.length] w K := by
  refine firsts_ok hsort h (evs_row hn) (by omega) (fun x hx => by rw [hr] at hx; cases hx) fun out' hx hlen w' rv Lo hS hN h' => ?_
  rw [hr] at hx
  cases hx
  obtain ⟨a, c, hrv⟩ := hS.form
  subst hrv
  exact hK w' a c Lo hS hN h'
theorem run_len_81 {p : Option Addr} {l c : Nat} (wq : World) : (Builtin.len_ #[81] 3 [Value.slice p l c].toArray).run P wq = .ok (.int .i64 l) wq := run_len_slice p l c Try.underlying81 3
theorem eqA (a b c : Int) (wq : World) (d : Nat) (h3 : ∀ d x, (Op.equalIn (d + 1) 3 (.int .i64 x) (.int .i64 x)).run P wq = .ok true wq) : (Op.equalIn (d + 2) 85 (.agg #[I64 a, I64 b, I64 c]) (.agg #[I64 a, I64 b, I64 c])).run P wq = .ok true wq := by
  have p0 : (part 3 #[I64 a, I64 b, I64 c] 0).run P wq = .ok (I64 a) wq := by kernel_rfl
  have p1 : (part 3 #[I64 a, I64 b, I64 c] 1).run P wq = .ok (I64 b) wq := by kernel_rfl
  have p2 : (part 3 #[I64 a, I64 b, I64 c] 2).run P wq = .ok (I64 c) wq := by kernel_rfl
  rw [Op.equalIn]
  simp [run_underlying Try.underlying85, Try.sizeOf3, List.range', h3, p0, p1, p2]
theorem eq85 (a b c : Int) (wq : World) (s t : Nat) : (do eqGuard .neq 85 (.tmp s) (.tmp t) (.agg #[I64 a, I64 b, I64 c]) (.agg #[I64 a, I64 b, I64 c]); binOp .neq 85 (.agg #[I64 a, I64 b, I64 c]) (.agg #[I64 a, I64 b, I64 c]) : Sem Value).run P wq = .ok (.bool false) wq := by
  have h3 : ∀ d x, (Op.equalIn (d + 1) 3 (.int .i64 x) (.int .i64 x)).run P wq = .ok true wq := fun d x => by simp [Op.equalIn, run_underlying Try.underlying3]
  have hm : ∃ d, Op.maxDepth = d + 2 := ⟨_, rfl⟩
  obtain ⟨d, hd⟩ := hm
  have he : (Op.equal 85 (.agg #[I64 a, I64 b, I64 c]) (.agg #[I64 a, I64 b, I64 c])).run P wq = .ok true wq := by
    unfold Op.equal
    rw [hd]
    exact eqA a b c wq d h3
  simp [eqGuard, binOp, he, Try.eqGuardType85]
theorem triples_at {l : List Mo.Race} {i : Nat} (hi : i < l.length) : ((triplesCs l).drop (i * 3)).take 3 = (triple l[i]).map I64 := flat_slice (f := fun r => (triple r).map I64) (fun x _ => by simp [triple]) hi
/-- Two slices that read the same triples. -/
theorem same3_ok {l : List Mo.Race} {av bv : Value} (h : St w0 w H) (ha : ∀ w', St w0 w' H → Row w' 3 av l.length (triplesCs l)) (hb : ∀ w', St w0 w' H → Row w' 3 bv l.length (triplesCs l)) (hl63 : l.length < 9223372036854775807)
    (hK : ∀ w', St w0 w' H → K (.bool true) w') : CallL P 44 [av, bv] w K := by
  obtain ⟨a1, a2, hav⟩ := (ha w h).form
  obtain ⟨b1, b2, hbv⟩ := (hb w h).form
  rw [hav, hbv]
  refine f44_ok _ _ _ _ _ _ _ _ ?_
  rw [f44_eq]
  refine ⟨l.length, fun wq _ => run_len_81 wq, l.length, fun wq _ => run_len_81 wq, ?_⟩
  rw [show ((l.length : Int) != (l.length : Int)) = false by simp, BIf_false, f44_s0_eq]
  refine ⟨l.length, fun wq _ => run_len_81 wq, ?_⟩
  refine ⟨fun m ee w => ∃ (i : Nat), i ≤ l.length ∧ m = l.length - i ∧ ee = Env.mk 26 [(13, (Value.int .i64 i)), (1, (Value.slice b1 l.length b2)), (0, (Value.slice a1 l.length a2)), (4, (Value.bool false)), (12, (Value.int .i64 l.length))] [] ∧ St w0 w H,
    ⟨l.length, 0, by omega, rfl, rfl, h⟩, ?_⟩
  rintro m ee w ⟨i, hi, rfl, rfl, hw⟩
  show f44_lb1 _ _ _ _ _ _ _ _ _ _ _ _
  rw [f44_lb1_eq, BIf_iff]
  constructor
  · intro hlt
    have hlt : i < l.length := by simpa using hlt
    rw [f44_s2_eq]
    have hd := hw.drew
    obtain ⟨a, c, hac, hld⟩ := (ha _ hd).ldA hlt
    rw [hav] at hac
    obtain ⟨hsa, -⟩ : a1 = some a ∧ a2 = c := by simpa using hac
    subst hsa
    obtain ⟨b, c', hbc, hldb⟩ := (hb _ hd).ldA hlt
    rw [hbv] at hbc
    obtain ⟨hsb, -⟩ : b1 = some b ∧ b2 = c' := by simpa using hbc
    subst hsb
    refine ⟨by omega, by omega, by omega, by omega, hld _ (hldb _ ?_)⟩
    rw [triples_at hlt]
    refine ⟨_, fun wq => eq85 _ _ _ wq _ _, ?_⟩
    rw [BIf_false, f44_s3_eq]
    refine ⟨l.length - (i + 1), by omega, i + 1, by omega, rfl, ?_, hd⟩
    rw [wrap_i64 (by omega) (by omega)]; rfl
  · intro hge
    rw [f44_s4_eq]
    exact hK w hw
/-- A copy of a list of events. -/
theorem clone_ok {l : List Ev} (h : St w0 w H) {n : Nat} (hn : (n, Cs (evsCs l) 35) ∈ H) (hl : l.length < 1000) (hK : ∀ w' v L, SlO 6 35 v l.length (evsCs l) L → New w0 L → St w0 w' (L ++ H) → K v w') : CallL P 45 [.slice (some (Addr.mk n 0 none)) l.length l.length] w K := by
  refine f45_ok _ _ _ _ _ ?_
  rw [f45_eq, Option.isNone_some, BIf_false, f45_s0_eq]
  have bs : ∀ w : World, (Instr.buildSlice 22 0 ([] : List (Nat × Value)).toArray).run P w = .ok (.slice (some ⟨w.heap.size, 0, none⟩) 0 0) (w.alloc (.cells #[] 35 (0, 0))) := fun w => by kernel_rfl
  refine ⟨_, _, _, _, bs w, ?_⟩
  have h3 := h.alloc (.cells #[] 35 (0, 0))
  have hn3 := h.le
  generalize w.heap.size = m at h3 hn3
  have h3 : St w0 (w.alloc (.cells #[] 35 (0, 0))) ([] ++ ([(m, Cs [] 35)] ++ H)) := h3
  have hS0 : SlO 6 35 (.slice (some ⟨m, 0, none⟩) 0 0) 0 [] [(m, Cs [] 35)] := ⟨rfl, .inr ⟨m, 0, [], rfl, rfl, by omega, by simp [maxLen], rfl, rfl⟩⟩
  have hSn : SlO 6 35 (.slice (some (Addr.mk n 0 none)) l.length l.length) l.length (evsCs l) [(n, Cs (evsCs l) 35)] := ⟨evsCs_len l, .inr ⟨n, l.length, evsCs l, rfl, rfl, by omega, by simp [maxLen]; omega, evsCs_len l, by rw [← evsCs_len l]; exact List.take_length⟩⟩
  have hone : ∀ u ∈ evsCs l, u.oneCell' = true := by
    intro u hu
    obtain ⟨x, hx, hu⟩ := List.mem_flatten.1 hu
    obtain ⟨r, _, rfl⟩ := List.mem_map.1 hx
    exact Evcs_one r u (by simpa using hu)
  obtain ⟨v', w', L', hr, hS, hs, hN⟩ := St.appendN (P := P) 22 22 35 Try.t35 (.agg #[I64 0, I64 0, .int .u32 0, .int .u32 0, .int .u32 0, I64 0]) 6 40 Try.underlying22 (by kernel_rfl) rfl rfl rfl rfl (by omega)
    (A := []) (L := [(m, Cs [] 35)]) (H := H) (M := [(n, Cs (evsCs l) 35)]) h3 hS0 (by simpa [New] using hn3) hSn (fun y hy => by simp at hy; subst hy; exact h3.has _ _ (by simp [hn])) hone (by simp [maxLen]; omega) (by omega)
  obtain ⟨a, c, hv⟩ := hS.form
  subst hv
  refine ⟨a, _, c, w', hr, hK w' _ L' (by simpa using hS) hN hs⟩
end Go.Fx.Try
