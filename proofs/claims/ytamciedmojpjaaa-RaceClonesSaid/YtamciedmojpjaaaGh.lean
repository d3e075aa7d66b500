/- Plans of events: what they compute. -/
import Derived.Test.YtamciedmojpjaaaGf
import Derived.Test.YtamciedmojpjaaaGg
import Derived.Test.YtamciedmojpjaaaGb
import Derived.KernelRfl
import Derived.Laws.StructEq
import Derived.WideKeyRuns
namespace Go.Fx.Try
open Go Go.Fx Go.Fx.Mo
open Go.Proofs
set_option maxRecDepth 20000
def encO (x : Ob) : Value := .agg #[.bool x.1, .int .u32 x.2]
theorem check147 (w : World) (em : Bool) (a : Bool) (x : Int) : (Instr.checkKey em 10000 147 (.agg #[.bool a, .int .u32 x])).run P w = .ok () w := by kernel_rfl
theorem fieldsOf147 : P.fieldsOf 147 = #[{ name := "word", type := 4, offset := 0, embedded := false, tag := "", pkgPath := "candling/race", byteOffset := 0 }, { name := "at", type := 33, offset := 1, embedded := false, tag := "", pkgPath := "candling/race", byteOffset := 4 }] := by kernel_rfl
theorem eq147 (w : World) (a b : Bool) (x y : Int) : (Op.equal 147 (.agg #[.bool a, .int .u32 x]) (.agg #[.bool b, .int .u32 y])).run P w = .ok (a == b && x == y) w := by
  unfold Op.equal
  have h4 : ∀ d, (Op.equalIn (d + 1) 4 (.bool a) (.bool b)).run P w = .ok (a == b) w := fun d => by simp [Op.equalIn, run_underlying Try.underlying4]
  have h33 : ∀ d, (Op.equalIn (d + 1) 33 (.int .u32 x) (.int .u32 y)).run P w = .ok (x == y) w := fun d => by simp [Op.equalIn, run_underlying Try.underlying33]
  have hm : ∃ d, Op.maxDepth = d + 2 := ⟨_, rfl⟩
  obtain ⟨d, hd⟩ := hm
  rw [hd, run_equalIn_struct w (d + 1) 147 _ _ (by rw [fieldsOf147]; exact Try.underlying147) Try.stoodInHeld147, fieldsOf147]
  have p0 : ∀ (a : Bool) (x : Int), (part 4 #[.bool a, .int .u32 x] 0).run P w = .ok (.bool a) w := fun a x => by kernel_rfl
  have p1 : ∀ (a : Bool) (x : Int), (part 33 #[.bool a, .int .u32 x] 1).run P w = .ok (.int .u32 x) w := fun a x => by kernel_rfl
  simp [Op.eqFields, p0, p1, h4, h33]
  by_cases hxy : x = y <;> cases a <;> cases b <;> simp [hxy]
theorem encO_inj {a b : Ob} (h : encO a = encO b) : a = b := by
  obtain ⟨a1, a2⟩ := a
  obtain ⟨b1, b2⟩ := b
  simpa [encO] using h
theorem find147 (w : World) (k : Ob) : ∀ (es : List MapEntry) (i : Nat), (∀ e ∈ es, ∃ x, e.key = encO x) →
    ((Instr.findAsking 147 (encO k) es i).run P w = .ok none w ∧ ∀ e ∈ es, e.key ≠ encO k) ∨ ∃ j e, (Instr.findAsking 147 (encO k) es i).run P w = .ok (some (i + j, e.val)) w ∧ es[j]? = some e ∧ e.key = encO k
  | [], i, _ => .inl ⟨by simp [Instr.findAsking], by simp⟩
  | e :: es, i, h => by
    obtain ⟨x, hx⟩ := h e (.head _)
    have he : (Op.equal 147 (encO k) e.key).run P w = .ok (k.1 == x.1 && k.2 == x.2) w := by rw [hx]; exact eq147 w k.1 x.1 k.2 x.2
    by_cases hk : k = x
    · subst hk
      refine .inr ⟨0, e, ?_, rfl, hx⟩
      simp [Instr.findAsking, he]
    · have hb : (k.1 == x.1 && k.2 == x.2) = false := by
        cases hb : (k.1 == x.1 && k.2 == x.2)
        · rfl
        · simp at hb; exact absurd (Prod.ext hb.1 hb.2) hk
      have hne : e.key ≠ encO k := fun hh => hk (encO_inj (hh.symm.trans hx))
      rw [hb] at he
      rcases find147 w k es (i + 1) (fun e he => h e (.tail _ he)) with ⟨h1, h2⟩ | ⟨j, e', h1, h2, h3⟩
      · refine .inl ⟨by simp [Instr.findAsking, he, h1], fun y hy => ?_⟩
        cases hy with
        | head => exact hne
        | tail _ hy => exact h2 y hy
      · exact .inr ⟨j + 1, e', by simp [Instr.findAsking, he, h1]; omega, by simpa using h2, h3⟩
theorem keyO : KeyT P 147 encO where
  check w em k := check147 w em k.1 k.2
  find w k es hes := by
    rw [run_findKey_eq w (by rw [Try.underlying147])]
    rcases find147 w k es 0 hes with h | ⟨j, e, h1, h2, h3⟩
    · exact .inl h
    · exact .inr ⟨j, e, by simpa using h1, h2, h3⟩
  stays w k := by
    obtain ⟨a, x⟩ := k
    have : Instr.sameBits 10000 (encO (a, x)) (encO (a, x)) = true := by
      show Instr.sameBits (9999 + 1) (.agg #[.bool a, .int .u32 x]) (.agg #[.bool a, .int .u32 x]) = true
      simp [Instr.sameBits]
    simp [Instr.keyThatStays, this]
  inj := encO_inj
theorem keyU : KeyT P 33 (fun x : Int => Value.int .u32 x) := keyT_int Try.underlying33
section
variable {K' V : Type} [DecidableEq K'] (f : V → Value)
abbrev encM (m : List (K' × V)) : List (K' × Value) := m.map fun p => (p.1, f p.2)
theorem lookM_map (m : List (K' × V)) (k : K') : lookM (encM f m) k = (Mo.look m k).map f := by
  induction m with
  | nil => rfl
  | cons p r ih =>
    unfold lookM Mo.look at *
    simp only [encM, List.map_cons, List.find?_cons]
    cases p.1 == k
    · exact ih
    · rfl
theorem putM_map (m : List (K' × V)) (k : K') (v : V) : putM (encM f m) k (f v) = encM f (Mo.put m k v) := by
  unfold putM Mo.put
  rw [lookM_map]
  cases Mo.look m k with
  | none => simp [encM]
  | some u =>
    simp only [Option.map_some, encM, List.map_map]
    apply List.map_congr_left
    intro p _
    simp only [Function.comp_def]
    split <;> rfl
end
theorem zero3 (w : World) : (zeroValue 3).run P w = .ok (.int .i64 0) w := Try.zeroValue3 w
theorem zero116 (w : World) : (zeroValue 116).run P w = .ok (.agg #[.int .i64 0, .int .i64 0, .int .i64 0, .int .i64 0, .int .i64 0, .int .i64 0, .int .i64 0, .int .i64 0]) w := Try.zeroValue116 w
end Go.Fx.Try
namespace Go.Fx.Try
open Go Go.Fx Go.Fx.Mo
variable {w0 w : World} {H : List (Nat × Obj)} {K : Value → World → Prop}

abbrev I64 (x : Int) : Value := .int .i64 x
abbrev U32 (x : Int) : Value := .int .u32 x
def Acccs (a : Acc) : List Value := [.int .i64 a.ev, .int .i64 a.th, .int .u32 a.pc, .bool a.st, .bool a.at']
def Evcs (e : Ev) : List Value := [I64 e.kind, I64 e.th, .int .u32 e.pc, .int .u32 e.a, .int .u32 e.b, I64 e.n]
def Ordcs (o : Ord) : List Value := [I64 o.kind, I64 o.th, I64 o.other, I64 o.obj]

theorem conflict_ok (h : St w0 w H) (a b : Acc) (hK : ∀ w', St w0 w' H → K (.bool (Mo.conflict a b)) w') : CallL P 59 [.agg (Acccs a).toArray, .agg (Acccs b).toArray] w K := by
  refine f59_ok _ _ _ _ ?_
  rw [f59_eq]
  refine h.newC fun n2 w3 hn2 h3 => h3.newC fun n4 w5 hn4 h5 => ?_
  have hk := hK w5 ((h5.tail hn4).tail hn2)
  have r1 : ∀ i, w5.cell? (Addr.mk n2 i none) = (Acccs a)[i]? := fun i => h5.cell (k := 1) rfl
  have r0 : ∀ i, w5.cell? (Addr.mk n4 i none) = (Acccs b)[i]? := fun i => h5.cell (k := 0) rfl
  simp only [add_lit', r1, r0, f59_s0_eq]
  obtain ⟨ae, at_, ap, sa, aa⟩ := a
  obtain ⟨be, bt, bp, bs, ba⟩ := b
  simp only [Mo.conflict] at hk
  have e : (at_ != bt) = true ∨ (at_ != bt) = false := by cases (at_ != bt) <;> simp
  rcases e with e | e <;> rw [e] at hk <;> cases sa <;> cases aa <;> cases bs <;> cases ba <;> simp [Acccs, e] at hk ⊢ <;> exact hk
theorem kind_ok (h : St w0 w H) (a : Acc) (hK : ∀ w', St w0 w' H → K (.int .i64 (kind a)) w') : CallL P 96 [.agg (Acccs a).toArray] w K := by
  refine f96_ok _ _ _ ?_
  rw [f96_eq]
  refine h.newC fun n2 w3 hn2 h3 => ?_
  have hk := hK w3 (h3.tail hn2)
  have r1 : ∀ i, w3.cell? (Addr.mk n2 i none) = (Acccs a)[i]? := fun i => h3.cell (k := 0) rfl
  simp only [add_lit', r1, f96_s0_eq]
  obtain ⟨ae, at_, ap, sa, aa⟩ := a
  cases sa <;> cases aa <;> simpa [Acccs, kind] using hk

theorem accesses_ok (h : St w0 w H) (e : Ev) (hK : ∀ w', St w0 w' H → K (.tuple [.bool (accesses e).1, .bool (accesses e).2.1, .bool (accesses e).2.2].toArray) w') : CallL P 64 [.agg (Evcs e).toArray] w K := by
  refine f64_ok _ _ _ ?_
  rw [f64_eq]
  refine h.newC fun n2 w3 hn2 h3 => ?_
  have hk := hK w3 (h3.tail hn2)
  have r1 : ∀ i, w3.cell? (Addr.mk n2 i none) = (Evcs e)[i]? := fun i => h3.cell (k := 0) rfl
  refine ⟨e.kind, by rw [r1]; rfl, ?_⟩
  simp only [f64_s0_eq, f64_s1_eq, f64_s2_eq, BIf_iff, beq_iff_eq, beq_eq_false_iff_ne]
  unfold accesses at hk
  clear hK r1 h3
  generalize e.kind = k at *
  by_cases h2 : k = 2
  · simp_all
  by_cases h23 : k = 23
  · simp_all
  by_cases h3 : k = 3
  · simp_all
  by_cases h22 : k = 22
  · simp_all
  by_cases h4 : k = 4
  · simp_all
  simp_all

theorem joinC_length {c d : List Int} (hc : c.length = 8) (hd : d.length = 8) : (joinC c d).length = 8 := by simp [joinC, hc, hd]
theorem join_ok (h : St w0 w H) {k b o : Nat} {t : TypeId} {cs : List Value} {c d : List Int} (hk : H[k]? = some (b, Cs cs t)) (hc : c.length = 8) (hd : d.length = 8) (ho : o + 8 ≤ cs.length)
    (hcs : (cs.drop o).take 8 = c.map I64) (hK : ∀ w', St w0 w' (H.set k (b, Cs (splice cs o ((joinC c d).map I64)) t)) → K (.tuple #[]) w') :
    CallL P 97 [.pointer (some (Addr.mk b o none)), .agg (d.map I64).toArray] w K := by
  refine f97_ok _ _ _ _ ?_
  rw [f97_eq]
  refine h.newC fun n w1 hn h1 => ?_
  refine ⟨fun m e w => ∃ i : Nat, i ≤ 8 ∧ m = 8 - i ∧ e = Env.mk 22 [(5, (Value.int .i64 i)), (3, (Value.pointer (some (Addr.mk n 0 none)))), (0, (Value.pointer (some (Addr.mk b o none))))] [] ∧
    St w0 w ((n, Cs (d.map I64) 116) :: H.set k (b, Cs (splice cs o (((joinC c d).take i).map I64)) t)), ⟨8, 0, by omega, rfl, rfl, ?_⟩, ?_⟩
  · have : H.set k (b, Cs cs t) = H := by
      apply List.ext_getElem?
      intro j
      rw [List.getElem?_set]
      by_cases hkj : k = j
      · subst hkj; obtain ⟨h1, h2⟩ := List.getElem?_eq_some_iff.1 hk; simp [h1, h2]
      · simp [hkj]
    simpa [splice, this] using h1
  · rintro m e w ⟨i, hi, rfl, rfl, hs⟩
    show f97_lb0 _ _ _ _ _ _
    rw [f97_lb0_eq, BIf_iff]
    have hkl : k < H.length := (List.getElem?_eq_some_iff.1 hk).1
    constructor
    · intro hlt
      have hlt : i < 8 := by simp at hlt; omega
      rw [f97_s1_eq]
      have hcl : i < c.length := by omega
      have hdl : i < d.length := by omega
      have hjl : i < (joinC c d).length := by rw [joinC_length hc hd]; exact hlt
      have hd' := hs.drew
      have r1 : ∀ j, w.drew.cell? (Addr.mk n j none) = (d.map I64)[j]? := fun j => hd'.cell (k := 0) rfl
      have hget : ((n, Cs (d.map I64) 116) :: H.set k (b, Cs (splice cs o (((joinC c d).take i).map I64)) t))[k + 1]? = some (b, Cs (splice cs o (((joinC c d).take i).map I64)) t) := by simp [hkl]
      have hlen : (((joinC c d).take i).map I64).length = i := by simp; omega
      have hci : cs[o + i]? = some (I64 c[i]) := by
        have := congrArg (fun l => l[i]?) hcs
        simpa [List.getElem?_take, hlt, hcl] using this
      have r2 : w.drew.cell? (Addr.mk b (o + i) none) = some (I64 c[i]) := by
        rw [hd'.cell hget, splice_out _ _ _ _ (by rw [hlen]; omega), hci]
      simp only [optS, add_lit', Nat.mul_one, Nat.zero_add, Int.toNat_natCast]
      refine ⟨by omega, by omega, by omega, by omega, c[i], r2, d[i], by rw [r1]; simp [hdl], _, _, run_max _ _ _ _ _ _, by omega, by omega, ?_⟩
      refine hd'.st1 hget (by rw [splice_length]; omega) rfl fun w' hs' => ?_
      rw [f97_s2_eq]
      refine ⟨8 - (i + 1), by omega, i + 1, by omega, rfl, ?_, ?_⟩
      · rw [wrap_i64 (by omega) (by omega)]; rfl
      · have e1 : (splice cs o (((joinC c d).take i).map I64)).set (o + i) (I64 (joinC c d)[i]) = splice cs o (((joinC c d).take (i + 1)).map I64) := by
          rw [take_succ' _ hjl, List.map_append, List.map_singleton, splice_snoc, hlen]
        have e2 : (if d[i] > c[i] then d[i] else c[i]) = (joinC c d)[i] := by simp [joinC]
        rw [e2, e1] at hs'
        simpa using hs'
    · intro hge
      have : i = 8 := by simp at hge; omega
      subst this
      have e8 : (joinC c d).take 8 = joinC c d := List.take_of_length_le (by rw [joinC_length hc hd]; omega)
      rw [e8] at hs
      exact hK _ (hs.tail hn)

/-- The addresses of a range, one after the other. -/
theorem bytes95_ok {v0 : Value} {a1 a2 : Addr} {n at_ : Int} (I : Nat → World → Prop) (Dn : World → Prop) (hn : w.cell? a1 = some (I64 n)) (hn2 : n < 9223372036854775808)
    (hc : ∀ i W, I i W → W.cell? a2 = some (.int .u32 at_)) (h0 : I 0 w)
    (hy : ∀ i : Nat, (i : Int) < n → ∀ W, I i W → CallF P v0 [.int .u32 (IntKind.wrap .u32 (at_ + IntKind.wrap .u32 i))] W fun r W' => ∃ b, r = .bool b ∧ if b = true then I (i + 1) W' else Dn W')
    (hK : ∀ W, I n.toNat W ∨ Dn W → K (.tuple #[]) W) : CallL P 95 [v0, .pointer (some a1), .pointer (some a2)] w K := by
  refine f95_ok _ _ _ _ _ ?_
  rw [f95_eq]
  refine ⟨n, hn, ?_⟩
  refine ⟨fun m e w => ∃ i : Nat, i ≤ n.toNat ∧ m = n.toNat - i ∧ e = Env.mk 17 [(6, (Value.int .i64 i)), (2, (Value.pointer (some a2))), (0, v0), (5, (Value.int .i64 n))] [] ∧ I i w,
    ⟨n.toNat, 0, by omega, by omega, rfl, h0⟩, ?_⟩
  rintro m e w ⟨i, hi, rfl, rfl, hs⟩
  show f95_lb0 _ _ _ _ _ _ _
  rw [f95_lb0_eq, BIf_iff]
  constructor
  · intro hlt
    have hlt : (i : Int) < n := by simpa using hlt
    rw [f95_s1_eq]
    refine ⟨at_, hc i w hs, ?_⟩
    refine CallF_mono ?_ (hy i hlt w hs)
    rintro r W' ⟨b, rfl, hb⟩
    refine ⟨b, rfl, ?_⟩
    cases b
    · exact hK _ (.inr (by simpa using hb))
    · rw [Bool.not_true, BIf_false, f95_s2_eq]
      refine ⟨n.toNat - (i + 1), by omega, i + 1, by omega, rfl, ?_, by simpa using hb⟩
      rw [wrap_i64 (by omega) (by omega)]; rfl
  · intro hge
    have : n ≤ i := by simpa using hge
    have e : n.toNat = i := by omega
    exact hK _ (.inl (by rw [e]; exact hs))

theorem en95 : enterable P 95 = true := by kernel_rfl
/-- The deferred mark of a range over a function. -/
abbrev mk (l : Nat) : Deferred := { target := .collected l, args := #[] }
theorem range_bytes {KK : Exit → Env → World → Prop} {e : Env} {n at_ : Int} {round : Nat → (LoopState → Option Code → Loop) → (Option Code → World → Prop) → List Value → World → Prop}
    (h : St w0 w H) {b1 b2 : Nat} {t1 t2 : TypeId} (hk1 : (b1, Cs [I64 n] t1) ∈ H) (hn2 : n < 9223372036854775808)
    (I : Nat → List (Nat × Obj) → Prop) (J : Code → List (Nat × Obj) → Prop) (I0 : I 0 H) (hI : ∀ i H', I i H' → (b2, Cs [.int .u32 at_] t2) ∈ H')
    (hround : ∀ l l' R post (i : Nat) W H', (i : Int) < n → I i H' → St w0 W ((l, .loop (R .ready none)) :: (l', .deferred (some [])) :: H') → w0.heap.size ≤ l → w0.heap.size ≤ l' →
      (∀ W' H'', I (i + 1) H'' → St w0 W' ((l, .loop (R .ready none)) :: (l', .deferred (some [])) :: H'') → post none W') →
      (∀ c W' H'', J c H'' → St w0 W' ((l, .loop (R .done (some c))) :: (l', .deferred (some [])) :: H'') → post (some c) W') →
      round l R post [.int .u32 (IntKind.wrap .u32 (at_ + IntKind.wrap .u32 i))] W)
    (hend : ∀ W H' l', w0.heap.size ≤ l' → I n.toNat H' → St w0 W ((l', .deferred (some [])) :: H') → KK .normal { e with d := mk l' :: e.d } W)
    (hexit : ∀ c W H' l', w0.heap.size ≤ l' → J c H' → St w0 W ((l', .deferred (some [])) :: H') → afterS KK { e with d := mk l' :: e.d } W (some c)) :
    RangeC P KK e w (.func (.func 95) #[] #[.pointer (some (Addr.mk b1 0 none)), .pointer (some (Addr.mk b2 0 none))]) round := by
  refine ⟨en95, fun R hy => ?_⟩
  have h1 := (h.alloc (.deferred (some []))).alloc (.loop (R .ready none))
  have hsz : (w.alloc (.deferred (some []))).heap.size = w.heap.size + 1 := by simp
  rw [hsz] at h1
  have hle : w0.heap.size ≤ w.heap.size := h.le
  refine bytes95_ok (n := n) (at_ := at_) (fun i W => ∃ H', I i H' ∧ St w0 W ((w.heap.size + 1, .loop (R .ready none)) :: (w.heap.size, .deferred (some [])) :: H'))
    (fun W => ∃ c H', J c H' ∧ St w0 W ((w.heap.size + 1, .loop (R .done (some c))) :: (w.heap.size, .deferred (some [])) :: H')) ?_ hn2 ?_ ⟨H, I0, h1⟩ ?_ ?_
  · rw [cell_of (h1.has _ _ (.tail _ (.tail _ hk1)))]; rfl
  · rintro i W ⟨H', hi, hs⟩
    rw [cell_of (hs.has _ _ (.tail _ (.tail _ (hI i H' hi))))]; rfl
  · rintro i hi W ⟨H', hIi, hs⟩
    refine CallF_mono ?_ (hy [.int .u32 (IntKind.wrap .u32 (at_ + IntKind.wrap .u32 i))] W (fun j W' => match j with
      | none => ∃ H'', I (i + 1) H'' ∧ St w0 W' ((w.heap.size + 1, .loop (R .ready none)) :: (w.heap.size, .deferred (some [])) :: H'')
      | some c => ∃ H'', J c H'' ∧ St w0 W' ((w.heap.size + 1, .loop (R .done (some c))) :: (w.heap.size, .deferred (some [])) :: H''))
      (hround _ _ R _ i W H' hi hIi hs (by omega) (by omega) (fun W' H'' h1 h2 => ⟨H'', h1, h2⟩) (fun c W' H'' h1 h2 => ⟨H'', h1, h2⟩)) (hs.get (k := 0) rfl))
    rintro v W' ⟨j, rfl, hj⟩
    cases j with
    | none => exact ⟨true, rfl, by simpa using hj⟩
    | some c => exact ⟨false, rfl, by simp; obtain ⟨H'', h1, h2⟩ := hj; exact ⟨c, H'', h1, h2⟩⟩
  · rintro W (⟨H', hIi, hs⟩ | ⟨c, H', hJ, hs⟩)
    · refine ⟨.ready, none, hs.get (k := 0) rfl, by simp, ?_⟩
      exact hend _ H' _ hle hIi ((hs.put (k := 0) rfl _).tail (by omega))
    · refine ⟨.done, some c, hs.get (k := 0) rfl, by simp, ?_⟩
      exact hexit c _ H' _ hle hJ ((hs.put (k := 0) rfl _).tail (by omega))
end Go.Fx.Try
namespace Go.Fx.Try
open Go Go.Fx Go.Fx.Mo
open Go.Proofs
variable {w0 w : World} {H : List (Nat × Obj)} {K : Value → World → Prop}
set_option maxRecDepth 20000

theorem info99 : P.info? 99 = some Try.t99 := by kernel_rfl
def ords (l : List Ord) : List Value := (l.map Ordcs).flatten
/-- A plan's cells. -/
def planCs (tb : Nat) (e : Ev) (ov : Value) (ob nb : Nat) (p : Pl) : List Value :=
  .pointer (some (Addr.mk tb 0 none)) :: (Evcs e ++ ov :: (p.own.map I64 ++ [I64 p.tk, .map (some ob), .map (some nb), I64 p.fork, I64 p.ends, .bool p.rel, .bool p.bad]))
theorem build99a (k x : Int) (wq : World) : (Instr.build 99 [(0, (Value.int .i64 k)), (3, (Value.int .i64 x))].toArray).run P wq = .ok (.agg (Ordcs ⟨k, 0, 0, x⟩).toArray) wq := by kernel_rfl

theorem own8 {l : List Int} (h : l.length = 8) : ∃ a b c d e f g i, l = [a, b, c, d, e, f, g, i] := by
  match l, h with
  | [a, b, c, d, e, f, g, i], _ => exact ⟨a, b, c, d, e, f, g, i, rfl⟩
section
variable {tb ob nb : Nat} {e : Ev} {ov : Value} {p : Pl}
theorem planCs_len (ho : p.own.length = 8) : (planCs tb e ov ob nb p).length = 23 := by simp [planCs, Evcs, ho]
theorem planCs_own (ho : p.own.length = 8) {i : Nat} (hi : i < 8) : (planCs tb e ov ob nb p)[8 + i]? = some (I64 (p.own.getD i 0)) := by
  obtain ⟨a, b, c, d, f, g, h, j, hl⟩ := own8 ho
  simp only [planCs, Evcs, hl]
  rcases i with _ | _ | _ | _ | _ | _ | _ | _ | i <;> first | rfl | omega
theorem planCs_setown (ho : p.own.length = 8) {i : Nat} (hi : i < 8) (x : Int) : (planCs tb e ov ob nb p).set (8 + i) (I64 x) = planCs tb e ov ob nb { p with own := p.own.set i x } := by
  obtain ⟨a, b, c, d, f, g, h, j, hl⟩ := own8 ho
  simp only [planCs, Evcs, hl]
  rcases i with _ | _ | _ | _ | _ | _ | _ | _ | i <;> first | rfl | omega
theorem planCs_rest (ho : p.own.length = 8) (i : Nat) : (planCs tb e ov ob nb p)[16 + i]? = [I64 p.tk, .map (some ob), .map (some nb), I64 p.fork, I64 p.ends, .bool p.rel, .bool p.bad][i]? := by
  obtain ⟨a, b, c, d, f, g, h, j, hl⟩ := own8 ho
  simp only [planCs, Evcs, hl]
  show _ = _
  simp [List.getElem?_cons, Nat.add_comm 16 i]
end

theorem ords_snoc (l : List Ord) (o : Ord) : ords (l ++ [o]) = ords l ++ Ordcs o := by simp [ords]
theorem tick_tail {tb ob nb k n2 pb : Nat} {e : Ev} {ov : Value} {p : Pl} {t : TypeId} {o : Ord} {L : List (Nat × Obj)} (h : St w0 w ((n2, Cs (Ordcs { o with th := e.th }) 99) :: (L ++ H))) (hn2 : w0.heap.size ≤ n2)
    (hk : H[k]? = some (pb, Cs (planCs tb e ov ob nb p) t)) (ho : p.own.length = 8) (ht : 0 ≤ e.th ∧ e.th < 8)
    (hK : ∀ w', St w0 w' (L ++ H.set k (pb, Cs (planCs tb e ov ob nb (tick e p o)) t)) → K (.tuple #[]) w') : f127_s0 (Addr.mk n2 0 none) (some (Addr.mk pb 0 none)) w K := by
  rw [f127_s0_eq]
  obtain ⟨i, hi, hi8⟩ : ∃ i : Nat, e.th = i ∧ i < 8 := ⟨e.th.toNat, by omega, by omega⟩
  have hd := h.drew
  have hkk : ((n2, Cs (Ordcs { o with th := e.th }) 99) :: (L ++ H))[L.length + k + 1]? = some (pb, Cs (planCs tb e ov ob nb p) t) := by
    simp only [List.getElem?_cons_succ, idx_app, hk]
  have rn : ∀ i, w.drew.cell? (Addr.mk n2 i none) = (Ordcs { o with th := e.th })[i]? := fun i => hd.cell (k := 0) rfl
  simp only [optS, add_lit', Nat.mul_one, Nat.zero_add]
  refine ⟨e.th, by rw [rn]; rfl, by omega, by omega, p.own.getD i 0, ?_, by omega, by omega, ?_⟩
  · rw [hi, Int.toNat_natCast, hd.cell hkk]; exact planCs_own ho hi8
  · rw [hi, Int.toNat_natCast]
    refine hd.st1 hkk (by rw [planCs_len ho]; omega) rfl fun w1 h1 => ?_
    rw [planCs_setown ho hi8] at h1
    simp only [List.set_cons_succ, set_app] at h1
    rw [f127_s1_eq]
    have ho' : (p.own.set i (IntKind.wrap .i64 (p.own.getD i 0 + 1))).length = 8 := by simp [ho]
    have hkl : k < H.length := (List.getElem?_eq_some_iff.1 hk).1
    have hk1 : ∀ x, ((n2, Cs (Ordcs { o with th := e.th }) 99) :: (L ++ H.set k x))[L.length + k + 1]? = some x := fun x => by
      simp only [List.getElem?_cons_succ, idx_app]; simp [hkl]
    simp only [optS, add_lit', Nat.mul_one, Nat.zero_add]
    have hti : tick e p o = { p with orders := p.orders ++ [{ o with th := e.th }], own := p.own.set i (IntKind.wrap .i64 (p.own.getD i 0 + 1)), tk := if p.tk = 0 then (p.own.set i (IntKind.wrap .i64 (p.own.getD i 0 + 1))).getD i 0 else p.tk } := by
      simp [tick, at0, hi, w64]
    refine ⟨p.tk, by rw [h1.cell (hk1 _), planCs_rest ho' 0]; rfl, ?_⟩
    rw [BIf_iff]
    constructor
    · intro h0
      have h0 : p.tk = 0 := by simpa using h0
      have h1d := h1.drew
      refine ⟨e.th, by rw [h1d.cell (k := 0) rfl]; rfl, by omega, by omega, _, by rw [hi, Int.toNat_natCast, h1d.cell (hk1 _)]; exact planCs_own ho' hi8, ?_⟩
      refine h1d.st1 (hk1 _) (by rw [planCs_len ho']; omega) rfl fun w2 h2 => ?_
      refine hK w2 (St.tail (b := n2) (o := Cs (Ordcs { o with th := e.th }) 99) ?_ hn2)
      rw [hti, if_pos h0]
      simp only [List.set_cons_succ, set_app, List.set_set] at h2
      have e1 : (planCs tb e ov ob nb { p with own := p.own.set i (IntKind.wrap .i64 (p.own.getD i 0 + 1)) }).set 16 (Value.int IntKind.i64 ((p.own.set i (IntKind.wrap .i64 (p.own.getD i 0 + 1))).getD i 0)) =
          planCs tb e ov ob nb { p with own := p.own.set i (IntKind.wrap .i64 (p.own.getD i 0 + 1)), tk := (p.own.set i (IntKind.wrap .i64 (p.own.getD i 0 + 1))).getD i 0 } := by
        obtain ⟨a, b, c, d, f, g, hh, j, hl⟩ := own8 ho'
        simp only [planCs, Evcs, hl]
        rfl
      rw [e1] at h2
      exact h2
    · intro h0
      have h0 : p.tk ≠ 0 := by simpa using h0
      refine hK w1 (St.tail (b := n2) (o := Cs (Ordcs { o with th := e.th }) 99) ?_ hn2)
      rw [hti, if_neg h0]
      exact h1

theorem idx2 {a b x : Nat × Obj} {L H : List (Nat × Obj)} {k : Nat} (hk : H[k]? = some x) : (a :: b :: (L ++ H))[L.length + k + 1 + 1]? = some x := by simp only [List.getElem?_cons_succ, idx_app, hk]
theorem idx1 {a x : Nat × Obj} {L H : List (Nat × Obj)} {k : Nat} (hk : H[k]? = some x) : (a :: (L ++ H))[L.length + k + 1]? = some x := by simp only [List.getElem?_cons_succ, idx_app, hk]
theorem set2 {a b x : Nat × Obj} {L H : List (Nat × Obj)} {k : Nat} : (a :: b :: (L ++ H)).set (L.length + k + 1 + 1) x = a :: b :: (L ++ H.set k x) := by simp only [List.set_cons_succ, set_app]
theorem tick_ok {tb ob nb k pb : Nat} {e : Ev} {ov : Value} {p : Pl} {t : TypeId} {o : Ord} {L : List (Nat × Obj)} (h : St w0 w (L ++ H)) (hL : SlO 4 99 ov p.orders.length (ords p.orders) L) (hLn : New w0 L)
    (hk : H[k]? = some (pb, Cs (planCs tb e ov ob nb p) t)) (ho : p.own.length = 8) (ht : 0 ≤ e.th ∧ e.th < 8) (hn : p.orders.length < 1000000)
    (hK : ∀ w' ov' L', St w0 w' (L' ++ H.set k (pb, Cs (planCs tb e ov' ob nb (tick e p o)) t)) → SlO 4 99 ov' (p.orders.length + 1) (ords (p.orders ++ [{ o with th := e.th }])) L' → New w0 L' → K (.tuple #[]) w') :
    CallL P 127 [.pointer (some (Addr.mk pb 0 none)), .agg (Ordcs o).toArray] w K := by
  refine f127_ok _ _ _ _ ?_
  rw [f127_eq]
  refine h.newC fun n2 w3 hn2 h3 => ?_
  simp only [optS, add_lit', Nat.zero_add]
  have hkl : k < H.length := (List.getElem?_eq_some_iff.1 hk).1
  obtain ⟨sa, sc, hov⟩ := hL.form
  refine ⟨e.th, by rw [h3.cell (idx1 hk)]; rfl, ?_⟩
  refine h3.st1 (k := 0) rfl (by simp [Ordcs]) rfl fun w6 h6 => ?_
  have h6 : St w0 w6 ((n2, Cs (Ordcs { o with th := e.th }) 99) :: (L ++ H)) := h6
  have h6d := h6.drew
  refine h6d.ldA (k := 0) (i := 0) rfl (by simp [Ordcs]) ?_
  have fin : ∀ n13 w11, w0.heap.size ≤ n13 → St w0 w11 ((n13, Cs (Ordcs { o with th := e.th }) 99) :: (n2, Cs (Ordcs { o with th := e.th }) 99) :: (L ++ H)) →
      ∃ g cap w15, (Builtin.append_ #[57, 57] 57 [ov, .slice (some ⟨n13, 0, none⟩) 1 1].toArray).run P w11 = .ok (.slice (some ⟨g, 0, none⟩) (p.orders.length + 1) cap) w15 ∧
        St1 (Addr.mk pb 7 none) (.slice (some ⟨g, 0, none⟩) (p.orders.length + 1) cap) w15 fun w17 => f127_s0 (Addr.mk n2 0 none) (some (Addr.mk pb 0 none)) w17 K := by
    intro n13 w11 hn13 h11
    obtain ⟨g, cap, w', L', hr, hS, hs', hN⟩ := St.append (P := P) 57 57 99 Try.t99 (.agg #[I64 0, I64 0, I64 0, I64 0]) 4 32 Try.underlying57 info99 rfl rfl rfl rfl (by omega)
      (A := [(n13, Cs (Ordcs { o with th := e.th }) 99), (n2, Cs (Ordcs { o with th := e.th }) 99)]) h11 hL hLn (j := 0) rfl (by simp [Ordcs]) (by simp [Ordcs, Value.oneCell']) (by simp [maxLen]; omega) (by omega)
    refine ⟨g, cap, w', hr, ?_⟩
    have hs' : St w0 w' ((n13, Cs (Ordcs { o with th := e.th }) 99) :: (n2, Cs (Ordcs { o with th := e.th }) 99) :: (L' ++ H)) := hs'
    refine hs'.st1 (cs := planCs tb e ov ob nb p) (idx2 (L := L') hk) (by rw [planCs_len ho]; omega) rfl fun w17 h17 => ?_
    rw [set2] at h17
    refine tick_tail (ov := .slice (some ⟨g, 0, none⟩) (p.orders.length + 1) cap) (h17.tail hn13) hn2 (by rw [List.getElem?_set_self hkl]; rfl) ho ht fun w18 h18 => ?_
    rw [List.set_set] at h18
    exact hK w18 _ L' h18 (by rw [ords_snoc]; exact hS) hN
  have hrd : ∀ w : World, w.heap[pb]? = some (Cs (planCs tb e ov ob nb p) t) → w.cell? (Addr.mk pb 7 none) = some (Value.slice sa p.orders.length sc) := fun w hw => by
    rw [cell_of hw, ← hov]; rfl
  constructor
  · refine ⟨sa, _, sc, hrd _ (h6d.get (idx1 hk)), ⟨rfl, trivial⟩, ?_⟩
    refine h6d.newC fun n13 w11 hn13 h11 => ?_
    obtain ⟨g, cap, w15, hr, hst⟩ := fin n13 w11 hn13 h11
    rw [hov] at hr
    exact ⟨_, _, _, w15, hr, hst⟩
  · refine ⟨⟨rfl, trivial⟩, ?_⟩
    refine h6d.newC fun n13 w11 hn13 h11 => ?_
    obtain ⟨g, cap, w15, hr, hst⟩ := fin n13 w11 hn13 h11
    rw [hov] at hr
    exact ⟨sa, _, sc, hrd _ (h11.get (idx2 hk)), _, _, _, w15, hr, hst⟩

theorem set1 {a x : Nat × Obj} {L H : List (Nat × Obj)} {k : Nat} : (a :: (L ++ H)).set (L.length + k + 1) x = a :: (L ++ H.set k x) := by simp only [List.set_cons_succ, set_app]
theorem planCs_set {tb ob nb : Nat} {e : Ev} {ov : Value} {p : Pl} (ho : p.own.length = 8) (b : Bool) : (planCs tb e ov ob nb p).set 22 (.bool b) = planCs tb e ov ob nb { p with bad := b } := by
  obtain ⟨a, b, c, d, f, g, h, j, hl⟩ := own8 ho
  simp only [planCs, Evcs, hl]
  rfl
/-! The threads. -/
def thCs (T : Th) (ob nb : Nat) : List Value := T.clocks.flatten.map I64 ++ (T.begun.map .bool ++ (T.ended.map .bool ++ (T.rels.map I64 ++ [.map (some ob), .map (some nb)])))
structure ThOk (T : Th) : Prop where
  clocks : T.clocks.length = 8
  each : ∀ c ∈ T.clocks, c.length = 8
  begun : T.begun.length = 8
  ended : T.ended.length = 8
  rels : T.rels.length = 8
  objs : ∀ q ∈ T.objs, q.2.length = 8
theorem flat_len {l : List Clk} (h : ∀ c ∈ l, c.length = 8) : l.flatten.length = 8 * l.length := by
  induction l with
  | nil => rfl
  | cons c r ih =>
    simp only [List.flatten_cons, List.length_append, List.length_cons]
    rw [ih (fun d hd => h d (.tail _ hd)), h c (.head _)]
    omega
section
variable {T : Th} {ob nb : Nat} {rest : List Value}
theorem thCs_len (h : ThOk T) : (thCs T ob nb).length = 90 := by
  have hf := flat_len h.each
  simp only [thCs, List.length_append, List.length_map, hf, h.clocks, h.begun, h.ended, h.rels, List.length_cons, List.length_nil]
theorem thCs_end (h : ThOk T) (i : Nat) : (thCs T ob nb ++ rest)[88 + i]? = ([.map (some ob), .map (some nb)] ++ rest)[i]? := by
  have hf := flat_len h.each
  unfold thCs
  simp only [List.append_assoc]
  rw [List.getElem?_append_right (by simp only [List.length_map, hf, h.clocks]; omega), List.getElem?_append_right (by simp only [List.length_map, hf, h.clocks, h.begun]; omega),
    List.getElem?_append_right (by simp only [List.length_map, hf, h.clocks, h.begun, h.ended]; omega), List.getElem?_append_right (by simp only [List.length_map, hf, h.clocks, h.begun, h.ended, h.rels]; omega)]
  congr 1
  simp only [List.length_map, hf, h.clocks, h.begun, h.ended, h.rels]
  omega
end

theorem set_self {k : Nat} {x : Nat × Obj} {H : List (Nat × Obj)} (hk : H[k]? = some x) : H.set k x = H := by
  apply List.ext_getElem?
  intro j
  rw [List.getElem?_set]
  by_cases hkj : k = j
  · subst hkj; obtain ⟨h1, h2⟩ := List.getElem?_eq_some_iff.1 hk; simp [h1, h2]
  · simp [hkj]
abbrev encI (n : Int) : Value := I64 n
abbrev encC (c : Clk) : Value := .agg (c.map I64).toArray
def Obcs (x : Ob) : List Value := [.bool x.1, .int .u32 x.2]

/-- A plan and its threads: the blocks that stay. -/
structure PB where
  pb : Nat
  ob : Nat
  nb : Nat
  tb : Nat
  tob : Nat
  tnb : Nat
  t : TypeId
  tt : TypeId
  e : Ev
  T : Th
  rest : List Value
  es3 : Array MapEntry
  c3 : Nat
  es4 : Array MapEntry
  c4 : Nat
/-- .. and what changes. -/
structure PD where
  ov : Value
  p : Pl
  es1 : Array MapEntry
  c1 : Nat
  es2 : Array MapEntry
  c2 : Nat
abbrev plH (B : PB) (D : PD) (R : List (Nat × Obj)) : List (Nat × Obj) :=
  (B.pb, Cs (planCs B.tb B.e D.ov B.ob B.nb D.p) B.t) :: (B.ob, .map D.es1 D.c1) :: (B.nb, .map D.es2 D.c2) :: (B.tb, Cs (thCs B.T B.tob B.tnb ++ B.rest) B.tt) :: (B.tob, .map B.es3 B.c3) :: (B.tnb, .map B.es4 B.c4) :: R
structure PBok (B : PB) : Prop where
  th : ThOk B.T
  m3 : MapIs encO B.es3 B.c3 (encM encC B.T.objs)
  m4 : MapIs encO B.es4 B.c4 (encM encI B.T.names)
  lt : 0 ≤ B.e.th ∧ B.e.th < 8
structure PDok (D : PD) : Prop where
  own : D.p.own.length = 8
  m1 : MapIs encO D.es1 D.c1 (encM encC D.p.objs)
  m2 : MapIs encO D.es2 D.c2 (encM encI D.p.names)
  each : ∀ q ∈ D.p.objs, q.2.length = 8

theorem number_ok {B : PB} {D : PD} {R L : List (Nat × Obj)} (h : St w0 w (L ++ plH B D R)) (hB : PBok B) (hD : PDok D) (x : Ob)
    (hK : ∀ w' D', St w0 w' (L ++ plH B D' R) → PDok D' → D'.ov = D.ov → D'.p = (number B.T D.p x).2 → K (I64 (number B.T D.p x).1) w') :
    CallL P 128 [.pointer (some (Addr.mk B.pb 0 none)), .agg (Obcs x).toArray] w K := by
  refine f128_ok _ _ _ _ ?_
  rw [f128_eq]
  refine h.newC fun n2 w3 hn2 h3 => ?_
  have h3d := h3.drew
  have i0 : ∀ D', ((n2, Cs (Obcs x) 147) :: (L ++ plH B D' R))[L.length + 0 + 1]? = some (B.pb, Cs (planCs B.tb B.e D'.ov B.ob B.nb D'.p) B.t) := fun D' => idx1 (L := L) (k := 0) rfl
  have i2 : ∀ D', ((n2, Cs (Obcs x) 147) :: (L ++ plH B D' R))[L.length + 2 + 1]? = some (B.nb, .map D'.es2 D'.c2) := fun D' => idx1 rfl
  have i3 : ∀ D', ((n2, Cs (Obcs x) 147) :: (L ++ plH B D' R))[L.length + 3 + 1]? = some (B.tb, Cs (thCs B.T B.tob B.tnb ++ B.rest) B.tt) := fun D' => idx1 rfl
  have i5 : ∀ D', ((n2, Cs (Obcs x) 147) :: (L ++ plH B D' R))[L.length + 5 + 1]? = some (B.tnb, .map B.es4 B.c4) := fun D' => idx1 rfl
  refine ⟨some (Addr.mk B.tb 0 none), by rw [h3d.cell (i0 D)]; rfl, some B.tnb, by rw [add_lit', h3d.cell (i3 D)]; exact thCs_end hB.th 1, ?_⟩
  refine h3d.ldA (k := 0) (i := 0) rfl (by simp [Obcs]) ?_
  have hlk : ∀ wq, Ext w3.drew wq → (Instr.lookup 119 (.map (some B.tnb)) (encO x) true).run P wq = .ok (.tuple #[((Mo.look B.T.names x).map encI).getD (I64 0), .bool ((Mo.look B.T.names x).map encI).isSome]) wq := fun wq hx => by
    have := hB.m4.lookup keyO Try.underlying119 zero3 (w := wq) (b := B.tnb) (by rw [hx _ (h3d.lt (List.mem_of_getElem? (i5 D)))]; exact h3d.get (i5 D)) x true
    simpa [lookM_map] using this
  refine ⟨(Mo.look B.T.names x).getD 0, (Mo.look B.T.names x).isSome, fun wq hx => by rw [show Value.agg (List.take 2 (List.drop 0 (Obcs x).toArray.toList)).toArray = encO x from rfl, hlk wq hx]; cases Mo.look B.T.names x <;> rfl, ?_⟩
  cases hl1 : Mo.look B.T.names x with
  | some n =>
    simp only [Option.isSome_some, Option.getD_some, BIf_true]
    have := hK w3.drew D (h3d.tail hn2) hD rfl (by simp [number, hl1])
    simpa [number, hl1] using this
  | none =>
    simp only [Option.isSome_none, BIf_false]
    rw [f128_s0_eq]
    have h4 := h3d.drew
    refine ⟨some B.nb, by rw [add_lit', h4.cell (i0 D)]; exact planCs_rest hD.own 2, ?_⟩
    refine h4.ldA (k := 0) (i := 0) rfl (by simp [Obcs]) ?_
    have hlk2 : ∀ wq, Ext w3.drew.drew wq → (Instr.lookup 119 (.map (some B.nb)) (encO x) true).run P wq = .ok (.tuple #[((Mo.look D.p.names x).map encI).getD (I64 0), .bool ((Mo.look D.p.names x).map encI).isSome]) wq := fun wq hx => by
      have := hD.m2.lookup keyO Try.underlying119 zero3 (w := wq) (b := B.nb) (by rw [hx _ (h4.lt (List.mem_of_getElem? (i2 D)))]; exact h4.get (i2 D)) x true
      simpa [lookM_map] using this
    refine ⟨(Mo.look D.p.names x).getD 0, (Mo.look D.p.names x).isSome, fun wq hx => by rw [show Value.agg (List.take 2 (List.drop 0 (Obcs x).toArray.toList)).toArray = encO x from rfl, hlk2 wq hx]; cases Mo.look D.p.names x <;> rfl, ?_⟩
    cases hl2 : Mo.look D.p.names x with
    | some n =>
      simp only [Option.isSome_some, Option.getD_some, Bool.not_true, BIf_false, f128_s2_eq]
      have := hK w3.drew.drew D (h4.tail hn2) hD rfl (by simp [number, hl1, hl2])
      simpa [number, hl1, hl2] using this
    | none =>
      simp only [Option.isSome_none, Bool.not_false, BIf_true]
      have h5 := h4.drew
      have h6 := h5.drew
      refine ⟨some (Addr.mk B.tb 0 none), by rw [h5.cell (i0 D)]; rfl, some B.tnb, by rw [add_lit', h5.cell (i3 D)]; exact thCs_end hB.th 1, B.T.names.length, fun wq hx => ?_,
        some B.nb, by rw [add_lit', h5.cell (i0 D)]; exact planCs_rest hD.own 2, D.p.names.length, fun wq hx => ?_, some B.nb, by rw [add_lit', h6.cell (i0 D)]; exact planCs_rest hD.own 2, ?_⟩
      · have := hB.m4.len (w := wq) (b := B.tnb) (by rw [hx _ (h5.lt (List.mem_of_getElem? (i5 D)))]; exact h5.get (i5 D)) Try.underlying119 3
        simpa using this
      · have := hD.m2.len (w := wq) (b := B.nb) (by rw [hx _ (h5.lt (List.mem_of_getElem? (i2 D)))]; exact h5.get (i2 D)) Try.underlying119 3
        simpa using this
      · refine h6.ldA (k := 0) (i := 0) rfl (by simp [Obcs]) ?_
        obtain ⟨es', clk', hr, hm⟩ := hD.m2.update keyO Try.underlying119 (h6.get (i2 D)) x (encI (w64 (B.T.names.length + D.p.names.length)))
        rw [putM_map] at hm
        refine ⟨_, hr, ?_⟩
        have h7 := h6.put (i2 D) (.map es' clk')
        rw [set1] at h7
        have hnum : number B.T D.p x = (w64 (B.T.names.length + D.p.names.length), { D.p with names := Mo.put D.p.names x (w64 (B.T.names.length + D.p.names.length)), bad := D.p.bad || decide (w64 (B.T.names.length + D.p.names.length) ≥ 65536) }) := by
          simp [number, hl1, hl2]
        rw [hnum] at hK
        let D1 : PD := { D with es2 := es', c2 := clk', p := { D.p with names := Mo.put D.p.names x (w64 (B.T.names.length + D.p.names.length)) } }
        have h7 : St w0 _ ((n2, Cs (Obcs x) 147) :: (L ++ plH B D1 R)) := h7
        have fin : ∀ bb : Bool, (D.p.bad || decide (w64 (B.T.names.length + D.p.names.length) ≥ 65536)) = bb → St1 (Addr.mk B.pb 22 none) (.bool bb) _ fun w' => K (I64 (w64 (B.T.names.length + D.p.names.length))) w' := fun bb hbb => by
          refine h7.st1 (cs := planCs B.tb B.e D1.ov B.ob B.nb D1.p) (i0 D1) (by rw [planCs_len (p := D1.p) hD.own]; omega) rfl fun w8 h8 => ?_
          rw [set1 (k := 0), planCs_set (p := D1.p) hD.own] at h8
          refine hK w8 { D1 with p := { D1.p with bad := bb } } (h8.tail hn2) ⟨hD.own, hD.m1, hm, hD.each⟩ rfl (by rw [hbb])
        rw [f128_s1_eq]
        refine ⟨D.p.bad, by rw [add_lit', h7.cell (i0 D1)]; exact planCs_rest hD.own 6, ?_⟩
        rw [BIf_iff]
        constructor
        · intro hb
          simp only [f128_s2_eq]
          exact fin true (by rw [hb]; rfl)
        · intro hb
          simp only [f128_s2_eq]
          exact fin _ (by rw [hb]; rfl)

theorem z116 : zcells P 116 = #[I64 0, I64 0, I64 0, I64 0, I64 0, I64 0, I64 0, I64 0] := by kernel_rfl
theorem splice_all {cs vs : List Value} (h : cs.length = vs.length) : splice cs 0 vs = vs := by
  rw [splice_eq _ _ _ (by omega)]
  simp [h]
theorem planCs_splice {tb ob nb : Nat} {e : Ev} {ov : Value} {p : Pl} (ho : p.own.length = 8) {d : Clk} (hd : d.length = 8) : splice (planCs tb e ov ob nb p) 8 (d.map I64) = planCs tb e ov ob nb { p with own := d } := by
  obtain ⟨a, b, c, d', f, g, h, j, hl⟩ := own8 ho
  obtain ⟨a2, b2, c2, d2, f2, g2, h2, j2, hl2⟩ := own8 hd
  simp only [planCs, Evcs, hl, hl2]
  rfl
theorem planCs_drop {tb ob nb : Nat} {e : Ev} {ov : Value} {p : Pl} (ho : p.own.length = 8) : ((planCs tb e ov ob nb p).drop 8).take 8 = p.own.map I64 := by
  obtain ⟨a, b, c, d', f, g, h, j, hl⟩ := own8 ho
  simp only [planCs, Evcs, hl]
  rfl
theorem look_mem {K' V : Type} [DecidableEq K'] {m : List (K' × V)} {k : K'} {v : V} (h : Mo.look m k = some v) : ∃ q ∈ m, q.2 = v := by
  unfold Mo.look at h
  obtain ⟨q, hq, rfl⟩ := Option.map_eq_some_iff.1 h
  exact ⟨q, List.mem_of_find?_eq_some hq, rfl⟩
theorem clockOf_len {T : Th} {p : Pl} {x : Ob} (hT : ThOk T) (hp : ∀ q ∈ p.objs, q.2.length = 8) : (clockOf T p x).length = 8 := by
  unfold clockOf
  split
  · rename_i c hc
    obtain ⟨q, hq, rfl⟩ := look_mem hc
    exact hp q hq
  · cases ho : Mo.look T.objs x with
    | none => rfl
    | some c =>
      obtain ⟨q, hq, rfl⟩ := look_mem ho
      exact hT.objs q hq
theorem getD_encC (o : Option Clk) : (o.map encC).getD (.agg #[I64 0, I64 0, I64 0, I64 0, I64 0, I64 0, I64 0, I64 0]) = encC (o.getD zeroC) := by cases o <;> rfl

theorem acquire_tail {B : PB} {D : PD} {R L : List (Nat × Obj)} {n9 n2 : Nat} {x : Ob} {c : Clk} (h : St w0 w ((n9, Cs (c.map I64) 116) :: (n2, Cs (Obcs x) 147) :: (L ++ plH B D R))) (h9 : w0.heap.size ≤ n9) (h2 : w0.heap.size ≤ n2)
    (hD : D.p.own.length = 8) (hc : c.length = 8) (hK : ∀ w', St w0 w' (L ++ plH B { D with p := { D.p with own := joinC D.p.own c } } R) → K (.tuple #[]) w') :
    f129_s1 (Addr.mk n9 0 none) (some (Addr.mk B.pb 0 none)) w K := by
  rw [f129_s1_eq]
  have hd := h.drew
  refine hd.ldA (k := 0) (i := 0) rfl (by simp [hc]) ?_
  have e : (List.take 8 (List.drop 0 (c.map I64))) = c.map I64 := List.take_of_length_le (by simp [hc])
  rw [e, add_lit']
  refine join_ok hd (cs := planCs B.tb B.e D.ov B.ob B.nb D.p) (idx2 (L := L) (k := 0) rfl) hD hc (by rw [planCs_len hD]; omega) (planCs_drop hD) fun w' h' => ?_
  refine ⟨rfl, hK w' ?_⟩
  rw [set2 (k := 0), planCs_splice hD (joinC_length hD hc)] at h'
  exact (h'.tail h9).tail h2

theorem lookO {es : Array MapEntry} {clk : Nat} {m : List (Ob × Clk)} (hm : MapIs encO es clk (encM encC m)) {w wq : World} {b : Nat} (hx : Ext w wq) (hb : w.heap[b]? = some (.map es clk)) (x : Ob) (ok : Bool) :
    (Instr.lookup 118 (.map (some b)) (encO x) ok).run P wq = .ok (if ok then .tuple #[encC ((Mo.look m x).getD zeroC), .bool (Mo.look m x).isSome] else encC ((Mo.look m x).getD zeroC)) wq := by
  have := hm.lookup keyO Try.underlying118 zero116 (w := wq) (b := b) (by rw [hx _ (Array.getElem?_eq_some_iff.1 hb).1]; exact hb) x ok
  rw [lookM_map, getD_encC] at this
  rw [this]
  cases Mo.look m x <;> rfl
theorem acquire_ok {B : PB} {D : PD} {R L : List (Nat × Obj)} (h : St w0 w (L ++ plH B D R)) (hB : PBok B) (hD : PDok D) (x : Ob)
    (hK : ∀ w', St w0 w' (L ++ plH B { D with p := acquire B.T D.p x } R) → K (.tuple #[]) w') :
    CallL P 129 [.pointer (some (Addr.mk B.pb 0 none)), .agg (Obcs x).toArray] w K := by
  refine f129_ok _ _ _ _ ?_
  rw [f129_eq]
  refine h.newC fun n2 w3 hn2 h3 => ?_
  have h3d := h3.drew
  have i1 : ((n2, Cs (Obcs x) 147) :: (L ++ plH B D R))[L.length + 1 + 1]? = some (B.ob, .map D.es1 D.c1) := idx1 rfl
  refine ⟨some B.ob, by rw [add_lit', h3d.cell (idx1 (L := L) (k := 0) rfl)]; exact planCs_rest hD.own 1, ?_⟩
  refine h3d.ldA (k := 0) (i := 0) rfl (by simp [Obcs]) ?_
  refine ⟨(((Mo.look D.p.objs x).getD zeroC).map I64).toArray, (Mo.look D.p.objs x).isSome, fun wq hx => lookO hD.m1 hx (h3d.get i1) x true, ?_⟩
  have hc7 : ((Mo.look D.p.objs x).getD zeroC).length = 8 := by
    cases hl : Mo.look D.p.objs x with
    | none => rfl
    | some c => obtain ⟨q, hq, rfl⟩ := look_mem hl; exact hD.each q hq
  refine h3d.newC fun n9 w10 hn9 h10 => ?_
  rw [z116] at h10
  refine h10.stA (k := 0) (i := 0) rfl (by simp [hc7]) (by simp) (by simp [Value.oneCell']) fun w11 h11 => ?_
  have e1 : splice [I64 0, I64 0, I64 0, I64 0, I64 0, I64 0, I64 0, I64 0] 0 (((Mo.look D.p.objs x).getD zeroC).map I64) = ((Mo.look D.p.objs x).getD zeroC).map I64 := splice_all (by simp [hc7])
  have h11 : St w0 w11 ((n9, Cs (splice [I64 0, I64 0, I64 0, I64 0, I64 0, I64 0, I64 0, I64 0] 0 (((Mo.look D.p.objs x).getD zeroC).map I64)) 116) :: (n2, Cs (Obcs x) 147) :: (L ++ plH B D R)) := h11
  rw [e1] at h11
  have hcl := clockOf_len (x := x) hB.th hD.each
  rw [f129_s0_eq]
  cases hl : Mo.look D.p.objs x with
  | some c =>
    simp only [Option.isSome_some, Bool.not_true, BIf_false]
    rw [hl] at h11
    have hcc : clockOf B.T D.p x = c := by simp [clockOf, hl]
    refine acquire_tail (c := c) h11 hn9 hn2 hD.own (by rw [← hcc]; exact hcl) fun w' h' => hK w' ?_
    simpa [acquire, hcc] using h'
  | none =>
    simp only [Option.isSome_none, Bool.not_false, BIf_true]
    have h12 := h11.drew
    have hcc : clockOf B.T D.p x = (Mo.look B.T.objs x).getD zeroC := by simp [clockOf, hl]
    refine ⟨some (Addr.mk B.tb 0 none), by rw [h12.cell (idx2 (L := L) (k := 0) rfl)]; rfl, some B.tob, by rw [add_lit', h12.cell (idx2 (L := L) (k := 3) rfl)]; exact thCs_end hB.th 0, ?_⟩
    refine h12.ldA (k := 1) (i := 0) rfl (by simp [Obcs]) ?_
    refine ⟨((clockOf B.T D.p x).map I64).toArray, fun wq hx => ?_, ?_⟩
    · rw [hcc]
      exact lookO hB.m3 hx (h12.get (idx2 (L := L) (k := 4) rfl)) x false
    · refine h12.stA (k := 0) (i := 0) rfl (by simp [hcl]) (by simp [hc7]) (by simp [Value.oneCell']) fun w13 h13 => ?_
      have h13 : St w0 w13 ((n9, Cs (splice (((Mo.look D.p.objs x).getD zeroC).map I64) 0 ((clockOf B.T D.p x).map I64)) 116) :: (n2, Cs (Obcs x) 147) :: (L ++ plH B D R)) := h13
      rw [splice_all (by simp [hc7, hcl])] at h13
      exact acquire_tail h13 hn9 hn2 hD.own hcl fun w' h' => hK w' h'

theorem planCs_setrel {tb ob nb : Nat} {e : Ev} {ov : Value} {p : Pl} (ho : p.own.length = 8) (b : Bool) : (planCs tb e ov ob nb p).set 21 (.bool b) = planCs tb e ov ob nb { p with rel := b } := by
  obtain ⟨a, b, c, d, f, g, h, j, hl⟩ := own8 ho
  simp only [planCs, Evcs, hl]
  rfl
theorem release_tail {B : PB} {D : PD} {R L : List (Nat × Obj)} {n9 n2 : Nat} {x : Ob} {c : Clk} (h : St w0 w ((n9, Cs (c.map I64) 116) :: (n2, Cs (Obcs x) 147) :: (L ++ plH B D R))) (h9 : w0.heap.size ≤ n9) (h2 : w0.heap.size ≤ n2)
    (hD : PDok D) (hc : c.length = 8) (hK : ∀ w' D', St w0 w' (L ++ plH B D' R) → PDok D' → D'.ov = D.ov → D'.p = { D.p with objs := Mo.put D.p.objs x (joinC c D.p.own), rel := true } → K (.tuple #[]) w') :
    f130_s1 (some (Addr.mk B.pb 0 none)) (Addr.mk n9 0 none) (Addr.mk n2 0 none) w K := by
  rw [f130_s1_eq]
  show LdA 8 ((Addr.mk B.pb 0 none).add 8) _ _
  rw [add_lit']
  refine h.ldA (cs := planCs B.tb B.e D.ov B.ob B.nb D.p) (idx2 (L := L) (k := 0) rfl) (by rw [planCs_len hD.own]; omega) ?_
  rw [planCs_drop hD.own]
  refine join_ok h (k := 0) (o := 0) (c := c) rfl hc hD.own (by simp [hc]) (by rw [List.drop_zero]; exact List.take_of_length_le (by simp [hc])) fun w1 h1 => ?_
  have hj := joinC_length hc hD.own
  have h1 : St w0 w1 ((n9, Cs (splice (c.map I64) 0 ((joinC c D.p.own).map I64)) 116) :: (n2, Cs (Obcs x) 147) :: (L ++ plH B D R)) := h1
  rw [splice_all (by simp [hc, hj])] at h1
  refine ⟨rfl, ?_⟩
  have h1d := h1.drew
  refine ⟨some B.ob, by rw [add_lit', h1d.cell (idx2 (L := L) (k := 0) rfl)]; exact planCs_rest hD.own 1, ?_⟩
  refine h1d.ldA (k := 1) (i := 0) rfl (by simp [Obcs]) ?_
  refine h1d.ldA (k := 0) (i := 0) rfl (by simp [hj]) ?_
  have e : List.take 8 (List.drop 0 ((joinC c D.p.own).map I64)) = (joinC c D.p.own).map I64 := List.take_of_length_le (by simp [hj])
  rw [e]
  have i1 : ((n9, Cs ((joinC c D.p.own).map I64) 116) :: (n2, Cs (Obcs x) 147) :: (L ++ plH B D R))[L.length + 1 + 1 + 1]? = some (B.ob, .map D.es1 D.c1) := idx2 rfl
  obtain ⟨es', clk', hr, hm⟩ := hD.m1.update keyO Try.underlying118 (h1d.get i1) x (encC (joinC c D.p.own))
  rw [putM_map] at hm
  refine ⟨_, hr, ?_⟩
  have h2' := h1d.put i1 (.map es' clk')
  rw [set2] at h2'
  let D1 : PD := { D with es1 := es', c1 := clk', p := { D.p with objs := Mo.put D.p.objs x (joinC c D.p.own) } }
  have h2' : St w0 _ ((n9, Cs ((joinC c D.p.own).map I64) 116) :: (n2, Cs (Obcs x) 147) :: (L ++ plH B D1 R)) := h2'
  rw [f130_s2_eq]
  show St1 ((Addr.mk B.pb 0 none).add 21) _ _ _
  rw [add_lit']
  refine h2'.st1 (cs := planCs B.tb B.e D1.ov B.ob B.nb D1.p) (idx2 (L := L) (k := 0) rfl) (by rw [planCs_len (p := D1.p) hD.own]; omega) rfl fun w3 h3 => ?_
  rw [set2 (k := 0), planCs_setrel (p := D1.p) hD.own] at h3
  refine hK w3 { D1 with p := { D1.p with rel := true } } ((h3.tail h9).tail h2) ⟨hD.own, hm, hD.m2, fun q hq => ?_⟩ rfl rfl
  have hq : q ∈ Mo.put D.p.objs x (joinC c D.p.own) := hq
  unfold Mo.put at hq
  split at hq
  · obtain ⟨q0, hq0, rfl⟩ := List.mem_map.1 hq
    split
    · exact hj
    · exact hD.each q0 hq0
  · rcases List.mem_append.1 hq with hq | hq
    · exact hD.each q hq
    · simp at hq; subst hq; exact hj
theorem release_ok {B : PB} {D : PD} {R L : List (Nat × Obj)} (h : St w0 w (L ++ plH B D R)) (hB : PBok B) (hD : PDok D) (x : Ob)
    (hK : ∀ w' D', St w0 w' (L ++ plH B D' R) → PDok D' → D'.ov = D.ov → D'.p = release B.T D.p x → K (.tuple #[]) w') :
    CallL P 130 [.pointer (some (Addr.mk B.pb 0 none)), .agg (Obcs x).toArray] w K := by
  refine f130_ok _ _ _ _ ?_
  rw [f130_eq]
  refine h.newC fun n2 w3 hn2 h3 => ?_
  have h3d := h3.drew
  have i1 : ((n2, Cs (Obcs x) 147) :: (L ++ plH B D R))[L.length + 1 + 1]? = some (B.ob, .map D.es1 D.c1) := idx1 rfl
  refine ⟨some B.ob, by rw [add_lit', h3d.cell (idx1 (L := L) (k := 0) rfl)]; exact planCs_rest hD.own 1, ?_⟩
  refine h3d.ldA (k := 0) (i := 0) rfl (by simp [Obcs]) ?_
  refine ⟨(((Mo.look D.p.objs x).getD zeroC).map I64).toArray, (Mo.look D.p.objs x).isSome, fun wq hx => lookO hD.m1 hx (h3d.get i1) x true, ?_⟩
  have hc7 : ((Mo.look D.p.objs x).getD zeroC).length = 8 := by
    cases hl : Mo.look D.p.objs x with
    | none => rfl
    | some c => obtain ⟨q, hq, rfl⟩ := look_mem hl; exact hD.each q hq
  refine h3d.newC fun n9 w10 hn9 h10 => ?_
  rw [z116] at h10
  refine h10.stA (k := 0) (i := 0) rfl (by simp [hc7]) (by simp) (by simp [Value.oneCell']) fun w11 h11 => ?_
  have e1 : splice [I64 0, I64 0, I64 0, I64 0, I64 0, I64 0, I64 0, I64 0] 0 (((Mo.look D.p.objs x).getD zeroC).map I64) = ((Mo.look D.p.objs x).getD zeroC).map I64 := splice_all (by simp [hc7])
  have h11 : St w0 w11 ((n9, Cs (splice [I64 0, I64 0, I64 0, I64 0, I64 0, I64 0, I64 0, I64 0] 0 (((Mo.look D.p.objs x).getD zeroC).map I64)) 116) :: (n2, Cs (Obcs x) 147) :: (L ++ plH B D R)) := h11
  rw [e1] at h11
  have hcl := clockOf_len (x := x) hB.th hD.each
  rw [f130_s0_eq]
  cases hl : Mo.look D.p.objs x with
  | some c =>
    simp only [Option.isSome_some, Bool.not_true, BIf_false]
    rw [hl] at h11
    have hcc : clockOf B.T D.p x = c := by simp [clockOf, hl]
    refine release_tail (c := c) h11 hn9 hn2 hD (by rw [← hcc]; exact hcl) fun w' D' h' h1 h2 h3 => hK w' D' h' h1 h2 ?_
    rw [h3]; simp [release, hcc]
  | none =>
    simp only [Option.isSome_none, Bool.not_false, BIf_true]
    have h12 := h11.drew
    have hcc : clockOf B.T D.p x = (Mo.look B.T.objs x).getD zeroC := by simp [clockOf, hl]
    refine ⟨some (Addr.mk B.tb 0 none), by rw [h12.cell (idx2 (L := L) (k := 0) rfl)]; rfl, some B.tob, by rw [add_lit', h12.cell (idx2 (L := L) (k := 3) rfl)]; exact thCs_end hB.th 0, ?_⟩
    refine h12.ldA (k := 1) (i := 0) rfl (by simp [Obcs]) ?_
    refine ⟨((clockOf B.T D.p x).map I64).toArray, fun wq hx => ?_, ?_⟩
    · rw [hcc]
      exact lookO hB.m3 hx (h12.get (idx2 (L := L) (k := 4) rfl)) x false
    · refine h12.stA (k := 0) (i := 0) rfl (by simp [hcl]) (by simp [hc7]) (by simp [Value.oneCell']) fun w13 h13 => ?_
      have h13 : St w0 w13 ((n9, Cs (splice (((Mo.look D.p.objs x).getD zeroC).map I64) 0 ((clockOf B.T D.p x).map I64)) 116) :: (n2, Cs (Obcs x) 147) :: (L ++ plH B D R)) := h13
      rw [splice_all (by simp [hc7, hcl])] at h13
      exact release_tail h13 hn9 hn2 hD hcl fun w' D' h' h1 h2 h3 => hK w' D' h' h1 h2 h3
end Go.Fx.Try
namespace Go.Fx.Try
open Go Go.Fx Go.Fx.Mo
open Go.Proofs
variable {w0 w : World} {K : Value → World → Prop} {B : PB} {R : List (Nat × Obj)} {p : Pl}
set_option maxRecDepth 20000

/-- A plan p stands in w, with its threads; R: what else is known. -/
def PS (w0 w : World) (B : PB) (R : List (Nat × Obj)) (p : Pl) : Prop :=
  ∃ (D : PD) (L : List (Nat × Obj)), D.p = p ∧ St w0 w (L ++ plH B D R) ∧ PDok D ∧ SlO 4 99 D.ov p.orders.length (ords p.orders) L ∧ New w0 L
theorem plH_perm {a : Nat × Obj} {L : List (Nat × Obj)} {D : PD} : (a :: (L ++ plH B D R)).Perm (L ++ plH B D (a :: R)) := by
  have : (L ++ plH B D (a :: R)) = (L ++ plH B D []) ++ a :: R := by simp [plH]
  rw [this]
  have : (a :: (L ++ plH B D R)) = a :: ((L ++ plH B D []) ++ R) := by simp [plH]
  rw [this]
  exact List.perm_middle.symm
/-- A new block. -/
theorem PS.newC (h : PS w0 w B R p) {cs : Array Value} {t : TypeId} {K : Nat → World → Prop} (hK : ∀ b w', w0.heap.size ≤ b → PS w0 w' B ((b, Cs cs.toList t) :: R) p → K b w') : NewC cs t w K := by
  obtain ⟨D, L, rfl, hs, h1, h2, h3⟩ := h
  exact hs.newC fun b w' hb h' => hK b w' hb ⟨D, L, rfl, h'.perm plH_perm, h1, h2, h3⟩
theorem PS.drew (h : PS w0 w B R p) : PS w0 w.drew B R p := by
  obtain ⟨D, L, rfl, hs, h1, h2, h3⟩ := h
  exact ⟨D, L, rfl, hs.drew, h1, h2, h3⟩
theorem PS.tail {b : Nat} {o : Obj} (h : PS w0 w B ((b, o) :: R) p) (hb : w0.heap.size ≤ b) : PS w0 w B R p := by
  obtain ⟨D, L, rfl, hs, h1, h2, h3⟩ := h
  exact ⟨D, L, rfl, (hs.perm plH_perm.symm).tail hb, h1, h2, h3⟩
/-- What the rest knows. -/
theorem PS.get (h : PS w0 w B R p) {k b : Nat} {o : Obj} (hk : R[k]? = some (b, o)) : w.heap[b]? = some o := by
  obtain ⟨D, L, rfl, hs, h1, h2, h3⟩ := h
  exact hs.has b o (by simp [List.mem_of_getElem? hk])
theorem PS.stA (h : PS w0 w B R p) {n k b i : Nat} {cs : List Value} {t : TypeId} {vs : Array Value} {K : World → Prop} (hk : R[k]? = some (b, Cs cs t)) (hn : vs.size = n) (hi : i + n ≤ cs.length)
    (hv : ∀ v ∈ vs.toList, v.oneCell' = true) (hK : ∀ w', PS w0 w' B (R.set k (b, Cs (splice cs i vs.toList) t)) p → K w') : StA n (Addr.mk b i none) vs w K := by
  obtain ⟨D, L, rfl, hs, h1, h2, h3⟩ := h
  refine hs.stA (k := L.length + (k + 6)) (by rw [idx_app]; simpa [plH] using hk) hn hi hv fun w' h' => hK w' ⟨D, L, rfl, ?_, h1, h2, h3⟩
  rw [set_app] at h'
  simpa [plH] using h'
theorem PS.own (h : PS w0 w B R p) : p.own.length = 8 := by
  obtain ⟨D, L, rfl, _, h1, _⟩ := h
  exact h1.own
/-- The plan's cells. -/
theorem PS.pl (h : PS w0 w B R p) : ∃ ov ob nb, w.heap[B.pb]? = some (Cs (planCs B.tb B.e ov ob nb p) B.t) := by
  obtain ⟨D, L, rfl, hs, h1, _⟩ := h
  exact ⟨_, _, _, hs.get (k := L.length + 0) (idx_app L _ 0)⟩
theorem PS.th (h : PS w0 w B R p) : w.heap[B.tb]? = some (Cs (thCs B.T B.tob B.tnb ++ B.rest) B.tt) := by
  obtain ⟨D, L, rfl, hs, h1, _⟩ := h
  exact hs.get (k := L.length + 3) (idx_app L _ 3)

theorem tick_ps (h : PS w0 w B R p) (hB : PBok B) (hn : p.orders.length < 1000000) (o : Ord) (hK : ∀ w', PS w0 w' B R (tick B.e p o) → K (.tuple #[]) w') :
    CallL P 127 [.pointer (some (Addr.mk B.pb 0 none)), .agg (Ordcs o).toArray] w K := by
  obtain ⟨D, L, rfl, hs, h1, h2, h3⟩ := h
  refine tick_ok (k := 0) hs h2 h3 rfl h1.own hB.lt hn fun w' ov' L' hs' h2' h3' => hK w' ⟨{ D with ov := ov', p := tick B.e D.p o }, L', rfl, hs', ⟨by simp [tick, h1.own], h1.m1, h1.m2, h1.each⟩, ?_, h3'⟩
  simpa [tick] using h2'
theorem number_ps (h : PS w0 w B R p) (hB : PBok B) (x : Ob) (hK : ∀ w', PS w0 w' B R (number B.T p x).2 → K (I64 (number B.T p x).1) w') :
    CallL P 128 [.pointer (some (Addr.mk B.pb 0 none)), .agg (Obcs x).toArray] w K := by
  obtain ⟨D, L, rfl, hs, h1, h2, h3⟩ := h
  refine number_ok hs hB h1 x fun w' D' hs' h1' hov hp => hK w' ⟨D', L, hp, hs', h1', ?_, h3⟩
  have : (number B.T D.p x).2.orders = D.p.orders := by
    unfold number
    split
    · rfl
    · split <;> rfl
  rw [this, hov]
  exact h2
theorem acquire_ps (h : PS w0 w B R p) (hB : PBok B) (x : Ob) (hK : ∀ w', PS w0 w' B R (acquire B.T p x) → K (.tuple #[]) w') :
    CallL P 129 [.pointer (some (Addr.mk B.pb 0 none)), .agg (Obcs x).toArray] w K := by
  obtain ⟨D, L, rfl, hs, h1, h2, h3⟩ := h
  exact acquire_ok hs hB h1 x fun w' hs' => hK w' ⟨{ D with p := acquire B.T D.p x }, L, rfl, hs', ⟨joinC_length h1.own (clockOf_len hB.th h1.each), h1.m1, h1.m2, h1.each⟩, h2, h3⟩
theorem release_ps (h : PS w0 w B R p) (hB : PBok B) (x : Ob) (hK : ∀ w', PS w0 w' B R (release B.T p x) → K (.tuple #[]) w') :
    CallL P 130 [.pointer (some (Addr.mk B.pb 0 none)), .agg (Obcs x).toArray] w K := by
  obtain ⟨D, L, rfl, hs, h1, h2, h3⟩ := h
  exact release_ok hs hB h1 x fun w' D' hs' h1' hov hp => hK w' ⟨D', L, hp, hs', h1', by rw [hov]; exact h2, h3⟩

theorem build99b (k x : Int) (wq : World) : (Instr.build 99 [(0, (Value.int .i64 k)), (2, (Value.int .i64 x))].toArray).run P wq = .ok (.agg (Ordcs ⟨k, 0, x, 0⟩).toArray) wq := by kernel_rfl
theorem build99c (k : Int) (wq : World) : (Instr.build 99 [(0, (Value.int .i64 k))].toArray).run P wq = .ok (.agg (Ordcs ⟨k, 0, 0, 0⟩).toArray) wq := by kernel_rfl
theorem build147 (x : Int) (wq : World) : (Instr.build 147 [(1, (Value.int .u32 x))].toArray).run P wq = .ok (.agg (Obcs (false, x)).toArray) wq := by kernel_rfl
theorem step_ps (h : PS w0 w B R p) (hB : PBok B) (hn : p.orders.length < 1000000) (hK : ∀ w', PS w0 w' B R (Mo.step B.e p) → K (.tuple #[]) w') : CallL P 114 [.pointer (some (Addr.mk B.pb 0 none))] w K := by
  refine f114_ok _ _ _ ?_
  rw [f114_eq]
  refine ⟨_, build99c 1, ?_⟩
  exact tick_ps h hB hn ⟨1, 0, 0, 0⟩ fun w' h' => ⟨rfl, hK w' h'⟩

theorem z147 : zcells P 147 = #[.bool false, .int .u32 0] := by kernel_rfl
theorem number_orders (T : Th) (p : Pl) (x : Ob) : (number T p x).2.orders = p.orders := by
  unfold number
  split
  · rfl
  · split <;> rfl
theorem plan_a {tb ob nb : Nat} {e : Ev} {ov : Value} {p : Pl} (i : Nat) (hi : i < 6) : (planCs tb e ov ob nb p)[1 + i]? = (Evcs e)[i]? := by
  rcases i with _ | _ | _ | _ | _ | _ | i <;> first | rfl | omega
theorem PS.ev (h : PS w0 w B R p) (i : Nat) (hi : i < 6) : w.cell? (Addr.mk B.pb (1 + i) none) = (Evcs B.e)[i]? := by
  obtain ⟨ov, ob, nb, hp⟩ := h.pl
  rw [cell_of hp, plan_a i hi]
/-- An object laid down. -/
theorem PS.object (h : PS w0 w B R p) (x : Ob) {K : Nat → World → Prop} (hK : ∀ b w', w0.heap.size ≤ b → PS w0 w' B ((b, Cs (Obcs x) 147) :: R) p → K b w') :
    NewC (zcells P 147) 147 w fun n w1 => StA 2 (Addr.mk n 0 none) (Obcs x).toArray w1 fun w2 => K n w2 := by
  refine h.newC fun n w1 hn h1 => ?_
  rw [z147] at h1
  refine h1.stA (k := 0) (i := 0) rfl (by simp [Obcs]) (by simp) (by simp [Obcs, Value.oneCell']) fun w2 h2 => hK n w2 hn ?_
  exact h2
theorem PS.ldA (h : PS w0 w B R p) {n k b i : Nat} {cs : List Value} {t : TypeId} {K : Array Value → Prop} (hk : R[k]? = some (b, Cs cs t)) (hi : i + n ≤ cs.length) (hK : K ((cs.drop i).take n).toArray) : LdA n (Addr.mk b i none) w K :=
  LdA_of (h.get hk) hi hK
theorem lock_ps (h : PS w0 w B R p) (hB : PBok B) (hn : p.orders.length < 1000000) (hK : ∀ w', PS w0 w' B R (Mo.lock B.T B.e p) → K (.tuple #[]) w') : CallL P 118 [.pointer (some (Addr.mk B.pb 0 none))] w K := by
  refine f118_ok _ _ _ ?_
  rw [f118_eq]
  refine ⟨B.e.a, h.ev 3 (by omega), _, build147 _, ?_⟩
  refine h.object (false, B.e.a) fun n4 w6 hn4 h6 => ?_
  refine h6.ldA (k := 0) (i := 0) rfl (by simp [Obcs]) ?_
  refine number_ps h6 hB (false, B.e.a) fun w9 h9 => ⟨_, rfl, ?_⟩
  refine h9.ldA (k := 0) (i := 0) rfl (by simp [Obcs]) ?_
  refine acquire_ps h9 hB (false, B.e.a) fun w13 h13 => ⟨rfl, _, build99a 3 _, ?_⟩
  refine tick_ps h13 hB (by simpa [acquire, number_orders] using hn) _ fun w16 h16 => ⟨rfl, hK w16 (h16.tail hn4)⟩
theorem unlock_ps (h : PS w0 w B R p) (hB : PBok B) (hn : p.orders.length < 1000000) (hK : ∀ w', PS w0 w' B R (Mo.unlock B.T B.e p) → K (.tuple #[]) w') : CallL P 119 [.pointer (some (Addr.mk B.pb 0 none))] w K := by
  refine f119_ok _ _ _ ?_
  rw [f119_eq]
  refine ⟨B.e.a, h.ev 3 (by omega), _, build147 _, ?_⟩
  refine h.object (false, B.e.a) fun n4 w6 hn4 h6 => ?_
  refine h6.ldA (k := 0) (i := 0) rfl (by simp [Obcs]) ?_
  refine number_ps h6 hB (false, B.e.a) fun w9 h9 => ⟨_, rfl, _, build99a 2 _, ?_⟩
  refine tick_ps h9 hB (by simpa [number_orders] using hn) _ fun w13 h13 => ⟨rfl, ?_⟩
  refine h13.ldA (k := 0) (i := 0) rfl (by simp [Obcs]) ?_
  refine release_ps h13 hB (false, B.e.a) fun w16 h16 => ⟨rfl, hK w16 (h16.tail hn4)⟩

theorem PS.st1 (h : PS w0 w B R p) {i : Nat} {v : Value} {p' : Pl} {K : World → Prop} (hi : i < 23) (hv : v.oneCell' = true) (hp : ∀ ov ob nb, (planCs B.tb B.e ov ob nb p).set i v = planCs B.tb B.e ov ob nb p')
    (ho : p'.orders = p.orders) (hw : p'.own = p.own) (hobj : p'.objs = p.objs) (hnm : p'.names = p.names) (hK : ∀ w', PS w0 w' B R p' → K w') : St1 (Addr.mk B.pb i none) v w K := by
  obtain ⟨D, L, rfl, hs, h1, h2, h3⟩ := h
  refine hs.st1 (k := L.length + 0) (cs := planCs B.tb B.e D.ov B.ob B.nb D.p) (idx_app L _ 0) (by rw [planCs_len h1.own]; exact hi) hv fun w' h' => hK w' ⟨{ D with p := p' }, L, rfl, ?_, ⟨hw ▸ h1.own, hobj ▸ h1.m1, hnm ▸ h1.m2, hobj ▸ h1.each⟩, ho ▸ h2, h3⟩
  rw [set_app, hp] at h'
  exact h'
theorem get_mid {α : Type} (a b c : List α) (i : Nat) (hi : i < b.length) : (a ++ (b ++ c))[a.length + i]? = b[i]? := by
  rw [List.getElem?_append_right (by omega), List.getElem?_append_left (by omega)]
  congr 1; omega
section
variable {T : Th} {ob nb : Nat} {rest : List Value}
theorem thCs_begun (h : ThOk T) {i : Nat} (hi : i < 8) : (thCs T ob nb ++ rest)[64 + i]? = some (.bool (T.begun.getD i false)) := by
  have hf : (T.clocks.flatten.map I64).length = 64 := by rw [List.length_map, flat_len h.each, h.clocks]
  unfold thCs
  simp only [List.append_assoc]
  rw [← hf, get_mid _ _ _ i (by simp [h.begun, hi])]
  simp [h.begun, hi]
theorem thCs_ended (h : ThOk T) {i : Nat} (hi : i < 8) : (thCs T ob nb ++ rest)[72 + i]? = some (.bool (T.ended.getD i false)) := by
  have hf : (T.clocks.flatten.map I64 ++ T.begun.map Value.bool).length = 72 := by simp only [List.length_append, List.length_map, flat_len h.each, h.clocks, h.begun]
  unfold thCs
  simp only [List.append_assoc]
  rw [← List.append_assoc, ← hf, get_mid _ _ _ i (by simp [h.ended, hi])]
  simp [h.ended, hi]
theorem flat_at {l : List Clk} (h : ∀ c ∈ l, c.length = 8) : ∀ (i : Nat), i < l.length → (l.flatten.drop (i * 8)).take 8 = l.getD i zeroC := by
  induction l with
  | nil => intro i hi; simp at hi
  | cons c r ih =>
    intro i hi
    have hc := h c (.head _)
    cases i with
    | zero => simp only [List.flatten_cons, Nat.zero_mul, List.drop_zero, List.getD_cons_zero]; rw [List.take_append_of_le_length (by omega)]; exact List.take_of_length_le (by omega)
    | succ i =>
      rw [List.flatten_cons, List.getD_cons_succ, ← ih (fun d hd => h d (.tail _ hd)) i (by simp at hi; omega)]
      rw [show (i + 1) * 8 = c.length + i * 8 by omega, List.drop_append, List.drop_eq_nil_of_le (by omega)]
      simp
theorem thCs_clock (h : ThOk T) {i : Nat} (hi : i < 8) : ((thCs T ob nb ++ rest).drop (i * 8)).take 8 = (T.clocks.getD i zeroC).map I64 := by
  have hf : (T.clocks.flatten.map I64).length = 64 := by rw [List.length_map, flat_len h.each, h.clocks]
  unfold thCs
  simp only [List.append_assoc]
  rw [List.drop_append_of_le_length (by omega), List.take_append_of_le_length (by rw [List.length_drop, hf]; omega), ← List.map_drop, ← List.map_take, flat_at h.each i (by rw [h.clocks]; exact hi)]
end

theorem other_ps (h : PS w0 w B R p) (hK : K (.tuple [.int .i64 B.e.n, .bool (otherIs B.e)].toArray) w) : CallL P 131 [.pointer (some (Addr.mk B.pb 0 none))] w K := by
  refine f131_ok _ _ _ ?_
  rw [f131_eq]
  refine ⟨B.e.n, h.ev 5 (by omega), ?_⟩
  simp only [f131_s0_eq, BIf_iff]
  unfold otherIs at hK
  constructor
  · intro hn; rw [hn] at hK; simpa using hK
  · intro hn; rw [hn] at hK; simpa using hK
theorem bad_ps (h : PS w0 w B R p) {K : World → Prop} (hK : ∀ w', PS w0 w' B R { p with bad := true } → K w') : St1 (Addr.mk B.pb 22 none) (.bool true) w K :=
  h.st1 (by omega) rfl (fun _ _ _ => planCs_set h.own true) rfl rfl rfl rfl hK
theorem rel_ps (h : PS w0 w B R p) {K : World → Prop} (hK : ∀ w', PS w0 w' B R { p with rel := true } → K w') : St1 (Addr.mk B.pb 21 none) (.bool true) w K :=
  h.st1 (by omega) rfl (fun _ _ _ => planCs_setrel h.own true) rfl rfl rfl rfl hK
theorem planCs_set19 {tb ob nb : Nat} {e : Ev} {ov : Value} {p : Pl} (ho : p.own.length = 8) (x : Int) : (planCs tb e ov ob nb p).set 19 (I64 x) = planCs tb e ov ob nb { p with fork := x } := by
  obtain ⟨a, b, c, d, f, g, h, j, hl⟩ := own8 ho
  simp only [planCs, Evcs, hl]
  rfl
theorem planCs_set20 {tb ob nb : Nat} {e : Ev} {ov : Value} {p : Pl} (ho : p.own.length = 8) (x : Int) : (planCs tb e ov ob nb p).set 20 (I64 x) = planCs tb e ov ob nb { p with ends := x } := by
  obtain ⟨a, b, c, d, f, g, h, j, hl⟩ := own8 ho
  simp only [planCs, Evcs, hl]
  rfl
theorem PS.ptr (h : PS w0 w B R p) : w.cell? (Addr.mk B.pb 0 none) = some (.pointer (some (Addr.mk B.tb 0 none))) := by
  obtain ⟨ov, ob, nb, hp⟩ := h.pl
  rw [cell_of hp]; rfl
theorem PS.begun (h : PS w0 w B R p) (hB : PBok B) {i : Nat} (hi : i < 8) : w.cell? (Addr.mk B.tb (64 + i) none) = some (.bool (B.T.begun.getD i false)) := by
  rw [cell_of h.th]; exact thCs_begun hB.th hi
theorem PS.ended (h : PS w0 w B R p) (hB : PBok B) {i : Nat} (hi : i < 8) : w.cell? (Addr.mk B.tb (72 + i) none) = some (.bool (B.T.ended.getD i false)) := by
  rw [cell_of h.th]; exact thCs_ended hB.th hi
theorem spawn_ps (h : PS w0 w B R p) (hB : PBok B) (hn : p.orders.length < 1000000) (hK : ∀ w', PS w0 w' B R (Mo.spawn B.T B.e p) → K (.tuple #[]) w') : CallL P 116 [.pointer (some (Addr.mk B.pb 0 none))] w K := by
  refine f116_ok _ _ _ ?_
  rw [f116_eq]
  refine other_ps h ⟨_, _, rfl, ?_⟩
  have bad : Mo.spawn B.T B.e p = { p with bad := true } → f116_s0 true (some (Addr.mk B.pb 0 none)) B.e.n w K := fun hs => by
    rw [f116_s0_eq]
    show St1 ((Addr.mk B.pb 0 none).add 22) _ _ _
    rw [add_lit']
    exact bad_ps h fun w' h' => hK w' (by rw [hs]; exact h')
  by_cases ho : otherIs B.e = true
  · rw [ho]
    simp only [Bool.not_true, BIf_false]
    have hn8 : 0 ≤ B.e.n ∧ B.e.n < 8 := by simpa [otherIs] using ho
    obtain ⟨i, hi, hi8⟩ : ∃ i : Nat, B.e.n = i ∧ i < 8 := ⟨B.e.n.toNat, by omega, by omega⟩
    refine ⟨some (Addr.mk B.tb 0 none), h.ptr, hn8.1, by have := hn8.2; simpa using this, B.T.begun.getD i false, ?_, ?_⟩
    · rw [add_lit', add_lit', hi, Int.toNat_natCast, Nat.mul_one, Nat.zero_add]; exact h.begun hB hi8
    · have hg : getB B.T.begun B.e.n = B.T.begun.getD i false := by simp [getB, hi]
      cases hb : B.T.begun.getD i false with
      | true => exact bad (by unfold Mo.spawn; rw [ho, hg, hb]; rfl)
      | false =>
        have hs : Mo.spawn B.T B.e p = { tick B.e p ⟨5, 0, B.e.n, 0⟩ with fork := B.e.n, rel := true } := by unfold Mo.spawn; rw [ho, hg, hb]; rfl
        rw [f116_s0_eq, BIf_false, f116_s1_eq]
        refine ⟨_, build99b 5 _, ?_⟩
        refine tick_ps h hB hn _ fun w1 h1 => ⟨rfl, ?_⟩
        show St1 ((Addr.mk B.pb 0 none).add 19) _ _ _
        rw [add_lit']
        refine h1.st1 (by omega) rfl (fun _ _ _ => planCs_set19 h1.own _) rfl rfl rfl rfl fun w2 h2 => ?_
        show St1 ((Addr.mk B.pb 0 none).add 21) _ _ _
        rw [add_lit']
        exact rel_ps h2 fun w3 h3 => hK w3 (by rw [hs]; exact h3)
  · have ho : otherIs B.e = false := by simpa using ho
    rw [ho]
    simp only [Bool.not_false, BIf_true]
    exact bad (by simp [Mo.spawn, ho])

theorem join_own (h : PS w0 w B R p) {d : Clk} (hd : d.length = 8) (hK : ∀ w', PS w0 w' B R { p with own := joinC p.own d } → K (.tuple #[]) w') : CallL P 97 [.pointer (some (Addr.mk B.pb 8 none)), .agg (d.map I64).toArray] w K := by
  obtain ⟨D, L, rfl, hs, h1, h2, h3⟩ := h
  refine join_ok hs (cs := planCs B.tb B.e D.ov B.ob B.nb D.p) (k := L.length + 0) (idx_app L _ 0) h1.own hd (by rw [planCs_len h1.own]; omega) (planCs_drop h1.own) fun w' h' => hK w' ⟨{ D with p := { D.p with own := joinC D.p.own d } }, L, rfl, ?_, ⟨joinC_length h1.own hd, h1.m1, h1.m2, h1.each⟩, h2, h3⟩
  rw [set_app, planCs_splice h1.own (joinC_length h1.own hd)] at h'
  exact h'
theorem clk_len {T : Th} (hT : ThOk T) (i : Nat) : (T.clocks.getD i zeroC).length = 8 := by
  by_cases hi : i < T.clocks.length
  · rw [List.getD_eq_getElem?_getD, List.getElem?_eq_getElem hi]; exact hT.each _ (List.getElem_mem hi)
  · rw [List.getD_eq_getElem?_getD, List.getElem?_eq_none (by omega)]; rfl
theorem join_ps (h : PS w0 w B R p) (hB : PBok B) (hn : p.orders.length < 1000000) (hK : ∀ w', PS w0 w' B R (Mo.join B.T B.e p) → K (.tuple #[]) w') : CallL P 117 [.pointer (some (Addr.mk B.pb 0 none))] w K := by
  refine f117_ok _ _ _ ?_
  rw [f117_eq]
  refine other_ps h ⟨_, _, rfl, ?_⟩
  have bad : Mo.join B.T B.e p = { p with bad := true } → f117_s0 true (some (Addr.mk B.pb 0 none)) B.e.n w K := fun hs => by
    rw [f117_s0_eq]
    show St1 ((Addr.mk B.pb 0 none).add 22) _ _ _
    rw [add_lit']
    exact bad_ps h fun w' h' => hK w' (by rw [hs]; exact h')
  by_cases ho : otherIs B.e = true
  · rw [ho]
    simp only [Bool.not_true, BIf_false]
    have hn8 : 0 ≤ B.e.n ∧ B.e.n < 8 := by simpa [otherIs] using ho
    obtain ⟨i, hi, hi8⟩ : ∃ i : Nat, B.e.n = i ∧ i < 8 := ⟨B.e.n.toNat, by omega, by omega⟩
    have hlt : B.e.n < ((8 : Nat) : Int) := by have := hn8.2; simpa using this
    have hg : getB B.T.begun B.e.n = B.T.begun.getD i false := by simp [getB, hi]
    have hg2 : getB B.T.ended B.e.n = B.T.ended.getD i false := by simp [getB, hi]
    refine ⟨some (Addr.mk B.tb 0 none), h.ptr, hn8.1, hlt, B.T.begun.getD i false, ?_, ?_⟩
    · rw [add_lit', add_lit', hi, Int.toNat_natCast, Nat.mul_one, Nat.zero_add]; exact h.begun hB hi8
    cases hb : B.T.begun.getD i false with
    | false => exact bad (by unfold Mo.join; rw [ho, hg, hb]; rfl)
    | true =>
      simp only [Bool.not_true, BIf_false]
      refine ⟨some (Addr.mk B.tb 0 none), h.ptr, hn8.1, hlt, B.T.ended.getD i false, ?_, ?_⟩
      · rw [add_lit', add_lit', hi, Int.toNat_natCast, Nat.mul_one, Nat.zero_add]; exact h.ended hB hi8
      cases he : B.T.ended.getD i false with
      | true => exact bad (by unfold Mo.join; rw [ho, hg, hb, hg2, he]; rfl)
      | false =>
        simp only [BIf_false]
        refine ⟨B.e.th, h.ev 1 (by omega), ?_⟩
        cases hq : (B.e.n == B.e.th) with
        | true => exact bad (by unfold Mo.join; rw [ho, hg, hb, hg2, he, hq]; rfl)
        | false =>
          have hs : Mo.join B.T B.e p = { tick B.e { p with own := joinC p.own (getC B.T.clocks B.e.n) } ⟨6, 0, B.e.n, 0⟩ with ends := B.e.n } := by unfold Mo.join; rw [ho, hg, hb, hg2, he, hq]; rfl
          rw [f117_s0_eq, BIf_false, f117_s1_eq]
          have hd := h.drew
          refine ⟨some (Addr.mk B.tb 0 none), hd.ptr, hn8.1, hlt, ?_⟩
          have hgc : getC B.T.clocks B.e.n = B.T.clocks.getD i zeroC := by simp [getC, hi]
          rw [add_lit', hi, Int.toNat_natCast, Nat.zero_add]
          refine LdA_of hd.th (by rw [List.length_append, thCs_len hB.th]; omega) ?_
          rw [thCs_clock hB.th hi8, add_lit']
          refine join_own hd (clk_len hB.th i) fun w1 h1 => ⟨rfl, ?_⟩
          rw [f117_s2_eq]
          refine ⟨_, build99b 6 _, ?_⟩
          refine tick_ps h1 hB hn _ fun w2 h2 => ⟨rfl, ?_⟩
          show St1 ((Addr.mk B.pb 0 none).add 20) _ _ _
          rw [add_lit']
          refine h2.st1 (by omega) rfl (fun _ _ _ => planCs_set20 h2.own _) rfl rfl rfl rfl fun w3 h3 => hK w3 ?_
          rw [hs, hgc, hi]
          exact h3
  · have ho : otherIs B.e = false := by simpa using ho
    rw [ho]
    simp only [Bool.not_false, BIf_true]
    exact bad (by unfold Mo.join; rw [ho]; rfl)
theorem PS.putR (h : PS w0 w B R p) {k b : Nat} {o : Obj} (hk : R[k]? = some (b, o)) (o' : Obj) : PS w0 (w.putObj b o') B (R.set k (b, o')) p := by
  obtain ⟨D, L, rfl, hs, h1, h2, h3⟩ := h
  refine ⟨D, L, rfl, ?_, h1, h2, h3⟩
  have := hs.put (k := L.length + (k + 6)) (by rw [idx_app]; simpa [plH] using hk) o'
  rw [set_app] at this
  simpa [plH] using this
end Go.Fx.Try
namespace Go.Fx.Try
open Go Go.Fx Go.Fx.Mo
open Go.Proofs
variable {w0 w : World} {H : List (Nat × Obj)} {K : Value → World → Prop}
set_option maxRecDepth 20000

abbrev fnV (n : Nat) : Value := .func (.func n) #[] #[]
theorem z180 : (zcells P 180).toList = List.replicate 25 .nilFunc := by kernel_rfl
def kindsL : List Value := (((((List.replicate 25 (fnV 114)).set 4 (fnV 115)).set 11 (fnV 116)).set 13 (fnV 117)).set 14 (fnV 118)).set 15 (fnV 119)
theorem kinds_ok (h : St w0 w H) (hK : ∀ w', St w0 w' H → K (.agg kindsL.toArray) w') : CallL P 94 [] w K := by
  refine f94_ok _ _ ?_
  rw [f94_eq]
  refine h.newC fun n0 w1 hn0 h1 => h1.newC fun n2 w3 hn2 h3 => ?_
  rw [z180] at h3
  have hZ : (List.replicate 25 Value.nilFunc).length = 25 := by simp
  generalize hZd : List.replicate 25 Value.nilFunc = Z at h3 hZ
  refine ⟨fun m e w => ∃ i : Nat, i ≤ 25 ∧ m = 25 - i ∧ e = Env.mk 15 [(3, (Value.int .i64 i)), (1, (Value.pointer (some (Addr.mk n2 0 none)))), (0, (Value.pointer (some (Addr.mk n0 0 none))))] [] ∧
    St w0 w ((n2, Cs (splice Z 0 (List.replicate i (fnV 114))) 180) :: (n0, Cs Z 180) :: H), ⟨25, 0, by omega, rfl, rfl, h3⟩, ?_⟩
  rintro m e w ⟨i, hi, rfl, rfl, hs⟩
  show f94_lb0 _ _ _ _ _ _
  rw [f94_lb0_eq, BIf_iff]
  constructor
  · intro hlt
    have hlt : i < 25 := by simp at hlt; omega
    rw [f94_s1_eq]
    refine ⟨by omega, by omega, ?_⟩
    rw [add_lit', Int.toNat_natCast, Nat.mul_one, Nat.zero_add]
    refine hs.st1 (k := 0) rfl (by rw [splice_length, hZ]; exact hlt) rfl fun w' h' => ?_
    rw [f94_s2_eq]
    refine ⟨25 - (i + 1), by omega, i + 1, by omega, rfl, ?_, ?_⟩
    · rw [wrap_i64 (by omega) (by omega)]; rfl
    · rw [List.replicate_succ', splice_snoc]
      simpa using h'
  · intro hge
    have : i = 25 := by simp at hge; omega
    subst this
    rw [splice_all (by simp [hZ])] at hs
    rw [f94_s3_eq]
    simp only [add_lit']
    refine ⟨by omega, by omega, hs.st1 (k := 0) rfl (by simp) rfl fun w1 h1 => ?_⟩
    refine ⟨by omega, by omega, h1.st1 (k := 0) rfl (by simp) rfl fun w2 h2 => ?_⟩
    refine ⟨by omega, by omega, h2.st1 (k := 0) rfl (by simp) rfl fun w3 h3 => ?_⟩
    refine ⟨by omega, by omega, h3.st1 (k := 0) rfl (by simp) rfl fun w4 h4 => ?_⟩
    refine ⟨by omega, by omega, h4.st1 (k := 0) rfl (by simp) rfl fun w5 h5 => ?_⟩
    have h5 : St w0 w5 ((n2, Cs kindsL 180) :: (n0, Cs Z 180) :: H) := h5
    have hk : kindsL.length = 25 := by simp [kindsL]
    refine h5.ldA (k := 0) (i := 0) rfl (by omega) ?_
    have e : List.take 25 (List.drop 0 kindsL) = kindsL := List.take_of_length_le (by rw [List.drop_zero]; omega)
    rw [e]
    refine h5.stA (k := 1) (i := 0) rfl (by simp [hk]) (by omega) (by decide) fun w6 h6 => ?_
    have h6 : St w0 w6 ((n2, Cs kindsL 180) :: (n0, Cs (splice Z 0 kindsL) 180) :: H) := h6
    rw [splice_all (by omega)] at h6
    refine h6.ldA (k := 1) (i := 0) rfl (by omega) ?_
    rw [e]
    exact hK w6 ((h6.tail hn2).tail hn0)

variable {B : PB} {R : List (Nat × Obj)}
theorem eqO (x y : Ob) (wq : World) : (do eqGuard .eql 147 (.tmp 22) (.tmp 23) (.agg (Obcs x).toArray) (.agg (Obcs y).toArray); binOp .eql 147 (.agg (Obcs x).toArray) (.agg (Obcs y).toArray) : Sem Value).run P wq = .ok (.bool (decide (x = y))) wq := by
  have h1 := eq147 wq x.1 y.1 x.2 y.2
  have h2 : decide (x = y) = (x.1 == y.1 && x.2 == y.2) := by
    obtain ⟨a, b⟩ := x
    obtain ⟨c, d⟩ := y
    rw [Bool.eq_iff_iff]; simp
  rw [h2]
  simp [eqGuard, binOp, h1, Try.eqGuardType147, Obcs]
theorem build147t (x : Int) (wq : World) : (Instr.build 147 [(0, (Value.bool true)), (1, (Value.int .u32 x))].toArray).run P wq = .ok (.agg (Obcs (true, x)).toArray) wq := by kernel_rfl
def aStep (T : Th) (e : Ev) (s : Ob × Pl) (a : Int) : Ob × Pl := if ((true, w32 (a.tdiv 4)) : Ob) = s.1 then s else ((true, w32 (a.tdiv 4)), atomic1 T e (true, w32 (a.tdiv 4)) s.2)
theorem atomicL_fold (T : Th) (e : Ev) (l : List Int) : ∀ (last : Ob) (p : Pl), atomicL T e l last p = (l.foldl (aStep T e) (last, p)).2 := by
  induction l with
  | nil => intro last p; rfl
  | cons a r ih =>
    intro last p
    simp only [atomicL, List.foldl_cons, aStep]
    split
    · rw [ih]
    · rw [ih]
theorem atomic1_orders (T : Th) (e : Ev) (x : Ob) (p : Pl) : (atomic1 T e x p).orders.length = p.orders.length + 1 := by
  simp [atomic1, release, tick, acquire, number_orders]
theorem atomic_body {l l' n1 n4 : Nat} {s : Ob × Pl} {a : Int} {Rr : LoopState → Option Code → Loop} {post : Option Code → World → Prop} (hB : PBok B) (hn : s.2.orders.length < 1000000)
    (h : PS w0 w B ((l', .deferred (some [])) :: (l, .loop (Rr .ready none)) :: (n4, Cs (Obcs s.1) 147) :: (n1, Cs [.pointer (some (Addr.mk B.pb 0 none))] 127) :: R) s.2)
    (hpost : ∀ w', PS w0 w' B ((l', .deferred (some [])) :: (l, .loop (Rr .ready none)) :: (n4, Cs (Obcs (aStep B.T B.e s a).1) 147) :: (n1, Cs [.pointer (some (Addr.mk B.pb 0 none))] 127) :: R) (aStep B.T B.e s a).2 → post none w') :
    f115_ra1 (Addr.mk n1 0 none) (Addr.mk n4 0 none) a w l Rr post := by
  rw [f115_ra1_eq]
  refine ⟨h.get (k := 1) rfl, ?_⟩
  have h1 : PS w0 _ B ((l', .deferred (some [])) :: (l, .loop (Rr .busy none)) :: (n4, Cs (Obcs s.1) 147) :: (n1, Cs [.pointer (some (Addr.mk B.pb 0 none))] 127) :: R) s.2 := h.putR (k := 1) rfl (.loop (Rr .busy none))
  rw [f115_s2_eq]
  refine ⟨by omega, _, build147t _, ?_⟩
  refine h1.object (true, w32 (a.tdiv 4)) fun n26 w2 hn26 h2 => ?_
  refine h2.ldA (k := 0) (i := 0) rfl (by simp [Obcs]) ?_
  refine h2.ldA (k := 3) (i := 0) rfl (by simp [Obcs]) ?_
  refine ⟨_, eqO (true, w32 (a.tdiv 4)) s.1, ?_⟩
  have fin : ∀ w3 (x : Ob) (q : Pl), PS w0 w3 B ((n26, Cs (Obcs (true, w32 (a.tdiv 4))) 147) :: (l', .deferred (some [])) :: (l, .loop (Rr .busy none)) :: (n4, Cs (Obcs x) 147) :: (n1, Cs [.pointer (some (Addr.mk B.pb 0 none))] 127) :: R) q →
      aStep B.T B.e s a = (x, q) → w3.heap[l]? = some (.loop (Rr .busy none)) ∧ post none (w3.putObj l (.loop (Rr .ready none))) := fun w3 x q h3 hs => by
    refine ⟨h3.get (k := 2) rfl, hpost _ ?_⟩
    rw [hs]
    exact ((h3.putR (k := 2) rfl (.loop (Rr .ready none))).tail hn26)
  by_cases hx : ((true, w32 (a.tdiv 4)) : Ob) = s.1
  · rw [decide_eq_true hx, BIf_true]
    exact fin w2 s.1 s.2 h2 (by simp [aStep, hx])
  · rw [decide_eq_false hx, BIf_false, f115_s3_eq]
    refine h2.ldA (k := 0) (i := 0) rfl (by simp [Obcs]) ?_
    refine h2.stA (k := 3) (i := 0) rfl (by simp [Obcs]) (by simp [Obcs]) (by simp [Obcs, Value.oneCell']) fun w3 h3 => ?_
    have h3 : PS w0 w3 B ((n26, Cs (Obcs (true, w32 (a.tdiv 4))) 147) :: (l', .deferred (some [])) :: (l, .loop (Rr .busy none)) :: (n4, Cs (Obcs (true, w32 (a.tdiv 4))) 147) :: (n1, Cs [.pointer (some (Addr.mk B.pb 0 none))] 127) :: R) s.2 := h3
    have hp1 : ∀ {w : World} {q : Pl}, PS w0 w B ((n26, Cs (Obcs (true, w32 (a.tdiv 4))) 147) :: (l', .deferred (some [])) :: (l, .loop (Rr .busy none)) :: (n4, Cs (Obcs (true, w32 (a.tdiv 4))) 147) :: (n1, Cs [.pointer (some (Addr.mk B.pb 0 none))] 127) :: R) q →
        w.cell? (Addr.mk n1 0 none) = some (.pointer (some (Addr.mk B.pb 0 none))) := fun h => by rw [cell_of (h.get (k := 4) rfl)]; rfl
    refine ⟨_, hp1 h3, h3.ldA (k := 0) (i := 0) rfl (by simp [Obcs]) ?_⟩
    refine number_ps h3 hB (true, w32 (a.tdiv 4)) fun w4 h4 => ⟨_, rfl, _, hp1 h4, h4.ldA (k := 0) (i := 0) rfl (by simp [Obcs]) ?_⟩
    refine acquire_ps h4 hB (true, w32 (a.tdiv 4)) fun w5 h5 => ⟨rfl, _, hp1 h5, _, build99a 4 _, ?_⟩
    refine tick_ps h5 hB (by simpa [acquire, number_orders] using hn) _ fun w6 h6 => ⟨rfl, _, hp1 h6, h6.ldA (k := 0) (i := 0) rfl (by simp [Obcs]) ?_⟩
    refine release_ps h6 hB (true, w32 (a.tdiv 4)) fun w7 h7 => ⟨rfl, ?_⟩
    exact fin w7 _ _ h7 (by simp [aStep, hx, atomic1])

variable {p : Pl}
theorem PS.perm {R' : List (Nat × Obj)} (h : PS w0 w B R p) (hp : R.Perm R') : PS w0 w B R' p := by
  obtain ⟨D, L, rfl, hs, h1, h2, h3⟩ := h
  exact ⟨D, L, rfl, hs.perm (List.Perm.append_left L (by simpa [plH] using hp)), h1, h2, h3⟩
theorem St.two {D : PD} {L : List (Nat × Obj)} {x y : Nat × Obj} (h : St w0 w (x :: y :: (L ++ plH B D R))) : St w0 w (L ++ plH B D (y :: x :: R)) :=
  h.perm ((List.Perm.swap y x _).trans ((List.Perm.cons y plH_perm).trans plH_perm))
theorem bytes_ps (h : PS w0 w B R p) (a n : Int)
    (hK : ∀ b1 b2 w', w0.heap.size ≤ b1 → w0.heap.size ≤ b2 → PS w0 w' B ((b1, Cs [I64 n] 3) :: (b2, Cs [.int .u32 a] 33) :: R) p → K (.func (.func 95) #[] #[.pointer (some (Addr.mk b1 0 none)), .pointer (some (Addr.mk b2 0 none))]) w') :
    CallL P 65 [.int .u32 a, .int .i64 n] w K := by
  refine f65_ok _ _ _ _ ?_
  rw [f65_eq]
  exact h.newC fun b2 w1 h2 h1' => h1'.newC fun b1 w2 h1 h2' => hK b1 b2 w2 h1 h2 h2'
def aSt (T : Th) (e : Ev) (p : Pl) (i : Nat) : Ob × Pl := ((Mo.bytes e.a e.n).take i).foldl (aStep T e) ((false, 0), p)
theorem bytes_len (a n : Int) : (Mo.bytes a n).length = n.toNat := by simp [Mo.bytes]
theorem bytes_get (a n : Int) {i : Nat} (hi : i < (Mo.bytes a n).length) : (Mo.bytes a n)[i] = w32 (a + w32 (i : Int)) := by simp [Mo.bytes]
theorem aSt_succ (T : Th) (e : Ev) (p : Pl) {i : Nat} (hi : i < e.n.toNat) : aSt T e p (i + 1) = aStep T e (aSt T e p i) (w32 (e.a + w32 (i : Int))) := by
  have hl : i < (Mo.bytes e.a e.n).length := by rw [bytes_len]; exact hi
  unfold aSt
  rw [take_succ' _ hl, List.foldl_append, bytes_get]
  rfl
theorem aSt_orders (T : Th) (e : Ev) (p : Pl) (i : Nat) : (aSt T e p i).2.orders.length ≤ p.orders.length + i := by
  have key : ∀ (l : List Int) (s : Ob × Pl), (l.foldl (aStep T e) s).2.orders.length ≤ s.2.orders.length + l.length := by
    intro l
    induction l with
    | nil => intro s; simp
    | cons a r ih =>
      intro s
      have h1 := ih (aStep T e s a)
      have h2 : (aStep T e s a).2.orders.length ≤ s.2.orders.length + 1 := by
        unfold aStep
        split
        · omega
        · rw [atomic1_orders]; exact Nat.le_refl _
      simp only [List.foldl_cons, List.length_cons]
      omega
  have : _ ≤ p.orders.length + _ := key ((Mo.bytes e.a e.n).take i) ((false, 0), p)
  have h2 : ((Mo.bytes e.a e.n).take i).length ≤ i := by simp; omega
  unfold aSt
  omega
theorem atomic_eq (T : Th) (e : Ev) (p : Pl) : (aSt T e p e.n.toNat).2 = Mo.atomic T e p := by
  unfold aSt Mo.atomic
  rw [List.take_of_length_le (by rw [bytes_len]; exact Nat.le_refl _), atomicL_fold]
theorem build147z (wq : World) : (Instr.build 147 [].toArray).run P wq = .ok (.agg (Obcs (false, 0)).toArray) wq := by kernel_rfl
theorem atomic_ps (h : PS w0 w B R p) (hB : PBok B) (hn : p.orders.length + B.e.n.toNat < 1000000) (hK : ∀ w', PS w0 w' B R (Mo.atomic B.T B.e p) → K (.tuple #[]) w') : CallL P 115 [.pointer (some (Addr.mk B.pb 0 none))] w K := by
  refine f115_ok _ _ _ ?_
  rw [f115_eq]
  refine h.newC fun n1 w2 hn1 h2 => ?_
  refine ⟨_, build147z, ?_⟩
  refine h2.object (false, 0) fun n4 w6 hn4 h6 => ?_
  have h6d := h6.drew
  have hp1 : w6.drew.cell? (Addr.mk n1 0 none) = some (.pointer (some (Addr.mk B.pb 0 none))) := by rw [cell_of (h6d.get (k := 1) rfl)]; rfl
  refine ⟨_, hp1, B.e.a, h6d.ev 3 (by omega), _, hp1, B.e.n, h6d.ev 5 (by omega), ?_⟩
  refine bytes_ps h6d B.e.a B.e.n fun b1 b2 w14 hb1 hb2 h14 => ⟨_, rfl, ?_⟩
  rw [f115_s0_eq]
  have h14 := h14.perm (R' := (n4, Cs (Obcs (false, 0)) 147) :: (n1, Cs [.pointer (some (Addr.mk B.pb 0 none))] 127) :: (b1, Cs [I64 B.e.n] 3) :: (b2, Cs [.int .u32 B.e.a] 33) :: R)
    ((List.perm_append_comm (l₁ := [(b1, Cs [I64 B.e.n] 3), (b2, Cs [.int .u32 B.e.a] 33)]) (l₂ := [(n4, Cs (Obcs (false, 0)) 147), (n1, Cs [.pointer (some (Addr.mk B.pb 0 none))] 127)])).append_right R)
  let RR : Ob → List (Nat × Obj) := fun x => (n4, Cs (Obcs x) 147) :: (n1, Cs [.pointer (some (Addr.mk B.pb 0 none))] 127) :: (b1, Cs [I64 B.e.n] 3) :: (b2, Cs [.int .u32 B.e.a] 33) :: R
  let I : Nat → List (Nat × Obj) → Prop := fun i H' => ∃ (D : PD) (L : List (Nat × Obj)), D.p = (aSt B.T B.e p i).2 ∧ H' = L ++ plH B D (RR (aSt B.T B.e p i).1) ∧ PDok D ∧ SlO 4 99 D.ov D.p.orders.length (ords D.p.orders) L ∧ New w0 L
  obtain ⟨D0, L0, hD0, hs0, hd1, hd2, hd3⟩ := h14
  refine range_bytes (n := B.e.n) (at_ := B.e.a) (t1 := 3) (t2 := 33) hs0 (by simp) (by omega) I (fun _ _ => False) ⟨D0, L0, by rw [hD0]; rfl, rfl, hd1, by rw [hD0]; exact hd2, hd3⟩ ?_ ?_ ?_ ?_
  · rintro i H' ⟨D, L, _, rfl, _⟩
    simp [RR]
  · rintro l l' Rr post i W H' hi ⟨D, L, hDp, rfl, h1, h2, h3⟩ hs hl hl' hp _
    rw [f115_rd1_eq]
    refine ⟨rfl, ?_⟩
    have hps : PS w0 W B ((l', .deferred (some [])) :: (l, .loop (Rr .ready none)) :: RR (aSt B.T B.e p i).1) (aSt B.T B.e p i).2 := ⟨D, L, hDp, St.two hs, h1, by rw [← hDp]; exact h2, h3⟩
    have ho := aSt_orders B.T B.e p i
    refine atomic_body (s := aSt B.T B.e p i) hB (by omega) hps fun w' h' => ?_
    have e := aSt_succ B.T B.e p (i := i) (by omega)
    obtain ⟨D', L', hD', hs', h1', h2', h3'⟩ := h'
    refine hp w' (L' ++ plH B D' (RR (aSt B.T B.e p (i + 1)).1)) ⟨D', L', by rw [hD', e]; rfl, rfl, h1', by rw [hD']; exact h2', h3'⟩ ?_
    rw [e]
    exact hs'.perm (((List.Perm.swap _ _ _).trans ((List.Perm.cons _ plH_perm).trans plH_perm)).symm)
  · rintro W H' l' hl' ⟨D, L, hDp, rfl, h1, h2, h3⟩ hs
    show f115_rn1 (Addr.mk n1 0 none) (Addr.mk n4 0 none) [mk l'] W K
    rw [f115_rn1_eq]
    refine ⟨hs.get (k := 0) rfl, ?_⟩
    have hps : PS w0 W B ((l', .deferred (some [])) :: RR (aSt B.T B.e p B.e.n.toNat).1) (aSt B.T B.e p B.e.n.toNat).2 := ⟨D, L, hDp, hs.perm plH_perm, h1, by rw [← hDp]; exact h2, h3⟩
    rw [atomic_eq] at hps
    have h5 := hps.putR (k := 0) rfl (.deferred none)
    exact hK _ (((((h5.tail hl').tail hn4).tail hn1).tail hb1).tail hb2)
  · rintro c W H' l' _ hJ
    exact hJ.elim
end Go.Fx.Try
namespace Go.Fx.Try
open Go Go.Fx Go.Fx.Mo
open Go.Proofs
variable {w0 w : World} {H : List (Nat × Obj)} {K : Value → World → Prop}
set_option maxRecDepth 20000

theorem plan_check {T : Th} {tb tob tnb k : Nat} {tt : TypeId} {rest : List Value} (h : St w0 w H) (hT : ThOk T) (hk : H[k]? = some (tb, Cs (thCs T tob tnb ++ rest) tt)) (e : Ev)
    (hno : refused T e = true → ∀ w', St w0 w' H → K (.tuple [.pointer none, .bool false].toArray) w')
    (hyes : refused T e = false → ∀ n2 w', w0.heap.size ≤ n2 → St w0 w' ((n2, Cs (Evcs e) 35) :: H) → f63_s3 (Addr.mk n2 0 none) e.th (some (Addr.mk tb 0 none)) w' K) :
    f63 (some (Addr.mk tb 0 none)) (Evcs e).toArray w K := by
  rw [f63_eq]
  refine h.newC fun n2 w3 hn2 h3 => ?_
  have ev : ∀ {w' : World}, St w0 w' ((n2, Cs (Evcs e) 35) :: H) → ∀ i, w'.cell? (Addr.mk n2 i none) = (Evcs e)[i]? := fun h' i => h'.cell (k := 0) rfl
  have h3 : St w0 w3 ((n2, Cs (Evcs e) 35) :: H) := h3
  have ref : ∀ {w' : World}, St w0 w' ((n2, Cs (Evcs e) 35) :: H) → refused T e = true → K (.tuple [.pointer none, .bool false].toArray) w' := fun h' hr => hno hr _ (h'.tail hn2)
  have s0 : ∀ b : Bool, (b = true → refused T e = true) → (b = false → ∀ bb : Bool, (refused T e = bb ↔ ((accesses e).2.2 && (decide (e.n < 0) || decide (e.n > 65536)) || (accesses e).2.1 && (decide (e.n < 1) || decide (e.n > 16))) = bb)) →
      f63_s0 b (Addr.mk n2 0 none) e.th (some (Addr.mk tb 0 none)) w3 K := fun b hb hb' => by
    rw [f63_s0_eq, BIf_iff]
    refine ⟨fun hh => ref h3 (hb hh), fun hh => ?_⟩
    have hiff := hb' hh
    rw [f63_s1_eq]
    refine h3.ldA (k := 0) (i := 0) rfl (by simp [Evcs]) ?_
    refine accesses_ok h3 e fun w15 h15 => ⟨_, _, _, rfl, ?_⟩
    have en := ev h15 5
    have s2 : ∀ b : Bool, refused T e = b → f63_s2 b (Addr.mk n2 0 none) e.th (some (Addr.mk tb 0 none)) w15 K := fun b hb => by
      rw [f63_s2_eq, BIf_iff]
      exact ⟨fun hh => ref h15 (by rw [hb, hh]), fun hh => hyes (by rw [hb, hh]) n2 w15 hn2 h15⟩
    have he : w15.cell? ((Addr.mk n2 0 none).add 5) = some (Value.int .i64 e.n) := by rw [add_lit', en]; rfl
    rw [BIf_iff]
    generalize (accesses e).2.2 = is at *
    generalize (accesses e).2.1 = atm at *
    constructor
    · intro his
      refine ⟨e.n, he, ?_⟩
      rw [BIf_iff]
      refine ⟨fun h1 => s2 true ((hiff true).2 (by rw [his, h1]; rfl)), fun h1 => ⟨e.n, he, ?_⟩⟩
      rw [BIf_iff]
      refine ⟨fun h2 => s2 true ((hiff true).2 (by rw [his, h1, h2]; rfl)), fun h2 => ?_⟩
      rw [BIf_iff]
      refine ⟨fun h4 => ⟨e.n, he, ?_⟩, fun h4 => s2 false ((hiff false).2 (by rw [his, h1, h2, h4]; rfl))⟩
      rw [BIf_iff]
      exact ⟨fun h5 => s2 true ((hiff true).2 (by rw [his, h1, h2, h4, h5]; rfl)), fun h5 => ⟨e.n, he, s2 _ ((hiff _).2 (by rw [his, h1, h2, h4, h5]; simp))⟩⟩
    · intro his
      rw [BIf_iff]
      refine ⟨fun h4 => ⟨e.n, he, ?_⟩, fun h4 => s2 false ((hiff false).2 (by rw [his, h4]; rfl))⟩
      rw [BIf_iff]
      exact ⟨fun h5 => s2 true ((hiff true).2 (by rw [his, h4, h5]; rfl)), fun h5 => ⟨e.n, he, s2 _ ((hiff _).2 (by rw [his, h4, h5]; simp))⟩⟩
  have bad : refused T e = true → f63_s0 true (Addr.mk n2 0 none) e.th (some (Addr.mk tb 0 none)) w3 K := fun hr => s0 true (fun _ => hr) (fun hh => by cases hh)
  have hth : w3.heap[tb]? = some (Cs (thCs T tob tnb ++ rest) tt) := h3.get (k := k + 1) (by simpa using hk)
  refine ⟨e.th, by rw [add_lit', ev h3]; rfl, e.kind, by rw [ev h3]; rfl, ?_⟩
  rw [BIf_iff]
  refine ⟨fun c1 => bad (by unfold refused; rw [c1]; simp), fun c1 => ⟨e.kind, by rw [ev h3]; rfl, ?_⟩⟩
  rw [BIf_iff]
  refine ⟨fun c2 => bad (by unfold refused; rw [c2]; simp), fun c2 => ?_⟩
  rw [BIf_iff]
  refine ⟨fun c3 => bad (by unfold refused; rw [c3]; simp), fun c3 => ?_⟩
  rw [BIf_iff]
  refine ⟨fun c4 => bad (by unfold refused; rw [c4]; simp), fun c4 => ?_⟩
  have g3 : 0 ≤ e.th := by simp at c3; omega
  have g4 : e.th < 8 := by simp at c4; omega
  obtain ⟨i, hi, hi8⟩ : ∃ i : Nat, e.th = i ∧ i < 8 := ⟨e.th.toNat, by omega, by omega⟩
  have hlt : e.th < ((8 : Nat) : Int) := by simpa using g4
  have hg : getB T.begun e.th = T.begun.getD i false := by simp [getB, hi]
  have hg2 : getB T.ended e.th = T.ended.getD i false := by simp [getB, hi]
  refine ⟨g3, hlt, T.begun.getD i false, ?_, ?_⟩
  · rw [add_lit', add_lit', hi, Int.toNat_natCast, Nat.mul_one, Nat.zero_add, cell_of hth]; exact thCs_begun hT hi8
  rw [BIf_iff]
  refine ⟨fun c5 => bad (by unfold refused; rw [hg, c5]; simp), fun c5 => ⟨g3, hlt, T.ended.getD i false, ?_, ?_⟩⟩
  · rw [add_lit', add_lit', hi, Int.toNat_natCast, Nat.mul_one, Nat.zero_add, cell_of hth]; exact thCs_ended hT hi8
  exact s0 _ (fun c6 => by unfold refused; rw [hg2, c6]; simp) (fun c6 bb => by unfold refused; rw [c1, c2, c3, c4, hg, c5, hg2, c6]; simp)

variable {B : PB} {R : List (Nat × Obj)} {p : Pl}
theorem CallF_of {n : Nat} {args : List Value} (he : enterable P n = true) (h : CallL P n args w K) : CallF P (fnV n) args w K := by
  show match enterable P n with
    | true => CallL P n ([] ++ args ++ []) w K
    | false => False
  rw [he]
  simpa using h
theorem en114 : enterable P 114 = true := by kernel_rfl
theorem en115 : enterable P 115 = true := by kernel_rfl
theorem en116 : enterable P 116 = true := by kernel_rfl
theorem en117 : enterable P 117 = true := by kernel_rfl
theorem en118 : enterable P 118 = true := by kernel_rfl
theorem en119 : enterable P 119 = true := by kernel_rfl
theorem kindsL_get {k : Nat} (hk : k < 25) : kindsL[k]? = some (fnV (if k = 4 then 115 else if k = 11 then 116 else if k = 13 then 117 else if k = 14 then 118 else if k = 15 then 119 else 114)) := by
  unfold kindsL
  simp only [List.getElem?_set, List.length_set, List.length_replicate, List.getElem?_replicate]
  repeat' split
  all_goals first | rfl | omega
theorem act_ps (h : PS w0 w B R p) (hB : PBok B) (hn : p.orders.length < 1000 ∧ (B.e.kind = 4 → B.e.n ≤ 16)) (hk : 1 ≤ B.e.kind ∧ B.e.kind ≤ 24) (hK : ∀ w', PS w0 w' B R (Mo.act B.T B.e p) → K (.tuple #[]) w') :
    ∃ v, kindsL.toArray[B.e.kind.toNat * 1]? = some v ∧ CallF P v [.pointer (some (Addr.mk B.pb 0 none))] w K := by
  obtain ⟨k, hkk, hk25⟩ : ∃ k : Nat, B.e.kind = k ∧ k < 25 := ⟨B.e.kind.toNat, by omega, by omega⟩
  refine ⟨_, by rw [hkk, Int.toNat_natCast, Nat.mul_one]; simpa using kindsL_get hk25, ?_⟩
  unfold Mo.act at hK
  rw [hkk] at hK
  have ne : ∀ a : Nat, k ≠ a → ((k : Int) = (a : Int)) = False := fun a h => by simp; omega
  by_cases h4 : k = 4
  · subst h4
    exact CallF_of en115 (atomic_ps h hB (by have := hn.2 (by omega); omega) fun w' h' => hK w' (by simpa using h'))
  by_cases h11 : k = 11
  · subst h11
    exact CallF_of en116 (spawn_ps h hB (by omega) fun w' h' => hK w' (by simpa using h'))
  by_cases h13 : k = 13
  · subst h13
    exact CallF_of en117 (join_ps h hB (by omega) fun w' h' => hK w' (by simpa using h'))
  by_cases h14 : k = 14
  · subst h14
    exact CallF_of en118 (lock_ps h hB (by omega) fun w' h' => hK w' (by simpa using h'))
  by_cases h15 : k = 15
  · subst h15
    exact CallF_of en119 (unlock_ps h hB (by omega) fun w' h' => hK w' (by simpa using h'))
  rw [if_neg h4, if_neg h11, if_neg h13, if_neg h14, if_neg h15]
  exact CallF_of en114 (step_ps h hB (by omega) fun w' h' => hK w' (by
    rw [if_neg (by omega), if_neg (by omega), if_neg (by omega), if_neg (by omega), if_neg (by omega)]
    exact h'))

theorem PS.bad (h : PS w0 w B R p) : w.cell? (Addr.mk B.pb 22 none) = some (.bool p.bad) := by
  obtain ⟨ov, ob, nb, hp⟩ := h.pl
  rw [cell_of hp]; exact planCs_rest h.own 6
theorem kinds_ps (h : PS w0 w B R p) (hK : ∀ w', PS w0 w' B R p → K (.agg kindsL.toArray) w') : CallL P 94 [] w K := by
  obtain ⟨D, L, rfl, hs, h1, h2, h3⟩ := h
  exact kinds_ok hs fun w' hs' => hK w' ⟨D, L, rfl, hs', h1, h2, h3⟩
/-- The plan is laid; the event is carried out. -/
theorem plan_tail (h : PS w0 w B R p) (hB : PBok B) {a : Nat} {t : TypeId} (ha : R[0]? = some (a, Cs (Evcs B.e) t)) (hn : p.orders.length < 1000 ∧ (B.e.kind = 4 → B.e.n ≤ 16)) (hk : 1 ≤ B.e.kind ∧ B.e.kind ≤ 24)
    (hK : ∀ w', PS w0 w' B R (Mo.act B.T B.e p) → K (.tuple [.pointer (some (Addr.mk B.pb 0 none)), .bool (!(Mo.act B.T B.e p).bad)].toArray) w') :
    f63_s4 (Addr.mk B.pb 0 none) (Addr.mk a 0 none) w K := by
  have hd := h.drew
  have ev : ∀ {w' : World} {q : Pl}, PS w0 w' B R q → w'.cell? (Addr.mk a 0 none) = some (I64 B.e.kind) := fun h' => by rw [cell_of (h'.get ha)]; rfl
  have fin : ∀ w' : World, PS w0 w' B R (Mo.act B.T B.e p) → f63_s5 (Addr.mk B.pb 0 none) w' K := fun w' h' => by
    rw [f63_s5_eq]
    have h'd := h'.drew
    exact ⟨_, by rw [add_lit', h'd.bad], hK _ h'd⟩
  have hlt : B.e.kind < ((25 : Nat) : Int) := by omega
  rw [f63_s4_eq]
  constructor
  · refine kinds_ps hd fun w1 h1 => ⟨_, rfl, _, ev h1, by omega, hlt, ?_⟩
    obtain ⟨v, hv, hc⟩ := act_ps (K := fun r w' => r = (Value.tuple [].toArray) ∧ f63_s5 (Addr.mk B.pb 0 none) w' K) h1 hB hn hk fun w' h' => ⟨rfl, fin w' h'⟩
    exact ⟨v, hv, hc⟩
  · refine ⟨_, ev hd, kinds_ps hd fun w1 h1 => ⟨_, rfl, by omega, hlt, ?_⟩⟩
    obtain ⟨v, hv, hc⟩ := act_ps (K := fun r w' => r = (Value.tuple [].toArray) ∧ f63_s5 (Addr.mk B.pb 0 none) w' K) h1 hB hn hk fun w' h' => ⟨rfl, fin w' h'⟩
    exact ⟨v, hv, hc⟩

theorem build138 (tb ob nb : Nat) (e : Ev) {c : Clk} (hc : c.length = 8) (wq : World) :
    (Instr.build 138 [(0, (Value.pointer (some (Addr.mk tb 0 none)))), (1, (Value.agg (Evcs e).toArray)), (3, (Value.agg (c.map I64).toArray)), (5, (Value.map (some ob))), (6, (Value.map (some nb))), (7, (Value.int .i64 (-1))), (8, (Value.int .i64 (-1)))].toArray).run P wq =
      .ok (.agg (planCs tb e (.slice none 0 0) ob nb { orders := [], own := c, tk := 0, objs := [], names := [], fork := -1, ends := -1, rel := false, bad := false }).toArray) wq := by
  obtain ⟨c0, c1, c2, c3, c4, c5, c6, c7, rfl⟩ := own8 hc
  kernel_rfl

def pl00 (c : Clk) : Pl := { orders := [], own := c, tk := 0, objs := [], names := [], fork := -1, ends := -1, rel := false, bad := false }
/-- A plan, newly laid. -/
theorem PS.make {B : PB} {c : Clk} {x : Nat × Obj} (hc : c.length = 8)
    (h : St w0 w ((B.pb, Cs (planCs B.tb B.e (.slice none 0 0) B.ob B.nb (pl00 c)) B.t) :: (B.ob, .map #[] 0) :: (B.nb, .map #[] 0) :: x :: (B.tb, Cs (thCs B.T B.tob B.tnb ++ B.rest) B.tt) :: (B.tob, .map B.es3 B.c3) :: (B.tnb, .map B.es4 B.c4) :: R)) :
    PS w0 w B (x :: R) (pl00 c) := by
  refine ⟨⟨.slice none 0 0, pl00 c, #[], 0, #[], 0⟩, [], rfl, h.perm ?_, ⟨hc, MapIs.empty, MapIs.empty, by simp [pl00]⟩, SlO.nil 4 99, New.nil w0⟩
  refine List.Perm.cons _ (List.Perm.cons _ (List.Perm.cons _ ?_))
  exact (List.perm_append_comm (l₁ := [x]) (l₂ := [(B.tb, Cs (thCs B.T B.tob B.tnb ++ B.rest) B.tt), (B.tob, .map B.es3 B.c3), (B.tnb, .map B.es4 B.c4)])).append_right R

theorem plan_s3 {T : Th} {tb tob tnb n2 : Nat} {tt : TypeId} {rest : List Value} {es3 es4 : Array MapEntry} {c3 c4 : Nat} {e : Ev} (hT : ThOk T) (ht : 0 ≤ e.th ∧ e.th < 8)
    (h : St w0 w ((n2, Cs (Evcs e) 35) :: (tb, Cs (thCs T tob tnb ++ rest) tt) :: (tob, .map es3 c3) :: (tnb, .map es4 c4) :: R))
    (hK : ∀ w' pb ob nb, w0.heap.size ≤ pb → w0.heap.size ≤ ob → w0.heap.size ≤ nb → PS w0 w' ⟨pb, ob, nb, tb, tob, tnb, 138, tt, e, T, rest, es3, c3, es4, c4⟩ ((n2, Cs (Evcs e) 35) :: R) (pl0 T e) → f63_s4 (Addr.mk pb 0 none) (Addr.mk n2 0 none) w' K) :
    f63_s3 (Addr.mk n2 0 none) e.th (some (Addr.mk tb 0 none)) w K := by
  rw [f63_s3_eq]
  obtain ⟨i, hi, hi8⟩ : ∃ i : Nat, e.th = i ∧ i < 8 := ⟨e.th.toNat, by omega, by omega⟩
  have hd := h.drew
  refine ⟨ht.1, by have := ht.2; simpa using this, ?_⟩
  refine hd.ldA (k := 0) (i := 0) rfl (by simp [Evcs]) ?_
  rw [add_lit', hi, Int.toNat_natCast, Nat.zero_add]
  refine hd.ldA (k := 1) (i := i * 8) rfl (by rw [List.length_append, thCs_len hT]; omega) ?_
  rw [thCs_clock hT hi8]
  have hc := clk_len hT i
  have hp : pl00 (T.clocks.getD i zeroC) = pl0 T e := by simp [pl00, pl0, getC, hi]
  constructor
  · refine hd.newO fun n30 w31 h30 h31 => h31.newO fun n32 w33 h32 h33 => ?_
    refine ⟨_, build138 tb n30 n32 e hc, ?_⟩
    refine h33.newC fun n35 w36 h35 h36 => hK w36 n35 n30 n32 h35 h30 h32 ?_
    rw [← hp]
    exact PS.make (B := ⟨n35, n30, n32, tb, tob, tnb, 138, tt, e, T, rest, es3, c3, es4, c4⟩) hc (h36.perm (List.Perm.cons _ (List.Perm.swap _ _ _)))
  · refine hd.newO fun n55 w56 h55 h56 => h56.newO fun n57 w58 h57 h58 => ?_
    refine ⟨_, build138 tb n57 n55 e hc, ?_⟩
    refine h58.newC fun n60 w61 h60 h61 => hK w61 n60 n57 n55 h60 h57 h55 ?_
    rw [← hp]
    exact PS.make (B := ⟨n60, n57, n55, tb, tob, tnb, 138, tt, e, T, rest, es3, c3, es4, c4⟩) hc h61

theorem PS.forget (h : PS w0 w B R p) (h1 : w0.heap.size ≤ B.pb) (h2 : w0.heap.size ≤ B.ob) (h3 : w0.heap.size ≤ B.nb) :
    St w0 w ((B.tb, Cs (thCs B.T B.tob B.tnb ++ B.rest) B.tt) :: (B.tob, .map B.es3 B.c3) :: (B.tnb, .map B.es4 B.c4) :: R) := by
  obtain ⟨D, L, rfl, hs, _, _, hL⟩ := h
  exact (((hs.sub hL).tail h1).tail h2).tail h3
theorem refused_kind {T : Th} {e : Ev} (h : refused T e = false) : 1 ≤ e.kind ∧ e.kind ≤ 24 ∧ 0 ≤ e.th ∧ e.th < 8 ∧ (e.kind = 4 → e.n ≤ 16) := by
  unfold refused at h
  simp only [Bool.or_eq_false_iff, decide_eq_false_iff_not, Bool.and_eq_false_iff] at h
  obtain ⟨⟨⟨⟨⟨⟨⟨h1, h2⟩, h3⟩, h4⟩, _⟩, _⟩, _⟩, h8⟩ := h
  refine ⟨by omega, by omega, by omega, by omega, fun hk => ?_⟩
  rcases h8 with h8 | h8
  · simp [accesses, hk] at h8
  · omega

theorem plan_ok {T : Th} {tb tob tnb : Nat} {tt : TypeId} {rest : List Value} {es3 es4 : Array MapEntry} {c3 c4 : Nat} {e : Ev} (hT : ThOk T) (m3 : MapIs encO es3 c3 (encM encC T.objs)) (m4 : MapIs encO es4 c4 (encM encI T.names))
    (h : St w0 w ((tb, Cs (thCs T tob tnb ++ rest) tt) :: (tob, .map es3 c3) :: (tnb, .map es4 c4) :: R))
    (hnone : plan T e = none → ∀ w' v, St w0 w' ((tb, Cs (thCs T tob tnb ++ rest) tt) :: (tob, .map es3 c3) :: (tnb, .map es4 c4) :: R) → K (.tuple [.pointer v, .bool false].toArray) w')
    (hsome : ∀ q, plan T e = some q → ∀ w' pb ob nb, w0.heap.size ≤ pb → w0.heap.size ≤ ob → w0.heap.size ≤ nb → PS w0 w' ⟨pb, ob, nb, tb, tob, tnb, 138, tt, e, T, rest, es3, c3, es4, c4⟩ R q →
      K (.tuple [.pointer (some (Addr.mk pb 0 none)), .bool true].toArray) w') :
    CallL P 63 [.pointer (some (Addr.mk tb 0 none)), .agg (Evcs e).toArray] w K := by
  refine f63_ok _ _ _ _ (plan_check h hT (k := 0) rfl e (fun hr w' h' => hnone (by simp [plan, hr]) w' none h') fun hr n2 w' hn2 h' => ?_)
  obtain ⟨k1, k2, t1, t2, hn16⟩ := refused_kind hr
  refine plan_s3 hT ⟨t1, t2⟩ h' fun w1 pb ob nb hpb hob hnb h1 => ?_
  refine plan_tail h1 ⟨hT, m3, m4, ⟨t1, t2⟩⟩ rfl ⟨by simp [pl0], hn16⟩ ⟨k1, k2⟩ fun w2 h2 => ?_
  have h2 := h2.tail hn2
  cases hb : (Mo.act T e (pl0 T e)).bad with
  | true => exact hnone (by simp [plan, hr, hb]) w2 _ (h2.forget hpb hob hnb)
  | false => exact hsome _ (by simp [plan, hr, hb]) w2 pb ob nb hpb hob hnb h2
end Go.Fx.Try
