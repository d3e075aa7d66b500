/- Plans carried out, cells of bytes, the passes of Feed. -/
import Derived.Test.YtamciedmojpjaaaGh
import Derived.Test.YtamciedmojpjaaaGf
import Derived.Test.YtamciedmojpjaaaGg
import Derived.Test.YtamciedmojpjaaaGc
namespace Go.Fx
open Go
theorem perm_of_map {α β : Type} {f : α → β} (hf : ∀ a b, f a = f b → a = b) : ∀ {l l' : List α}, (l.map f).Perm (l'.map f) → l.Perm l'
  | [], l', h => by
    have := h.length_eq
    simp at this
    rw [List.length_eq_zero_iff.1 this.symm]
  | a :: r, l', h => by
    have ha : f a ∈ l'.map f := h.mem_iff.1 (by simp)
    obtain ⟨b, hb, e⟩ := List.mem_map.1 ha
    have := hf _ _ e
    subst this
    obtain ⟨s, t, rfl⟩ := List.append_of_mem hb
    have h2 : ((b :: r).map f).Perm ((b :: (s ++ t)).map f) := h.trans ((List.perm_middle).map f)
    exact (List.Perm.cons b (perm_of_map hf (by simpa using h2))).trans List.perm_middle.symm
theorem MapIs.of_perm {K : Type} {enc : K → Value} {es : Array MapEntry} {clk : Nat} {m m' : List (K × Value)} (h : MapIs enc es clk m) (hp : m.Perm m') : MapIs enc es clk m' := ⟨h.st, h.perm.trans (hp.map _)⟩
/-- A loop over the entries of a map. -/
theorem LoopE_map {B : (Env → World → Prop) → Env → World → Prop} {e0 : Env} {w1 : World} {es : Array MapEntry} (J : List MapEntry → Array Nat → World → Prop) (h0 : J [] #[] w1)
    (hover : ∀ vis seen w, Vis es vis [] seen → J vis seen w → ∀ Y, B Y e0 w)
    (hmore : ∀ vis rem seen w, rem ≠ [] → Vis es vis rem seen → J vis seen w → ∀ Y : Env → World → Prop, (∀ e w', e ∈ es.toList → e.born ∉ seen.toList → J (vis ++ [e]) (seen.push e.born) w' → Y e0 w') → B Y e0 w) : LoopE B e0 w1 := by
  refine ⟨fun n e w => ∃ vis rem seen, n = rem.length ∧ e = e0 ∧ Vis es vis rem seen ∧ J vis seen w, ⟨_, [], _, _, rfl, rfl, Vis.start es, h0⟩, ?_⟩
  rintro n e w ⟨vis, rem, seen, rfl, rfl, hv, hj⟩
  by_cases hr : rem = []
  · subst hr; exact hover vis seen w hv hj _
  · refine hmore vis rem seen w hr hv hj _ fun x w' hx hn hj' => ?_
    obtain ⟨rem', hl, hv'⟩ := hv.step hx hn
    exact ⟨rem'.length, by omega, _, rem', _, rfl, rfl, hv', hj'⟩
theorem splice_mid (A X Z Y : List Value) (h : X.length = Y.length) : splice (A ++ (X ++ Z)) A.length Y = A ++ (Y ++ Z) := by
  rw [splice_eq _ _ _ (by simp; omega)]
  simp [List.drop_append, ← h, List.append_assoc]
theorem set_mid {α : Type} (a b c : List α) (i : Nat) (v : α) (hi : i < b.length) : (a ++ (b ++ c)).set (a.length + i) v = a ++ (b.set i v ++ c) := by
  rw [List.set_append_right _ _ (by omega), show a.length + i - a.length = i by omega, List.set_append_left _ _ hi]
/-- A map's entry is one of the pairs. -/
theorem MapIs.pair {K : Type} {enc : K → Value} {es : Array MapEntry} {clk : Nat} {m : List (K × Value)} (h : MapIs enc es clk m) {e : MapEntry} (he : e ∈ es.toList) : ∃ q ∈ m, e.key = enc q.1 ∧ e.val = q.2 := by
  have : (e.key, e.val) ∈ es.toList.map fun e => (e.key, e.val) := List.mem_map.2 ⟨e, he, rfl⟩
  obtain ⟨p, hp, hpe⟩ := List.mem_map.1 (h.perm.mem_iff.1 this)
  exact ⟨p, hp, (congrArg Prod.fst hpe).symm, (congrArg Prod.snd hpe).symm⟩
namespace Try
open Go.Fx.Mo
open Go.Proofs
variable {w0 w : World} {H : List (Nat × Obj)} {K : Value → World → Prop}
set_option maxRecDepth 20000
section
variable {T : Th} {ob nb : Nat} {rest : List Value}
theorem thCs_setclock (h : ThOk T) {i : Nat} (hi : i < 8) {c : Clk} (hc : c.length = 8) : splice (thCs T ob nb ++ rest) (i * 8) (c.map I64) = thCs { T with clocks := T.clocks.set i c } ob nb ++ rest := by
  have hil : i < T.clocks.length := by rw [h.clocks]; exact hi
  have e1 : T.clocks = T.clocks.take i ++ (T.clocks[i] :: T.clocks.drop (i + 1)) := by simp
  have e2 : T.clocks.set i c = T.clocks.take i ++ (c :: T.clocks.drop (i + 1)) := by
    rw [List.set_eq_take_append_cons_drop, if_pos hil]
  have hA : ((T.clocks.take i).flatten.map I64).length = i * 8 := by
    rw [List.length_map, flat_len (fun d hd => h.each d (List.mem_of_mem_take hd)), List.length_take]; omega
  have hX : (T.clocks[i].map I64).length = (c.map I64).length := by rw [List.length_map, List.length_map, h.each _ (List.getElem_mem hil), hc]
  unfold thCs
  dsimp only
  rw [e2]
  conv => lhs; rw [e1]
  simp only [List.flatten_append, List.flatten_cons, List.map_append, List.append_assoc]
  rw [← hA]
  exact splice_mid _ _ _ _ hX
theorem ThOk.setclock (h : ThOk T) (i : Nat) {c : Clk} (hc : c.length = 8) : ThOk { T with clocks := T.clocks.set i c } := by
  refine ⟨by simp [h.clocks], fun d hd => ?_, h.begun, h.ended, h.rels, h.objs⟩
  rcases List.mem_or_eq_of_mem_set hd with hd | rfl
  · exact h.each d hd
  · exact hc
theorem thCs_setbegun (h : ThOk T) {i : Nat} (hi : i < 8) (b : Bool) : (thCs T ob nb ++ rest).set (64 + i) (.bool b) = thCs { T with begun := T.begun.set i b } ob nb ++ rest := by
  have hf : (T.clocks.flatten.map I64).length = 64 := by rw [List.length_map, flat_len h.each, h.clocks]
  unfold thCs
  simp only [List.append_assoc]
  rw [← hf, set_mid _ _ _ i _ (by simp [h.begun, hi]), List.map_set]
theorem thCs_setended (h : ThOk T) {i : Nat} (hi : i < 8) (b : Bool) : (thCs T ob nb ++ rest).set (72 + i) (.bool b) = thCs { T with ended := T.ended.set i b } ob nb ++ rest := by
  have hf : (T.clocks.flatten.map I64 ++ T.begun.map Value.bool).length = 72 := by simp only [List.length_append, List.length_map, flat_len h.each, h.clocks, h.begun]
  unfold thCs
  simp only [List.append_assoc]
  rw [← List.append_assoc, ← hf, set_mid _ _ _ i _ (by simp [h.ended, hi]), List.map_set]
  simp only [List.append_assoc]
theorem rels_len (h : ThOk T) : (T.clocks.flatten.map I64 ++ (T.begun.map Value.bool ++ T.ended.map Value.bool)).length = 80 := by simp only [List.length_append, List.length_map, flat_len h.each, h.clocks, h.begun, h.ended]
theorem thCs_setrels (h : ThOk T) {i : Nat} (hi : i < 8) (x : Int) : (thCs T ob nb ++ rest).set (80 + i) (I64 x) = thCs { T with rels := T.rels.set i x } ob nb ++ rest := by
  have e : ∀ T : Th, thCs T ob nb ++ rest = (T.clocks.flatten.map I64 ++ (T.begun.map Value.bool ++ T.ended.map Value.bool)) ++ (T.rels.map I64 ++ ([.map (some ob), .map (some nb)] ++ rest)) := fun T => by simp [thCs]
  rw [e, e, ← rels_len h, set_mid _ _ _ i _ (by simp [h.rels, hi]), List.map_set]
theorem thCs_rels (h : ThOk T) {i : Nat} (hi : i < 8) : (thCs T ob nb ++ rest)[80 + i]? = some (I64 (T.rels.getD i 0)) := by
  have e : ∀ T : Th, thCs T ob nb ++ rest = (T.clocks.flatten.map I64 ++ (T.begun.map Value.bool ++ T.ended.map Value.bool)) ++ (T.rels.map I64 ++ ([.map (some ob), .map (some nb)] ++ rest)) := fun T => by simp [thCs]
  rw [e, ← rels_len h, get_mid _ _ _ i (by simp [h.rels, hi])]
  simp [h.rels, hi]
end
theorem encC_inj {c d : Clk} (h : encC c = encC d) : c = d := by
  have h1 : c.map I64 = d.map I64 := by simpa [encC] using h
  exact (List.map_inj_right (fun a b h => by simpa using h)).1 h1

/-! perform. -/
variable {B : PB} {D : PD} {R L : List (Nat × Obj)}
/-- The state in the midst of a range over one of a plan's maps. -/
abbrev Wh (w0 w : World) (it m : Nat) (clk : Nat) (seen : Array Nat) (L : List (Nat × Obj)) (B : PB) (D : PD) (R : List (Nat × Obj)) : Prop :=
  St w0 w ((it, .mapIter (some m) clk seen clk) :: (L ++ plH B D R))
def withObjs (B : PB) (m : List (Ob × Clk)) (es : Array MapEntry) (c : Nat) : PB := { B with T := { B.T with objs := m }, es3 := es, c3 := c }
def withNames (B : PB) (m : List (Ob × Int)) (es : Array MapEntry) (c : Nat) : PB := { B with T := { B.T with names := m }, es4 := es, c4 := c }
theorem map_put {L : List (Nat × Obj)} {k tob : Nat} {o o' : Obj} {X : List (Nat × Obj)} {x : Nat × Obj} (h : St w0 w (x :: (L ++ X))) (hk : X[k]? = some (tob, o)) : St w0 (w.putObj tob o') (x :: (L ++ X.set k (tob, o'))) := by
  have := h.put (idx1 (a := x) (L := L) hk) o'
  rwa [set1] at this
theorem mapType118 : P.underlying 118 = some (.map 147 116) := by kernel_rfl
theorem mapType119 : P.underlying 119 = some (.map 147 3) := by kernel_rfl
/-- One round of the first loop. -/
theorem perf_s9 {it : Nat} {seen : Array Nat} (hit : w0.heap.size ≤ it) (h : Wh w0 w it B.ob D.c1 seen L B D R) (hB : PBok B) (hD : PDok D) {e : MapEntry} {q : Ob × Clk} (he : e ∈ D.es1.toList) (hs : seen.back? = some e.born)
    (hq : q ∈ D.p.objs) (hk : e.key = encO q.1) (hv : e.val = encC q.2) (x : Int) {Y : Env → World → Prop}
    (hK : ∀ w' es c, Wh w0 w' it B.ob D.c1 seen L (withObjs B (put B.T.objs q.1 q.2) es c) D R → MapIs encO es c (encM encC (put B.T.objs q.1 q.2)) →
      Y (Env.mk 108 [(0, (Value.pointer (some (Addr.mk B.tb 0 none)))), (27, (Value.pointer (some (Addr.mk it 0 none)))), (4, (Value.int .i64 x)), (1, (Value.pointer (some (Addr.mk B.pb 0 none))))] []) w') :
    f68_s9 (some (Addr.mk B.tb 0 none)) (Addr.mk it 0 none) x (some (Addr.mk B.pb 0 none)) w K Y := by
  rw [f68_s9_eq]
  have hm : w.heap[B.ob]? = some (.map D.es1 D.c1) := h.get (idx1 (k := 1) rfl)
  refine ⟨_, _, w, run_entry (h.get (k := 0) rfl) hm hs (find_born hD.m1.st he), (Obcs q.1).toArray, hk, (q.2.map I64).toArray, hv, ?_⟩
  have hql := hD.each q hq
  rw [z147, z116]
  refine h.newC fun n100 w101 hn100 h101 => h101.newC fun n102 w103 hn102 h103 => ?_
  have h103 : St w0 w103 ((n102, Cs (zeroC.map I64) 116) :: (n100, Cs [.bool false, .int .u32 0] 147) :: (it, .mapIter (some B.ob) D.c1 seen D.c1) :: (L ++ plH B D R)) := h103
  refine h103.stA (k := 1) rfl rfl (by simp) (by simp [Obcs, Value.oneCell']) fun w104 h104 => ?_
  refine h104.stA (k := 0) rfl (by simp [hql]) (by simp [zeroC]) (by simp [Value.oneCell']) fun w105 h105 => ?_
  have h105 : St w0 w105 ((n102, Cs (splice (zeroC.map I64) 0 (q.2.map I64)) 116) :: (n100, Cs (Obcs q.1) 147) :: (it, .mapIter (some B.ob) D.c1 seen D.c1) :: (L ++ plH B D R)) := h105
  rw [splice_eq _ _ _ (by simp [zeroC, hql])] at h105
  have e0 : (zeroC.map I64).take 0 ++ q.2.map I64 ++ (zeroC.map I64).drop (0 + (q.2.map I64).length) = q.2.map I64 := by simp [zeroC, hql]
  rw [e0] at h105
  have hd := h105.drew
  refine ⟨some B.tob, ?_, ?_⟩
  · rw [add_lit', cell_of (hd.has B.tb _ (by simp [plH]) : _ = some (Cs (thCs B.T B.tob B.tnb ++ B.rest) B.tt))]
    exact thCs_end hB.th 0
  refine hd.ldA (k := 1) (i := 0) rfl (by simp [Obcs]) (hd.ldA (k := 0) (i := 0) rfl (by simp [hql]) ?_)
  have hd' := (hd.tail hn102).tail hn100
  obtain ⟨es', c', hr, hm'⟩ := hB.m3.update keyO mapType118 (w := w105.drew) (b := B.tob) (hd'.get (idx1 (k := 4) rfl)) q.1 (encC q.2)
  rw [putM_map] at hm'
  have e8 : ((q.2.map I64).drop 0).take 8 = q.2.map I64 := by simp only [List.drop_zero]; exact List.take_of_length_le (by simp [hql])
  rw [e8]
  exact ⟨_, hr, hK _ es' c' (map_put (k := 4) hd' rfl) hm'⟩

theorem each_put {m : List (Ob × Clk)} {k : Ob} {c : Clk} (h : ∀ q ∈ m, q.2.length = 8) (hc : c.length = 8) : ∀ q ∈ put m k c, q.2.length = 8 := by
  intro q hq
  unfold put at hq
  split at hq
  · obtain ⟨y, hy, rfl⟩ := List.mem_map.1 hq
    split
    · exact hc
    · exact h y hy
  · rcases List.mem_append.1 hq with hq | hq
    · exact h q hq
    · simp at hq; rw [hq]; exact hc
theorem each_putAll {u : List (Ob × Clk)} : ∀ {m : List (Ob × Clk)}, (∀ q ∈ m, q.2.length = 8) → (∀ q ∈ u, q.2.length = 8) → ∀ q ∈ putAll m u, q.2.length = 8 := by
  induction u with
  | nil => intro m h _; exact h
  | cons p r ih => intro m h hu; exact ih (each_put h (hu p (.head _))) fun q hq => hu q (.tail _ hq)
theorem PBok.withObjs (hB : PBok B) {m : List (Ob × Clk)} {es : Array MapEntry} {c : Nat} (hm : MapIs encO es c (encM encC m)) (h8 : ∀ q ∈ m, q.2.length = 8) : PBok (withObjs B m es c) :=
  ⟨⟨hB.th.clocks, hB.th.each, hB.th.begun, hB.th.ended, hB.th.rels, h8⟩, hm, hB.m4, hB.lt⟩
theorem PBok.withNames (hB : PBok B) {m : List (Ob × Int)} {es : Array MapEntry} {c : Nat} (hm : MapIs encO es c (encM encI m)) : PBok (withNames B m es c) :=
  ⟨⟨hB.th.clocks, hB.th.each, hB.th.begun, hB.th.ended, hB.th.rels, hB.th.objs⟩, hB.m3, hm, hB.lt⟩
/-- What was met, told by pairs. -/
def Met {V : Type} (f : V → Value) (objs : List (Ob × V)) (vis : List MapEntry) (ms : List (Ob × V)) : Prop :=
  vis.map (fun e => (e.key, e.val)) = ms.map (fun q => (encO q.1, f q.2)) ∧ ∀ q ∈ ms, q ∈ objs
theorem Met.nil {V : Type} {f : V → Value} {objs : List (Ob × V)} : Met f objs [] [] := ⟨rfl, by simp⟩
theorem Met.snoc {V : Type} {f : V → Value} {objs : List (Ob × V)} {vis : List MapEntry} {ms : List (Ob × V)} (h : Met f objs vis ms) {e : MapEntry} {q : Ob × V} (hq : q ∈ objs) (hk : e.key = encO q.1) (hv : e.val = f q.2) : Met f objs (vis ++ [e]) (ms ++ [q]) :=
  ⟨by rw [List.map_append, List.map_append, h.1]; simp [hk, hv], fun x hx => by
    rcases List.mem_append.1 hx with hx | hx
    · exact h.2 x hx
    · simp at hx; rw [hx]; exact hq⟩
theorem Met.over {V : Type} {f : V → Value} (hf : ∀ a b, f a = f b → a = b) {objs : List (Ob × V)} {es : Array MapEntry} {c : Nat} (hm : MapIs encO es c (encM f objs)) {vis : List MapEntry} {seen : Array Nat} (hv : Vis es vis [] seen) {ms : List (Ob × V)}
    (h : Met f objs vis ms) (m : List (Ob × V)) : (putAll m ms).Perm (putAll m objs) := by
  have h1 := hm.perm
  have h2 : (es.toList.map fun e => (e.key, e.val)).Perm (vis.map fun e => (e.key, e.val)) := by have := hv.perm; rw [List.append_nil] at this; exact this.map _
  rw [h.1] at h2
  have h3 : (ms.map (fun q => (encO q.1, f q.2))).Perm (objs.map (fun q => (encO q.1, f q.2))) := by
    refine h2.symm.trans ?_
    simpa [encM, Function.comp_def] using h1
  have h4 : ms.Perm objs := perm_of_map (f := fun q : Ob × V => (encO q.1, f q.2)) (fun a b hab => Prod.ext (encO_inj (congrArg Prod.fst hab)) (hf _ _ (congrArg Prod.snd hab))) h3
  refine putAll_order h4 ?_ m
  have := hm.nodup
  have e : ((encM f objs).map (·.1)) = objs.map (·.1) := by simp [encM, Function.comp_def]
  rw [e] at this
  exact (h4.map _).nodup_iff.2 this
theorem Met.entry {V : Type} {f : V → Value} {objs : List (Ob × V)} {es : Array MapEntry} {c : Nat} (hm : MapIs encO es c (encM f objs)) {e : MapEntry} (he : e ∈ es.toList) : ∃ q ∈ objs, e.key = encO q.1 ∧ e.val = f q.2 := by
  obtain ⟨q, hq, h1, h2⟩ := hm.pair he
  obtain ⟨y, hy, rfl⟩ := List.mem_map.1 hq
  exact ⟨y, hy, h1, h2⟩
theorem perf_s0 (h : St w0 w (L ++ plH B D R)) (hB : PBok B) (hD : PDok D) (x : Int)
    (hK : ∀ w' es c, St w0 w' (L ++ plH (withObjs B (putAll B.T.objs D.p.objs) es c) D R) → PBok (withObjs B (putAll B.T.objs D.p.objs) es c) → f68_s2 (some (Addr.mk B.tb 0 none)) x (some (Addr.mk B.pb 0 none)) w' K) :
    f68_s0 (some (Addr.mk B.tb 0 none)) x (some (Addr.mk B.pb 0 none)) w K := by
  rw [f68_s0_eq]
  refine ⟨some B.ob, ?_, ?_⟩
  · rw [add_lit', cell_of (h.has B.pb _ (by simp [plH]) : _ = some (Cs (planCs B.tb B.e D.ov B.ob B.nb D.p) B.t))]
    exact planCs_rest hD.own 1
  have hm : w.heap[B.ob]? = some (.map D.es1 D.c1) := h.has _ _ (by simp [plH])
  refine ⟨w.heap.size, _, run_range mapType118 hm, ?_⟩
  have hit := h.le
  generalize hi : w.heap.size = it at hit
  have h1 : Wh w0 (w.alloc (.mapIter (some B.ob) D.c1 #[] D.c1)) it B.ob D.c1 #[] L B D R := by rw [← hi]; exact h.alloc _
  refine LoopE_map (es := D.es1) (fun vis seen w' => ∃ ms es c, Met encC D.p.objs vis ms ∧ Wh w0 w' it B.ob D.c1 seen L (withObjs B (putAll B.T.objs ms) es c) D R ∧ MapIs encO es c (encM encC (putAll B.T.objs ms)))
    ⟨[], B.es3, B.c3, Met.nil, h1, hB.m3⟩ ?_ ?_
  · rintro vis seen w1 hv ⟨ms, es, c, hmet, hw, hmi⟩ Y
    show f68_lb1 _ _ _ _ _ _ _
    rw [f68_lb1_eq]
    have hp := hmet.over (fun _ _ => encC_inj) hD.m1 hv B.T.objs
    refine .inl ⟨w1, run_next_over (hw.get (k := 0) rfl) (hw.get (idx1 (k := 1) rfl)) hD.m1.st hv.over, hK w1 es c ?_ (hB.withObjs (hmi.of_perm (hp.map _)) (each_putAll hB.th.objs hD.each))⟩
    exact hw.tail hit
  · rintro vis rem seen w1 hr hv ⟨ms, es, c, hmet, hw, hmi⟩ Y hY
    show f68_lb1 _ _ _ _ _ _ _
    rw [f68_lb1_eq]
    obtain ⟨e, w2, he, hn, hw2, hk2, hrun⟩ := run_next_some (P := P) (hw.get (k := 0) rfl) (hw.get (idx1 (k := 1) rfl)) hD.m1.st (hv.more hD.m1.st hr)
    obtain ⟨q, hq, hk, hvq⟩ := Met.entry hD.m1 he
    have h8 : ∀ q ∈ putAll B.T.objs ms, q.2.length = 8 := each_putAll hB.th.objs fun q hq => hD.each q (hmet.2 q hq)
    refine .inr ⟨_, _, _, hrun, perf_s9 (B := withObjs B (putAll B.T.objs ms) es c) (seen := seen.push e.born) hit ((hw.same hw2 hk2).put (k := 0) rfl _) (hB.withObjs hmi h8) hD he (by simp) hq hk hvq x fun w' es' c' h' hm' => hY e w' he hn ?_⟩
    have e1 : put (putAll B.T.objs ms) q.1 q.2 = putAll B.T.objs (ms ++ [q]) := by rw [putAll_append]; rfl
    refine ⟨ms ++ [q], es', c', hmet.snoc hq hk hvq, ?_, ?_⟩
    · rw [← e1]; exact h'
    · rw [← e1]; exact hm'
theorem perf_s8 {it : Nat} {seen : Array Nat} (hit : w0.heap.size ≤ it) (h : Wh w0 w it B.nb D.c2 seen L B D R) (hB : PBok B) (hD : PDok D) {e : MapEntry} {q : Ob × Int} (he : e ∈ D.es2.toList) (hs : seen.back? = some e.born)
    (hk : e.key = encO q.1) (hv : e.val = encI q.2) (x : Int) {Y : Env → World → Prop}
    (hK : ∀ w' es c, Wh w0 w' it B.nb D.c2 seen L (withNames B (put B.T.names q.1 q.2) es c) D R → MapIs encO es c (encM encI (put B.T.names q.1 q.2)) →
      Y (Env.mk 108 [(0, (Value.pointer (some (Addr.mk B.tb 0 none)))), (43, (Value.pointer (some (Addr.mk it 0 none)))), (4, (Value.int .i64 x)), (1, (Value.pointer (some (Addr.mk B.pb 0 none))))] []) w') :
    f68_s8 (some (Addr.mk B.tb 0 none)) (Addr.mk it 0 none) x (some (Addr.mk B.pb 0 none)) w K Y := by
  rw [f68_s8_eq]
  have hm : w.heap[B.nb]? = some (.map D.es2 D.c2) := h.get (idx1 (k := 2) rfl)
  refine ⟨_, _, w, run_entry (h.get (k := 0) rfl) hm hs (find_born hD.m2.st he), (Obcs q.1).toArray, hk, q.2, hv, ?_⟩
  rw [z147]
  refine h.newC fun n100 w101 hn100 h101 => ?_
  have h101 : St w0 w101 ((n100, Cs [.bool false, .int .u32 0] 147) :: (it, .mapIter (some B.nb) D.c2 seen D.c2) :: (L ++ plH B D R)) := h101
  refine h101.stA (k := 0) rfl rfl (by simp) (by simp [Obcs, Value.oneCell']) fun w105 h105 => ?_
  have h105 : St w0 w105 ((n100, Cs (Obcs q.1) 147) :: (it, .mapIter (some B.nb) D.c2 seen D.c2) :: (L ++ plH B D R)) := h105
  have hd := h105.drew
  refine ⟨some B.tnb, ?_, ?_⟩
  · rw [add_lit', cell_of (hd.has B.tb _ (by simp [plH]) : _ = some (Cs (thCs B.T B.tob B.tnb ++ B.rest) B.tt))]
    exact thCs_end hB.th 1
  refine hd.ldA (k := 0) (i := 0) rfl (by simp [Obcs]) ?_
  have hd' := hd.tail hn100
  obtain ⟨es', c', hr, hm'⟩ := hB.m4.update keyO mapType119 (w := w105.drew) (b := B.tnb) (hd'.get (idx1 (k := 5) rfl)) q.1 (encI q.2)
  rw [putM_map] at hm'
  exact ⟨_, hr, hK _ es' c' (map_put (k := 5) hd' rfl) hm'⟩
theorem encI_inj (a b : Int) (h : encI a = encI b) : a = b := by simpa using h
theorem perf_s2 (h : St w0 w (L ++ plH B D R)) (hB : PBok B) (hD : PDok D) (x : Int)
    (hK : ∀ w' es c, St w0 w' (L ++ plH (withNames B (putAll B.T.names D.p.names) es c) D R) → PBok (withNames B (putAll B.T.names D.p.names) es c) → f68_s4 x (some (Addr.mk B.tb 0 none)) (some (Addr.mk B.pb 0 none)) w' K) :
    f68_s2 (some (Addr.mk B.tb 0 none)) x (some (Addr.mk B.pb 0 none)) w K := by
  rw [f68_s2_eq]
  refine ⟨some B.nb, ?_, ?_⟩
  · rw [add_lit', cell_of (h.has B.pb _ (by simp [plH]) : _ = some (Cs (planCs B.tb B.e D.ov B.ob B.nb D.p) B.t))]
    exact planCs_rest hD.own 2
  have hm : w.heap[B.nb]? = some (.map D.es2 D.c2) := h.has _ _ (by simp [plH])
  refine ⟨w.heap.size, _, run_range mapType119 hm, ?_⟩
  have hit := h.le
  generalize hi : w.heap.size = it at hit
  have h1 : Wh w0 (w.alloc (.mapIter (some B.nb) D.c2 #[] D.c2)) it B.nb D.c2 #[] L B D R := by rw [← hi]; exact h.alloc _
  refine LoopE_map (es := D.es2) (fun vis seen w' => ∃ ms es c, Met encI D.p.names vis ms ∧ Wh w0 w' it B.nb D.c2 seen L (withNames B (putAll B.T.names ms) es c) D R ∧ MapIs encO es c (encM encI (putAll B.T.names ms)))
    ⟨[], B.es4, B.c4, Met.nil, h1, hB.m4⟩ ?_ ?_
  · rintro vis seen w1 hv ⟨ms, es, c, hmet, hw, hmi⟩ Y
    show f68_lb3 _ _ _ _ _ _ _
    rw [f68_lb3_eq]
    have hp := hmet.over encI_inj hD.m2 hv B.T.names
    refine .inl ⟨w1, run_next_over (hw.get (k := 0) rfl) (hw.get (idx1 (k := 2) rfl)) hD.m2.st hv.over, hK w1 es c ?_ (hB.withNames (hmi.of_perm (hp.map _)))⟩
    exact hw.tail hit
  · rintro vis rem seen w1 hr hv ⟨ms, es, c, hmet, hw, hmi⟩ Y hY
    show f68_lb3 _ _ _ _ _ _ _
    rw [f68_lb3_eq]
    obtain ⟨e, w2, he, hn, hw2, hk2, hrun⟩ := run_next_some (P := P) (hw.get (k := 0) rfl) (hw.get (idx1 (k := 2) rfl)) hD.m2.st (hv.more hD.m2.st hr)
    obtain ⟨q, hq, hk, hvq⟩ := Met.entry hD.m2 he
    refine .inr ⟨_, _, _, hrun, perf_s8 (B := withNames B (putAll B.T.names ms) es c) (seen := seen.push e.born) hit ((hw.same hw2 hk2).put (k := 0) rfl _) (hB.withNames hmi) hD he (by simp) hk hvq x fun w' es' c' h' hm' => hY e w' he hn ?_⟩
    have e1 : put (putAll B.T.names ms) q.1 q.2 = putAll B.T.names (ms ++ [q]) := by rw [putAll_append]; rfl
    refine ⟨ms ++ [q], es', c', hmet.snoc hq hk hvq, ?_, ?_⟩
    · rw [← e1]; exact h'
    · rw [← e1]; exact hm'
end Try
end Go.Fx
namespace Go.Fx.Try
open Go Go.Fx Go.Fx.Mo
open Go.Proofs
variable {w0 w : World} {K : Value → World → Prop} {B : PB} {R : List (Nat × Obj)} {p : Pl}
set_option maxRecDepth 20000
def setT (B : PB) (T : Th) : PB := { B with T := T }
theorem PBok.setT (hB : PBok B) {T : Th} (hT : ThOk T) (h1 : T.objs = B.T.objs) (h2 : T.names = B.T.names) : PBok (setT B T) :=
  ⟨hT, by show MapIs encO B.es3 B.c3 (encM encC T.objs); rw [h1]; exact hB.m3, by show MapIs encO B.es4 B.c4 (encM encI T.names); rw [h2]; exact hB.m4, hB.lt⟩
theorem PS.thSt1 (h : PS w0 w B R p) (hB : PBok B) {i : Nat} {v : Value} {T' : Th} {K : World → Prop} (hi : i < 90) (hv : v.oneCell' = true) (hT : (thCs B.T B.tob B.tnb ++ B.rest).set i v = thCs T' B.tob B.tnb ++ B.rest)
    (hK : ∀ w', PS w0 w' (setT B T') R p → K w') : St1 (Addr.mk B.tb i none) v w K := by
  obtain ⟨D, L, rfl, hs, h1, h2, h3⟩ := h
  refine hs.st1 (k := L.length + 3) (idx_app L _ 3) (by rw [List.length_append, thCs_len hB.th]; omega) hv fun w' h' => hK w' ⟨D, L, rfl, ?_, h1, h2, h3⟩
  rw [set_app, hT] at h'
  exact h'
theorem PS.ownCs (h : PS w0 w B R p) {K : Array Value → Prop} (hK : K (p.own.map I64).toArray) : LdA 8 (Addr.mk B.pb 8 none) w K := by
  have ho := h.own
  obtain ⟨ov, ob, nb, hp⟩ := h.pl
  refine LdA_of hp (by rw [planCs_len ho]; omega) ?_
  have : ((planCs B.tb B.e ov ob nb p).drop 8).take 8 = p.own.map I64 := by
    obtain ⟨a, b, c, d, f, g, h, j, hl⟩ := own8 ho
    simp only [planCs, Evcs, hl]
    rfl
  rw [this]
  exact hK
theorem PS.rest7 (h : PS w0 w B R p) (i : Nat) : ∃ ob nb, w.cell? (Addr.mk B.pb (16 + i) none) = [I64 p.tk, .map (some ob), .map (some nb), I64 p.fork, I64 p.ends, .bool p.rel, .bool p.bad][i]? := by
  obtain ⟨ov, ob, nb, hp⟩ := h.pl
  exact ⟨ob, nb, by rw [cell_of hp]; exact planCs_rest h.own i⟩
def perf7 (T : Th) (e : Ev) (p : Pl) : Th := if p.rel then { T with rels := T.rels.set e.th.toNat (w64 (at0 T.rels e.th + 1)) } else T
def perf6 (T : Th) (p : Pl) : Th := if p.ends ≥ 0 then { T with ended := T.ended.set p.ends.toNat true } else T
def perf4 (T : Th) (p : Pl) : Th := if p.fork ≥ 0 then { T with begun := T.begun.set p.fork.toNat true, clocks := T.clocks.set p.fork.toNat (joinC (getC T.clocks p.fork) p.own) } else T
theorem perform_eq (T : Th) (e : Ev) (p : Pl) : perform T e p = perf7 (perf6 (perf4 { T with clocks := T.clocks.set e.th.toNat p.own, objs := putAll T.objs p.objs, names := putAll T.names p.names } p) p) e p := rfl

theorem perf_s7 (h : PS w0 w B R p) (hB : PBok B) (hK : ∀ w', PS w0 w' (setT B (perf7 B.T B.e p)) R p → PBok (setT B (perf7 B.T B.e p)) → K (.tuple [].toArray) w') : f68_s7 B.e.th (some (Addr.mk B.tb 0 none)) (some (Addr.mk B.pb 0 none)) w K := by
  rw [f68_s7_eq]
  obtain ⟨i, hi, hi8⟩ : ∃ i : Nat, B.e.th = i ∧ i < 8 := ⟨B.e.th.toNat, by have := hB.lt; omega, by have := hB.lt; omega⟩
  obtain ⟨_, _, hr⟩ := h.rest7 5
  refine ⟨p.rel, by rw [add_lit']; exact hr, ?_⟩
  rw [BIf_iff]
  constructor
  · intro hrel
    have hd := h.drew
    simp only [optS, add_lit', Nat.mul_one, Nat.zero_add]
    rw [hi]
    simp only [Int.toNat_natCast]
    refine ⟨by omega, by omega, B.T.rels.getD i 0, by rw [cell_of hd.th]; exact thCs_rels hB.th hi8, by omega, by omega, ?_⟩
    have e7 : perf7 B.T B.e p = { B.T with rels := B.T.rels.set i (w64 (B.T.rels.getD i 0 + 1)) } := by simp [perf7, hrel, hi, at0]
    rw [e7] at hK
    exact hd.thSt1 hB (by omega) rfl (thCs_setrels hB.th hi8 _) fun w' h' => hK w' h' (hB.setT ⟨hB.th.clocks, hB.th.each, hB.th.begun, hB.th.ended, by simp [hB.th.rels], hB.th.objs⟩ rfl rfl)
  · intro hrel
    have e7 : perf7 B.T B.e p = B.T := by simp [perf7, hrel]
    rw [e7] at hK
    exact hK w h hB
theorem perf_s6 (h : PS w0 w B R p) (hB : PBok B) (he : p.ends < 8) (hK : ∀ w', PS w0 w' (setT B (perf7 (perf6 B.T p) B.e p)) R p → PBok (setT B (perf7 (perf6 B.T p) B.e p)) → K (.tuple [].toArray) w') : f68_s6 B.e.th (some (Addr.mk B.tb 0 none)) (some (Addr.mk B.pb 0 none)) w K := by
  rw [f68_s6_eq]
  obtain ⟨_, _, hr⟩ := h.rest7 4
  refine ⟨p.ends, by rw [add_lit']; exact hr, ?_⟩
  rw [BIf_iff]
  constructor
  · intro hge
    have hge : p.ends ≥ 0 := by simpa using hge
    obtain ⟨i, hi, hi8⟩ : ∃ i : Nat, p.ends = i ∧ i < 8 := ⟨p.ends.toNat, by omega, by omega⟩
    have hd := h.drew
    obtain ⟨_, _, hr⟩ := hd.rest7 4
    simp only [optS, add_lit', Nat.mul_one, Nat.zero_add]
    refine ⟨p.ends, hr, by omega, by omega, ?_⟩
    rw [hi]
    simp only [Int.toNat_natCast]
    have e6 : perf6 B.T p = { B.T with ended := B.T.ended.set i true } := by simp [perf6, hi]
    rw [e6] at hK
    have hB' : PBok (setT B { B.T with ended := B.T.ended.set i true }) := hB.setT ⟨hB.th.clocks, hB.th.each, hB.th.begun, by simp [hB.th.ended], hB.th.rels, hB.th.objs⟩ rfl rfl
    exact hd.thSt1 hB (by omega) rfl (thCs_setended hB.th hi8 _) fun w' h' => perf_s7 (B := setT B { B.T with ended := B.T.ended.set i true }) h' hB' hK
  · intro hge
    have hge : ¬ p.ends ≥ 0 := by simpa using hge
    have e6 : perf6 B.T p = B.T := by simp [perf6, hge]
    rw [e6] at hK
    exact perf_s7 h hB hK
theorem perf_s4 (h : PS w0 w B R p) (hB : PBok B) (hf : p.fork < 8) (he : p.ends < 8) (hK : ∀ w', PS w0 w' (setT B (perf7 (perf6 (perf4 B.T p) p) B.e p)) R p → PBok (setT B (perf7 (perf6 (perf4 B.T p) p) B.e p)) → K (.tuple [].toArray) w') :
    f68_s4 B.e.th (some (Addr.mk B.tb 0 none)) (some (Addr.mk B.pb 0 none)) w K := by
  rw [f68_s4_eq]
  obtain ⟨_, _, hr⟩ := h.rest7 3
  refine ⟨p.fork, by rw [add_lit']; exact hr, ?_⟩
  rw [BIf_iff]
  constructor
  · intro hge
    have hge : p.fork ≥ 0 := by simpa using hge
    obtain ⟨i, hi, hi8⟩ : ∃ i : Nat, p.fork = i ∧ i < 8 := ⟨p.fork.toNat, by omega, by omega⟩
    have hd := h.drew
    obtain ⟨_, _, hr⟩ := hd.rest7 3
    simp only [optS, add_lit', Nat.mul_one, Nat.zero_add]
    refine ⟨p.fork, hr, by omega, by omega, ?_⟩
    rw [hi]
    simp only [Int.toNat_natCast]
    have hT1 : ThOk { B.T with begun := B.T.begun.set i true } := ⟨hB.th.clocks, hB.th.each, by simp [hB.th.begun], hB.th.ended, hB.th.rels, hB.th.objs⟩
    have hB' : PBok (setT B { B.T with begun := B.T.begun.set i true }) := hB.setT hT1 rfl rfl
    refine hd.thSt1 hB (by omega) rfl (thCs_setbegun hB.th hi8 _) fun w1 h1 => ?_
    rw [f68_s5_eq]
    have hd1 := h1.drew
    obtain ⟨_, _, hr⟩ := hd1.rest7 3
    simp only [optS, add_lit', Nat.mul_one, Nat.zero_add]
    refine ⟨p.fork, hr, by omega, by omega, hd1.ownCs ?_⟩
    rw [hi]
    simp only [Int.toNat_natCast]
    have ho := hd1.own
    have hcl : (B.T.clocks.getD i zeroC).length = 8 := clk_len hB.th i
    obtain ⟨D, L, rfl, hs, k1, k2, k3⟩ := hd1
    have e4 : perf4 B.T D.p = { B.T with begun := B.T.begun.set i true, clocks := B.T.clocks.set i (joinC (B.T.clocks.getD i zeroC) D.p.own) } := by simp [perf4, hi, getC]
    rw [e4] at hK
    refine join_ok hs (k := L.length + 3) (cs := thCs { B.T with begun := B.T.begun.set i true } B.tob B.tnb ++ B.rest) (c := B.T.clocks.getD i zeroC) (idx_app L _ 3) hcl ho (by rw [List.length_append, thCs_len hT1]; omega) (thCs_clock hT1 hi8) fun w2 h2 => ⟨rfl, ?_⟩
    rw [set_app, thCs_setclock hT1 hi8 (joinC_length hcl ho)] at h2
    have hT2 := hT1.setclock i (joinC_length hcl ho)
    exact perf_s6 (B := setT B { B.T with begun := B.T.begun.set i true, clocks := B.T.clocks.set i (joinC (B.T.clocks.getD i zeroC) D.p.own) }) ⟨D, L, rfl, h2, k1, k2, k3⟩ (hB.setT hT2 rfl rfl) he hK
  · intro hge
    have hge : ¬ p.fork ≥ 0 := by simpa using hge
    have e4 : perf4 B.T p = B.T := by simp [perf4, hge]
    rw [e4] at hK
    exact perf_s6 h hB he hK
def withT (B : PB) (T : Th) (es3 : Array MapEntry) (c3 : Nat) (es4 : Array MapEntry) (c4 : Nat) : PB := { B with T := T, es3, c3, es4, c4 }
theorem perform_ps (h : PS w0 w B R p) (hB : PBok B) (hf : p.fork < 8) (he : p.ends < 8)
    (hK : ∀ w' es3 c3 es4 c4, PS w0 w' (withT B (perform B.T B.e p) es3 c3 es4 c4) R p → PBok (withT B (perform B.T B.e p) es3 c3 es4 c4) → K (.tuple [].toArray) w') :
    CallL P 68 [.pointer (some (Addr.mk B.tb 0 none)), .pointer (some (Addr.mk B.pb 0 none))] w K := by
  refine f68_ok _ _ _ _ ?_
  rw [f68_eq]
  obtain ⟨i, hi, hi8⟩ : ∃ i : Nat, B.e.th = i ∧ i < 8 := ⟨B.e.th.toNat, by have := hB.lt; omega, by have := hB.lt; omega⟩
  have ho := h.own
  simp only [optS, add_lit', Nat.zero_add]
  refine ⟨B.e.th, by rw [h.ev 1 (by omega)]; rfl, h.drew.ownCs ⟨hB.lt.1, by have := hB.lt.2; simpa using this, ?_⟩⟩
  obtain ⟨D, L, rfl, hs, k1, k2, k3⟩ := h.drew
  rw [hi]
  simp only [Int.toNat_natCast]
  have hT1 := hB.th.setclock i ho
  refine hs.stA (k := L.length + 3) (cs := thCs B.T B.tob B.tnb ++ B.rest) (idx_app L _ 3) (by simp [ho]) (by rw [List.length_append, thCs_len hB.th]; omega) (by simp [Value.oneCell']) fun w1 h1 => ?_
  rw [set_app, thCs_setclock hB.th hi8 ho] at h1
  have hB1 : PBok (setT B { B.T with clocks := B.T.clocks.set i D.p.own }) := hB.setT hT1 rfl rfl
  rw [← hi]
  refine perf_s0 (B := setT B { B.T with clocks := B.T.clocks.set i D.p.own }) h1 hB1 k1 _ fun w2 es3 c3 h2 hB2 => ?_
  refine perf_s2 (B := withObjs (setT B { B.T with clocks := B.T.clocks.set i D.p.own }) (putAll B.T.objs D.p.objs) es3 c3) h2 hB2 k1 _ fun w3 es4 c4 h3 hB3 => ?_
  refine perf_s4 (B := withNames (withObjs (setT B { B.T with clocks := B.T.clocks.set i D.p.own }) (putAll B.T.objs D.p.objs) es3 c3) (putAll B.T.names D.p.names) es4 c4) ⟨D, L, rfl, h3, k1, k2, k3⟩ hB3 hf he fun w4 h4 hB4 => ?_
  have e : perform B.T B.e D.p = perf7 (perf6 (perf4 { B.T with clocks := B.T.clocks.set i D.p.own, objs := putAll B.T.objs D.p.objs, names := putAll B.T.names D.p.names } D.p) D.p) B.e D.p := by
    rw [perform_eq, hi]; rfl
  have hK := hK w4 es3 c3 es4 c4
  rw [e] at hK
  exact hK h4 hB4
end Go.Fx.Try
namespace Go.Fx.Try
open Go Go.Fx Go.Fx.Mo
open Go.Proofs
variable {w0 w : World} {H : List (Nat × Obj)} {K : Value → World → Prop}
set_option maxRecDepth 20000
def pastCs (p : Past) : List Value := Acccs p.acc ++ [I64 p.tick]
def pasts (l : List Past) : List Value := (l.map pastCs).flatten
theorem flat_slice {α : Type} {l : List α} {f : α → List Value} {n : Nat} (h : ∀ x ∈ l, (f x).length = n) {i : Nat} (hi : i < l.length) : (((l.map f).flatten).drop (i * n)).take n = f l[i] := by
  induction l generalizing i with
  | nil => simp at hi
  | cons x r ih =>
    have hx := h x (.head _)
    cases i with
    | zero =>
      simp only [Nat.zero_mul, List.drop_zero, List.map_cons, List.flatten_cons, List.getElem_cons_zero]
      rw [← hx, List.take_left]
    | succ i =>
      simp only [List.map_cons, List.flatten_cons, List.getElem_cons_succ]
      rw [show (i + 1) * n = (f x).length + i * n by rw [hx, Nat.succ_mul]; omega, List.drop_append, List.drop_eq_nil_of_le (by omega)]
      simp only [List.nil_append]
      rw [show (f x).length + i * n - (f x).length = i * n by omega]
      exact ih (fun y hy => h y (.tail _ hy)) (by simpa using hi)
/-- The cells of a slice's element. -/
theorem slO_ldA {size : Nat} {e : TypeId} {ov : Value} {n : Nat} {xs : List Value} {L : List (Nat × Obj)} (h : SlO size e ov n xs L) (hL : ∀ x ∈ L, w.heap[x.1]? = some x.2) {i : Nat} (hi : i < n) :
    ∃ g c, ov = .slice (some ⟨g, 0, none⟩) n c ∧ ∀ K : Array Value → Prop, K ((xs.drop (i * size)).take size).toArray → LdA size ((Addr.mk g 0 none).add (i * size)) w K := by
  rcases h.2 with ⟨_, h0, _⟩ | ⟨g, cap, cur, h1, h2, h3, h4, h5, h6⟩
  · omega
  · refine ⟨g, cap, h1, fun K hK => ?_⟩
    rw [add_lit']
    have hle : i * size + size ≤ n * size := by rw [← Nat.succ_mul]; exact Nat.mul_le_mul_right _ hi
    have hle2 : n * size ≤ cap * size := Nat.mul_le_mul_right _ h3
    refine LdA_of (cs := cur) (t := e) (hL (g, Cs cur e) (by simp [h2])) (by omega) ?_
    have e1 : ((cur.drop (0 + i * size)).take size) = (xs.drop (i * size)).take size := by
      rw [← h6, List.drop_take, List.take_take, Nat.zero_add]
      congr 1
      omega
    rw [e1]
    exact hK
theorem z45 : zcells P 45 = #[I64 0, I64 0, .int .u32 0, .bool false, .bool false] := by kernel_rfl
theorem z152 : zcells P 152 = #[I64 0, I64 0, .int .u32 0, .bool false, .bool false, I64 0] := by kernel_rfl
theorem build45z (wq : World) : (Instr.build 45 [].toArray).run P wq = .ok (.agg #[I64 0, I64 0, .int .u32 0, .bool false, .bool false]) wq := by kernel_rfl
theorem Acccs_len (a : Acc) : (Acccs a).length = 5 := rfl
theorem Acccs_one (a : Acc) : ∀ v ∈ (Acccs a).toArray.toList, v.oneCell' = true := by simp [Acccs, Value.oneCell']
theorem pastCs_len (p : Past) : (pastCs p).length = 6 := rfl
theorem pastCs_one (p : Past) : ∀ v ∈ (pastCs p).toArray.toList, v.oneCell' = true := by simp [pastCs, Acccs, Value.oneCell']
def raceV (x : Option Acc) : Value := match x with
  | some a => .tuple [.agg (Acccs a).toArray, .bool true].toArray
  | none => .tuple [.agg #[I64 0, I64 0, .int .u32 0, .bool false, .bool false], .bool false].toArray
theorem run_len_sl {p : Option Addr} {l c : Nat} (wq : World) : (Builtin.len_ #[139] 3 [Value.slice p l c].toArray).run P wq = .ok (.int .i64 l) wq := run_len_slice p l c Try.underlying139 3
theorem race_ok (h : St w0 w H) {addr : Nat} {t : TypeId} {c : Cell} {ov : Value} {rest : List Value} {L : List (Nat × Obj)} (hc : (addr, Cs (ov :: rest) t) ∈ H) (hs : SlO 6 152 ov c.l.length (pasts c.l) L) (hL : ∀ x ∈ L, x ∈ H)
    (hth : ∀ p ∈ c.l, 0 ≤ p.acc.th ∧ p.acc.th < 8) {own : Clk} (ho : own.length = 8) (hn : c.l.length < 2000000000) (a : Acc)
    (hK : ∀ w', St w0 w' H → K (raceV (c.race a own)) w') : CallL P 66 [.pointer (some (Addr.mk addr 0 none)), .agg (Acccs a).toArray, .agg (own.map I64).toArray] w K := by
  refine f66_ok _ _ _ _ _ ?_
  rw [f66_eq]
  refine h.newC fun n3 w4 hn3 h4 => h4.newC fun n5 w6 hn5 h6 => h6.newC fun n7 w8 hn7 h8 => ?_
  rw [z45] at h8
  obtain ⟨sa, sc, hov⟩ := hs.form
  refine ⟨sa, c.l.length, sc, ?_, c.l.length, fun wq _ => run_len_sl wq, ?_⟩
  · rw [cell_of (h8.has addr _ (.tail _ (.tail _ (.tail _ hc)))), hov]; rfl
  let f : Past → Bool := fun p => conflict p.acc a && decide (at0 own p.acc.th < p.tick)
  have hfix : ∀ w', St w0 w' ((n7, Cs [I64 0, I64 0, .int .u32 0, .bool false, .bool false] 45) :: (n5, Cs (own.map I64) 116) :: (n3, Cs (Acccs a) 45) :: H) → St w0 w' H := fun w' h' => ((h'.tail hn7).tail hn5).tail hn3
  refine ⟨fun m e w => ∃ i : Nat, i ≤ c.l.length ∧ m = c.l.length - i ∧
    e = Env.mk 37 [(6, (Value.pointer (some (Addr.mk n7 0 none)))), (15, (Value.int .i64 i)), (5, (Value.pointer (some (Addr.mk n5 0 none)))), (4, (Value.pointer (some (Addr.mk n3 0 none)))), (13, (Value.slice sa c.l.length sc)), (7, (Value.bool false)), (14, (Value.int .i64 c.l.length))] [] ∧
    (c.l.take i).find? f = none ∧ St w0 w ((n7, Cs [I64 0, I64 0, .int .u32 0, .bool false, .bool false] 45) :: (n5, Cs (own.map I64) 116) :: (n3, Cs (Acccs a) 45) :: H), ⟨c.l.length, 0, by omega, rfl, rfl, by simp, h8⟩, ?_⟩
  rintro m e w ⟨i, hi, rfl, rfl, hnone, hw⟩
  show f66_lb0 _ _ _ _ _ _ _ _ _ _ _ _
  rw [f66_lb0_eq, BIf_iff]
  constructor
  · intro hlt
    have hlt : i < c.l.length := by simpa using hlt
    rw [f66_s1_eq]
    have hsl : ((pasts c.l).drop (i * 6)).take 6 = pastCs c.l[i] := flat_slice (f := pastCs) (fun x _ => pastCs_len x) hlt
    have hLw : ∀ {w' : World} {X : List (Nat × Obj)}, St w0 w' (X ++ H) → ∀ x ∈ L, w'.heap[x.1]? = some x.2 := fun h' x hx => h'.has x.1 x.2 (by simp [hL x hx])
    obtain ⟨g, cc, hg, hld⟩ := slO_ldA hs (w := w) (i := i) (hLw (X := [_, _, _]) hw) hlt
    rw [hov] at hg
    obtain ⟨hsa, -⟩ : sa = some ⟨g, 0, none⟩ ∧ sc = cc := by simpa using hg
    subst hsa
    refine ⟨by omega, by omega, hld _ ?_⟩
    rw [hsl]
    refine hw.newC fun n28 w29 hn28 h29 => ?_
    rw [z152] at h29
    refine h29.stA (k := 0) rfl rfl (by simp) (pastCs_one _) fun w30 h30 => ?_
    have h30 : St w0 w30 ((n28, Cs (pastCs c.l[i]) 152) :: (n7, Cs [I64 0, I64 0, .int .u32 0, .bool false, .bool false] 45) :: (n5, Cs (own.map I64) 116) :: (n3, Cs (Acccs a) 45) :: H) := h30
    have hd := h30.drew
    refine hd.ldA (k := 0) (i := 0) rfl (by simp [pastCs_len]) (hd.ldA (k := 3) (i := 0) rfl (by simp [Acccs_len]) ?_)
    have s2 : ∀ b w34, St w0 w34 ((n28, Cs (pastCs c.l[i]) 152) :: (n7, Cs [I64 0, I64 0, .int .u32 0, .bool false, .bool false] 45) :: (n5, Cs (own.map I64) 116) :: (n3, Cs (Acccs a) 45) :: H) → f c.l[i] = b →
        f66_s2 b (Addr.mk n7 0 none) (Addr.mk n5 0 none) (Addr.mk n3 0 none) (some ⟨g, 0, none⟩) c.l.length sc c.l.length i (Addr.mk n28 0 none) false w34 K
          (fun e' w' => ∃ m, m < c.l.length - i ∧ ∃ i : Nat, i ≤ c.l.length ∧ m = c.l.length - i ∧
            e' = Env.mk 37 [(6, (Value.pointer (some (Addr.mk n7 0 none)))), (15, (Value.int .i64 i)), (5, (Value.pointer (some (Addr.mk n5 0 none)))), (4, (Value.pointer (some (Addr.mk n3 0 none)))), (13, (Value.slice (some ⟨g, 0, none⟩) c.l.length sc)), (7, (Value.bool false)), (14, (Value.int .i64 c.l.length))] [] ∧
            (c.l.take i).find? f = none ∧ St w0 w' ((n7, Cs [I64 0, I64 0, .int .u32 0, .bool false, .bool false] 45) :: (n5, Cs (own.map I64) 116) :: (n3, Cs (Acccs a) 45) :: H)) := by
      intro b w34 h34 hb
      rw [f66_s2_eq, BIf_iff]
      constructor
      · rintro rfl
        have hfd : c.l.find? f = some c.l[i] := by
          have e := List.take_append_drop i c.l
          rw [List.drop_eq_getElem_cons hlt] at e
          have e2 : c.l.find? f = (c.l.take i ++ c.l[i] :: c.l.drop (i + 1)).find? f := by rw [e]
          rw [e2, List.find?_append, hnone, List.find?_cons, hb]
          simp
        refine h34.ldA (k := 0) (i := 0) rfl (by simp [pastCs_len]) (h34.stA (k := 1) rfl rfl (by simp) (Acccs_one c.l[i].acc) fun w49 h49 => ?_)
        refine h49.ldA (k := 1) (i := 0) rfl (by simp [splice_length]) ?_
        have hr : c.race a own = some c.l[i].acc := by unfold Cell.race; rw [show c.l.find? (fun p => conflict p.acc a && decide (at0 own p.acc.th < p.tick)) = some c.l[i] from hfd]; rfl
        have hk := hK w49 ((((h49.tail hn28).tail hn7).tail hn5).tail hn3)
        rw [hr] at hk
        exact hk
      · rintro rfl
        rw [f66_s3_eq]
        refine ⟨c.l.length - (i + 1), by omega, i + 1, by omega, rfl, ?_, ?_, h34.tail hn28⟩
        · rw [wrap_i64 (by omega) (by omega)]; rfl
        · rw [take_succ' _ hlt, List.find?_append, hnone]; simp [hb]
    refine conflict_ok hd c.l[i].acc a fun w34 h34 => ⟨_, rfl, ?_⟩
    rw [BIf_iff]
    have ht := hth c.l[i] (List.getElem_mem hlt)
    constructor
    · intro hcf
      refine ⟨c.l[i].acc.th, by rw [add_lit', h34.cell (k := 0) rfl]; rfl, ht.1, by have := ht.2; simpa using this, at0 own c.l[i].acc.th, ?_, c.l[i].tick, by rw [add_lit', h34.cell (k := 0) rfl]; rfl, ?_⟩
      · rw [add_lit', h34.cell (k := 2) rfl]
        have : (c.l[i].acc.th).toNat < own.length := by omega
        simp [at0, this]
      · exact s2 _ w34 h34 (by simp [f, hcf])
    · intro hcf
      exact s2 _ w34 h34 (by simp [f, hcf])
  · intro hge
    have : i = c.l.length := by simp at hge; omega
    subst this
    rw [f66_s4_eq]
    refine ⟨_, build45z, hw.stA (k := 0) rfl rfl (by simp) (by simp [Value.oneCell']) fun w60 h60 => ?_⟩
    refine h60.ldA (k := 0) (i := 0) rfl (by simp [splice_length]) ?_
    have hr : c.race a own = none := by
      unfold Cell.race
      rw [List.take_length] at hnone
      rw [show c.l.find? (fun p => conflict p.acc a && decide (at0 own p.acc.th < p.tick)) = none from hnone]; rfl
    have hk := hK w60 (hfix w60 h60)
    rw [hr] at hk
    exact hk
end Go.Fx.Try
namespace Go.Fx.Try
open Go Go.Fx Go.Fx.Mo
open Go.Proofs
variable {w0 w : World} {H : List (Nat × Obj)} {K : Value → World → Prop}
set_option maxRecDepth 20000
/-- A byte's cell, and where it lies. -/
structure CB where
  byte : Int
  addr : Nat
  ov : Value
  c : Cell
  L : List (Nat × Obj)
def cellCs (x : CB) : List Value := x.ov :: x.c.last.map I64
def cbH (x : CB) : List (Nat × Obj) := (x.addr, Cs (cellCs x) 142) :: x.L
structure CBok (w0 : World) (x : CB) : Prop where
  sl : SlO 6 152 x.ov x.c.l.length (pasts x.c.l) x.L
  new : New w0 x.L
  last : x.c.last.length = 24
  na : w0.heap.size ≤ x.addr
  th : ∀ p ∈ x.c.l, 0 ≤ p.acc.th ∧ p.acc.th < 8
theorem kind_lt (a : Acc) : 0 ≤ kind a ∧ kind a < 3 := by unfold kind; split <;> (try split) <;> omega
theorem build152 (a : Acc) (x : Int) (wq : World) : (Instr.build 152 [(0, (Value.agg (Acccs a).toArray)), (1, (Value.int .i64 x))].toArray).run P wq = .ok (.agg (pastCs ⟨a, x⟩).toArray) wq := by
  obtain ⟨a, b, c, d, e⟩ := a
  kernel_rfl
theorem info152 : P.info? 152 = some Try.t152 := by kernel_rfl
theorem pasts_snoc (l : List Past) (p : Past) : pasts (l ++ [p]) = pasts l ++ pastCs p := by simp [pasts]
theorem remember_ok {x : CB} (h : St w0 w (cbH x ++ H)) (hx : CBok w0 x) {a : Acc} (ha : 0 ≤ a.th ∧ a.th < 8) (hn : x.c.l.length < 2000000000) (tick rel : Int)
    (hK : ∀ w' x', x'.addr = x.addr → x'.byte = x.byte → x'.c = x.c.remember a tick rel → CBok w0 x' → St w0 w' (cbH x' ++ H) → K (.tuple [].toArray) w') :
    CallL P 67 [.pointer (some (Addr.mk x.addr 0 none)), .agg (Acccs a).toArray, .int .i64 tick, .int .i64 rel] w K := by
  refine f67_ok _ _ _ _ _ _ ?_
  rw [f67_eq]
  refine h.newC fun n4 w5 hn4 h5 => ?_
  have h5 : St w0 w5 ((n4, Cs (Acccs a) 45) :: (cbH x ++ H)) := h5
  have hd := h5.drew
  obtain ⟨t, ht, ht8⟩ : ∃ t : Nat, a.th = t ∧ t < 8 := ⟨a.th.toNat, by omega, by omega⟩
  obtain ⟨k, hk, hk3⟩ : ∃ k : Nat, kind a = k ∧ k < 3 := ⟨(kind a).toNat, by have := kind_lt a; omega, by have := kind_lt a; omega⟩
  have hik : t * 3 + k < 24 := by omega
  have s0 : ∀ w10, St w0 w10 ((n4, Cs (Acccs a) 45) :: (cbH x ++ H)) → f67_s0 tick (Addr.mk n4 0 none) (some (Addr.mk x.addr 0 none)) rel (some ((((Addr.mk x.addr 0 none).add 1).add (Int.toNat a.th * 3)).add (Int.toNat (kind a) * 1))) w10 K := by
    intro w10 h10
    rw [f67_s0_eq, ht, hk]
    simp only [optS, add_lit', Nat.zero_add, Int.toNat_natCast, Nat.mul_one]
    have hi : 1 + t * 3 + k = (t * 3 + k) + 1 := by omega
    rw [hi]
    refine ⟨x.c.last.getD (t * 3 + k) 0, ?_, ?_⟩
    · rw [h10.cell (k := 1) (cs := cellCs x) rfl]
      have : t * 3 + k < x.c.last.length := by rw [hx.last]; exact hik
      simp [cellCs, this]
    rw [BIf_iff]
    have hrem : x.c.remember a tick rel = if x.c.last.getD (t * 3 + k) 0 = w64 (rel + 1) then x.c else { l := x.c.l ++ [⟨a, tick⟩], last := x.c.last.set (t * 3 + k) (w64 (rel + 1)) } := by
      unfold Cell.remember
      rw [ht, hk]
      simp only [Int.toNat_natCast]
    constructor
    · intro he
      rw [if_pos (by simpa [w64] using he)] at hrem
      exact hK w10 x rfl rfl hrem.symm hx (h10.tail hn4)
    · intro he
      have hne : ¬ x.c.last.getD (t * 3 + k) 0 = w64 (rel + 1) := by simpa [w64] using he
      rw [if_neg hne] at hrem
      rw [f67_s1_eq]
      simp only [optS, add_lit', Nat.zero_add]
      refine h10.st1 (k := 1) (cs := cellCs x) rfl (by simp [cellCs, hx.last]; omega) rfl fun w25 h25 => ?_
      have hset : (cellCs x).set (t * 3 + k + 1) (Value.int .i64 (IntKind.wrap .i64 (rel + 1))) = x.ov :: (x.c.last.set (t * 3 + k) (w64 (rel + 1))).map I64 := by
        simp [cellCs, List.map_set, w64]
      rw [hset] at h25
      have h25 : St w0 w25 ((n4, Cs (Acccs a) 45) :: (x.addr, Cs (x.ov :: (x.c.last.set (t * 3 + k) (w64 (rel + 1))).map I64) 142) :: (x.L ++ H)) := h25
      have h25d := h25.drew
      refine h25d.ldA (k := 0) (i := 0) rfl (by simp [Acccs_len]) ?_
      refine ⟨_, build152 a tick, ?_⟩
      obtain ⟨sa, sc, hov⟩ := hx.sl.form
      have fin : ∀ n33 w31, w0.heap.size ≤ n33 → St w0 w31 ((n33, Cs (pastCs ⟨a, tick⟩) 152) :: (n4, Cs (Acccs a) 45) :: (x.addr, Cs (x.ov :: (x.c.last.set (t * 3 + k) (w64 (rel + 1))).map I64) 142) :: (x.L ++ H)) →
          ∃ g cap w35, (Builtin.append_ #[139, 139] 139 [x.ov, .slice (some ⟨n33, 0, none⟩) 1 1].toArray).run P w31 = .ok (.slice (some ⟨g, 0, none⟩) (x.c.l.length + 1) cap) w35 ∧
            St1 (Addr.mk x.addr 0 none) (.slice (some ⟨g, 0, none⟩) (x.c.l.length + 1) cap) w35 fun w37 => K (Value.tuple [].toArray) w37 := by
        intro n33 w31 hn33 h31
        obtain ⟨g, cap, w', L', hr, hS, hs', hN⟩ := St.append (P := P) 139 139 152 Try.t152 (.agg #[I64 0, I64 0, .int .u32 0, .bool false, .bool false, I64 0]) 6 32 Try.underlying139 info152 rfl rfl rfl rfl (by omega)
          (A := [(n33, Cs (pastCs ⟨a, tick⟩) 152), (n4, Cs (Acccs a) 45), (x.addr, Cs (x.ov :: (x.c.last.set (t * 3 + k) (w64 (rel + 1))).map I64) 142)]) h31 hx.sl hx.new (j := 0) rfl rfl (by simpa using pastCs_one ⟨a, tick⟩) (by simp [maxLen]; omega) (by omega)
        refine ⟨g, cap, w', hr, ?_⟩
        have hs' : St w0 w' ((n33, Cs (pastCs ⟨a, tick⟩) 152) :: (n4, Cs (Acccs a) 45) :: (x.addr, Cs (x.ov :: (x.c.last.set (t * 3 + k) (w64 (rel + 1))).map I64) 142) :: (L' ++ H)) := hs'
        refine hs'.st1 (k := 2) rfl (by simp) rfl fun w37 h37 => ?_
        refine hK w37 ⟨x.byte, x.addr, .slice (some ⟨g, 0, none⟩) (x.c.l.length + 1) cap, x.c.remember a tick rel, L'⟩ rfl rfl rfl ⟨?_, hN, ?_, hx.na, ?_⟩ ?_
        · rw [hrem]; simp only [List.length_append, List.length_singleton]; rw [pasts_snoc]; exact hS
        · rw [hrem]; simp [hx.last]
        · rw [hrem]; intro p hp
          rcases List.mem_append.1 hp with hp | hp
          · exact hx.th p hp
          · simp at hp; rw [hp]; exact ha
        · have := ((h37.tail hn33).tail hn4)
          rw [hrem]
          exact this
      have rd : ∀ {w' : World} {X : List (Nat × Obj)}, St w0 w' (X ++ ((n4, Cs (Acccs a) 45) :: (x.addr, Cs (x.ov :: (x.c.last.set (t * 3 + k) (w64 (rel + 1))).map I64) 142) :: (x.L ++ H))) → w'.cell? (Addr.mk x.addr 0 none) = some (Value.slice sa x.c.l.length sc) := fun h' => by
        rw [cell_of (h'.has x.addr (Cs (x.ov :: (x.c.last.set (t * 3 + k) (w64 (rel + 1))).map I64) 142) (by simp)), hov]; rfl
      constructor
      · refine ⟨sa, _, sc, rd (X := []) h25d, ⟨rfl, trivial⟩, ?_⟩
        refine h25d.newC fun n33 w31 hn33 h31 => ?_
        obtain ⟨g, cap, w35, hr, hst⟩ := fin n33 w31 hn33 h31
        rw [hov] at hr
        exact ⟨_, _, _, w35, hr, hst⟩
      · refine ⟨⟨rfl, trivial⟩, ?_⟩
        refine h25d.newC fun n33 w31 hn33 h31 => ?_
        obtain ⟨g, cap, w35, hr, hst⟩ := fin n33 w31 hn33 h31
        rw [hov] at hr
        exact ⟨sa, _, sc, rd (X := [_]) h31, _, _, _, w35, hr, hst⟩
  have hkl := kind_lt a
  have cth : ∀ {w' : World}, St w0 w' ((n4, Cs (Acccs a) 45) :: (cbH x ++ H)) → w'.cell? ((Addr.mk n4 0 none).add 1) = some (Value.int .i64 a.th) := fun h' => by rw [add_lit', h'.cell (k := 0) rfl]; rfl
  refine hd.ldA (k := 0) (i := 0) rfl (by simp [Acccs_len]) ⟨?_, ?_⟩
  · refine ⟨a.th, cth hd, ha.1, by have := ha.2; simpa using this, ?_⟩
    refine kind_ok hd a fun w10 h10 => ⟨_, rfl, hkl.1, by have := hkl.2; simpa using this, s0 w10 h10⟩
  · refine kind_ok hd a fun w10 h10 => ⟨_, rfl, a.th, cth h10, ha.1, by have := ha.2; simpa using this, hkl.1, by have := hkl.2; simpa using this, s0 w10 h10⟩
end Go.Fx.Try
namespace Go.Fx.Try
open Go Go.Fx Go.Fx.Mo
open Go.Proofs
variable {w0 w : World} {H : List (Nat × Obj)} {K : Value → World → Prop}
set_option maxRecDepth 20000
abbrev encU (x : Int) : Value := .int .u32 x
structure DB where
  db : Nat
  tob : Nat
  tnb : Nat
  cb : Nat
  lb : Nat
  es3 : Array MapEntry
  c3 : Nat
  es4 : Array MapEntry
  c4 : Nat
  es5 : Array MapEntry
  c5 : Nat
  es6 : Array MapEntry
  c6 : Nat
  d : Det
  cs : List CB
def restCs (D : DB) : List Value := [.bool true, I64 D.d.many, .map (some D.cb), .map (some D.lb)]
def cellsH (cs : List CB) : List (Nat × Obj) := cs.flatMap cbH
abbrev ptr (b : Nat) : Value := .pointer (some (Addr.mk b 0 none))
def cellM (cs : List CB) : List (Int × Value) := cs.map fun x => (x.byte, ptr x.addr)
def cellD (cs : List CB) : List (Int × Cell) := cs.map fun x => (x.byte, x.c)
def detH (D : DB) : List (Nat × Obj) :=
  (D.db, Cs (thCs D.d.th D.tob D.tnb ++ restCs D) 126) :: (D.tob, .map D.es3 D.c3) :: (D.tnb, .map D.es4 D.c4) :: (D.cb, .map D.es5 D.c5) :: (D.lb, .map D.es6 D.c6) :: cellsH D.cs
structure DBok (w0 : World) (D : DB) : Prop where
  th : ThOk D.d.th
  m3 : MapIs encO D.es3 D.c3 (encM encC D.d.th.objs)
  m4 : MapIs encO D.es4 D.c4 (encM encI D.d.th.names)
  m5 : MapIs encU D.es5 D.c5 (cellM D.cs)
  m6 : MapIs encU D.es6 D.c6 (encM Value.bool D.d.told)
  cells : D.d.cells = cellD D.cs
  each : ∀ x ∈ D.cs, CBok w0 x ∧ (x.c.l.length : Int) ≤ 65536 * D.d.many
  many : 0 ≤ D.d.many ∧ D.d.many ≤ 20000
  new : w0.heap.size ≤ D.db ∧ w0.heap.size ≤ D.tob ∧ w0.heap.size ≤ D.tnb ∧ w0.heap.size ≤ D.cb ∧ w0.heap.size ≤ D.lb
theorem DBok.newH {D : DB} (h : DBok w0 D) : New w0 (detH D) := by
  intro x hx
  simp only [detH, List.mem_cons] at hx
  obtain ⟨a, b, c, d, e⟩ := h.new
  rcases hx with rfl | rfl | rfl | rfl | rfl | hx
  · exact a
  · exact b
  · exact c
  · exact d
  · exact e
  · obtain ⟨y, hy, hx⟩ := List.mem_flatMap.1 hx
    have hy := (h.each y hy).1
    rcases List.mem_cons.1 hx with rfl | hx
    · exact hy.na
    · exact hy.new x hx
/-- The frame of a plan: what else stands. -/
theorem PS.frame {B : PB} {R : List (Nat × Obj)} {p : Pl} (h : PS w0 w B R p) : ∃ F, St w0 w (R ++ F) ∧ (∃ ov ob nb, (B.pb, Cs (planCs B.tb B.e ov ob nb p) B.t) ∈ F) ∧ (B.tb, Cs (thCs B.T B.tob B.tnb ++ B.rest) B.tt) ∈ F ∧
    ∀ w' R', St w0 w' (R' ++ F) → PS w0 w' B R' p := by
  obtain ⟨D, L, rfl, hs, h1, h2, h3⟩ := h
  have pm : ∀ R' : List (Nat × Obj), (L ++ plH B D R').Perm (R' ++ (L ++ plH B D [])) := fun R' => by
    have e : L ++ plH B D R' = (L ++ plH B D []) ++ R' := by simp [plH]
    rw [e]
    exact List.perm_append_comm
  refine ⟨L ++ plH B D [], hs.perm (pm R), ⟨D.ov, B.ob, B.nb, by simp [plH]⟩, by simp [plH], fun w' R' h' => ⟨D, L, rfl, h'.perm (pm R').symm, h1, h2, h3⟩⟩

/-! The cells of bytes. -/
theorem lookD (cs : List CB) (b : Int) : Mo.look (cellD cs) b = (cs.find? fun x => x.byte == b).map (·.c) := by
  unfold Mo.look cellD
  rw [List.find?_map]
  cases h : cs.find? ((fun p : Int × Cell => p.1 == b) ∘ fun x => (x.byte, x.c)) with
  | none => rw [show cs.find? (fun x => x.byte == b) = none from h]; rfl
  | some x => rw [show cs.find? (fun x => x.byte == b) = some x from h]; rfl
theorem lookMc (cs : List CB) (b : Int) : lookM (cellM cs) b = (cs.find? fun x => x.byte == b).map fun x => ptr x.addr := by
  unfold lookM cellM
  rw [List.find?_map]
  cases h : cs.find? ((fun p : Int × Value => p.1 == b) ∘ fun x => (x.byte, ptr x.addr)) with
  | none => rw [show cs.find? (fun x => x.byte == b) = none from h]; rfl
  | some x => rw [show cs.find? (fun x => x.byte == b) = some x from h]; rfl
theorem mapType123 : P.underlying 123 = some (.map 33 134) := Try.underlying123
theorem mapType124 : P.underlying 124 = some (.map 33 4) := Try.underlying124
theorem zero134 (w : World) : (zeroValue 134).run P w = .ok (.pointer none) w := Try.zeroValue134 w
theorem zero4 (w : World) : (zeroValue 4).run P w = .ok (.bool false) w := Try.zeroValue4 w
theorem ext_get {wq : World} (hx : Ext w wq) {b : Nat} {o : Obj} (hb : w.heap[b]? = some o) : wq.heap[b]? = some o := by
  rw [hx b (Array.getElem?_eq_some_iff.1 hb).1, hb]
theorem lookup123 {es : Array MapEntry} {clk : Nat} {cs : List CB} (hm : MapIs encU es clk (cellM cs)) {wq : World} {m : Nat} (hx : Ext w wq) (hb : w.heap[m]? = some (.map es clk)) (b : Int) :
    (Instr.lookup 123 (.map (some m)) (.int .u32 b) false).run P wq = .ok (.pointer ((cs.find? fun x => x.byte == b).map fun x => Addr.mk x.addr 0 none)) wq := by
  have := hm.lookup keyU mapType123 zero134 (ext_get hx hb) b false
  rw [lookMc] at this
  simp only [Bool.false_eq_true, if_false] at this
  rw [this]
  cases cs.find? fun x => x.byte == b <;> rfl
theorem lookup124 {es : Array MapEntry} {clk : Nat} {m : List (Int × Bool)} (hm : MapIs encU es clk (encM Value.bool m)) {wq : World} {k : Nat} (hx : Ext w wq) (hb : w.heap[k]? = some (.map es clk)) (b : Int) :
    (Instr.lookup 124 (.map (some k)) (.int .u32 b) false).run P wq = .ok (.bool ((Mo.look m b).getD false)) wq := by
  have := hm.lookup keyU mapType124 zero4 (ext_get hx hb) b false
  rw [lookM_map] at this
  simp only [Bool.false_eq_true, if_false] at this
  rw [this]
  cases Mo.look m b <;> rfl
theorem find_split {cs : List CB} {b : Int} {x : CB} (h : (cs.find? fun x => x.byte == b) = some x) : x.byte = b ∧ ∃ pre post, cs = pre ++ x :: post := by
  have h1 := List.find?_some h
  have h2 := List.mem_of_find?_eq_some h
  exact ⟨by simpa using h1, List.append_of_mem h2⟩
theorem cellsH_split (pre post : List CB) (x : CB) : (cellsH (pre ++ x :: post)).Perm (cbH x ++ cellsH (pre ++ post)) := by
  unfold cellsH
  simp only [List.flatMap_append, List.flatMap_cons]
  rw [← List.append_assoc, ← List.append_assoc]
  exact List.Perm.append_right _ List.perm_append_comm
theorem cellM_keys (cs : List CB) : (cellM cs).map (·.1) = cs.map (·.byte) := by simp [cellM, Function.comp_def]
theorem cellD_keys (cs : List CB) : (cellD cs).map (·.1) = cs.map (·.byte) := by simp [cellD, Function.comp_def]
/-- One cell, changed. -/
theorem put_split {pre post : List CB} {x y : CB} (hn : ((pre ++ x :: post).map (·.byte)).Nodup) (hb : y.byte = x.byte) : put (cellD (pre ++ x :: post)) x.byte y.c = cellD (pre ++ y :: post) := by
  have hl : Mo.look (cellD (pre ++ x :: post)) x.byte ≠ none := by
    rw [lookD]
    have : ((pre ++ x :: post).find? fun z => z.byte == x.byte) ≠ none := by
      rw [ne_eq, List.find?_eq_none]
      intro hh
      exact hh x (by simp) (by simp)
    cases h : (pre ++ x :: post).find? fun z => z.byte == x.byte with
    | none => exact absurd h this
    | some z => simp
  unfold put
  cases h : Mo.look (cellD (pre ++ x :: post)) x.byte with
  | none => exact absurd h hl
  | some c =>
    simp only [cellD, List.map_map, List.map_append, List.map_cons]
    rw [List.map_append, List.map_cons, List.nodup_append, List.nodup_cons] at hn
    congr 1
    · apply List.map_congr_left
      intro z hz
      have : z.byte ≠ x.byte := fun e => hn.2.2 z.byte (List.mem_map.2 ⟨z, hz, rfl⟩) x.byte (by simp) e
      simp [this]
    · congr 1
      · simp [hb]
      · apply List.map_congr_left
        intro z hz
        have : z.byte ≠ x.byte := fun e => hn.2.1.1 (List.mem_map.2 ⟨z, hz, e⟩)
        simp [this]
theorem keep_one {a : Acc} {tk rel : Int} {ts : List (Int × Bool)} {b : Int} {r : List Int} {cs : List (Int × Cell)} : keep a tk rel ts (b :: r) cs =
    keep a tk rel ts r (if (Mo.look ts b).getD false then (match Mo.look cs b with
      | none => put cs b cell0
      | some _ => cs) else put cs b (((Mo.look cs b).getD cell0).remember a tk rel)) := rfl
def Racecs (r : Mo.Race) : List Value := .int .u32 r.byte :: (Acccs r.first ++ Acccs r.second)
def racesCs (l : List Mo.Race) : List Value := (l.map Racecs).flatten
theorem Racecs_one (r : Mo.Race) : ∀ v ∈ (Racecs r), v.oneCell' = true := by simp [Racecs, Acccs, Value.oneCell']
theorem racesCs_snoc (l : List Mo.Race) (r : Mo.Race) : racesCs (l ++ [r]) = racesCs l ++ Racecs r := by simp [racesCs]
theorem racesCs_one (l : List Mo.Race) : ∀ v ∈ racesCs l, v.oneCell' = true := by
  intro v hv
  obtain ⟨x, hx, hv⟩ := List.mem_flatten.1 hv
  obtain ⟨r, _, rfl⟩ := List.mem_map.1 hx
  exact Racecs_one r v hv
theorem build47 (b : Int) (x y : Acc) (wq : World) : (Instr.build 47 [(0, (Value.int .u32 b)), (1, (Value.agg (Acccs x).toArray)), (2, (Value.agg (Acccs y).toArray))].toArray).run P wq = .ok (.agg (Racecs ⟨b, x, y⟩).toArray) wq := by
  obtain ⟨x1, x2, x3, x4, x5⟩ := x
  obtain ⟨y1, y2, y3, y4, y5⟩ := y
  kernel_rfl
theorem build45 (a b c : Int) (d e : Bool) (wq : World) : (Instr.build 45 [(0, (Value.int .i64 a)), (1, (Value.int .i64 b)), (2, (Value.int .u32 c)), (3, (Value.bool d)), (4, (Value.bool e))].toArray).run P wq = .ok (.agg (Acccs ⟨a, b, c, d, e⟩).toArray) wq := by kernel_rfl
theorem info47 : P.info? 47 = some Try.t47 := by kernel_rfl
end Go.Fx.Try
namespace Go.Fx.Try
open Go Go.Fx Go.Fx.Mo
open Go.Proofs
variable {w0 w : World} {H : List (Nat × Obj)} {K : Value → World → Prop}
set_option maxRecDepth 20000
/-- What stands still while bytes are gone through. -/
structure GF (G : List (Nat × Obj)) (D : DB) (n2 n72 n42 pb : Nat) (a : Mo.Acc) (e : Ev) (p : Pl) : Prop where
  g2 : (n2, Cs [ptr D.db] 76) ∈ G
  g72 : (n72, Cs (Acccs a) 45) ∈ G
  g42 : (n42, Cs [ptr pb] 127) ∈ G
  gdb : (D.db, Cs (thCs D.d.th D.tob D.tnb ++ restCs D) 126) ∈ G
  gpl : ∃ ov ob nb t, (pb, Cs (planCs D.db e ov ob nb p) t) ∈ G
  own : p.own.length = 8
theorem det_rest {D : DB} (hT : ThOk D.d.th) (i : Nat) : (thCs D.d.th D.tob D.tnb ++ restCs D)[90 + i]? = (restCs D)[i]? := by
  rw [List.getElem?_append_right (by rw [thCs_len hT]; omega), thCs_len hT]
  congr 1; omega
abbrev scanH (l l' n6 n8 n92 n90 : Nat) (o : Obj) (v6 : Value) (x8 fresh : Int) (ov : Value) (Lo G : List (Nat × Obj)) : List (Nat × Obj) :=
  (l, o) :: (l', .deferred (some [])) :: (n6, Cs [v6] 25) :: (n8, Cs [I64 x8] 28) :: (n92, Cs [I64 fresh] 3) :: (n90, Cs [ov] 25) :: (Lo ++ G)
theorem scanH_mem {l l' n6 n8 n92 n90 : Nat} {o : Obj} {v6 : Value} {x8 fresh : Int} {ov : Value} {Lo G : List (Nat × Obj)} {y : Nat × Obj} (h : y ∈ G) : y ∈ scanH l l' n6 n8 n92 n90 o v6 x8 fresh ov Lo G :=
  .tail _ (.tail _ (.tail _ (.tail _ (.tail _ (.tail _ (List.mem_append_right _ h))))))
theorem z25 : zcells P 25 = #[.slice none 0 0] := by kernel_rfl
theorem z28 : zcells P 28 = #[I64 0] := by kernel_rfl
theorem z3 : zcells P 3 = #[I64 0] := by kernel_rfl
theorem len123 {es : Array MapEntry} {clk : Nat} {cs : List CB} (hm : MapIs encU es clk (cellM cs)) {wq : World} {m : Nat} (hx : Ext w wq) (hb : w.heap[m]? = some (.map es clk)) :
    (Builtin.len_ #[123] 3 [Value.map (some m)].toArray).run P wq = .ok (.int .i64 cs.length) wq := by
  have := hm.len (ext_get hx hb) mapType123 3
  rw [this]
  simp [cellM]
variable {D : DB} {G : List (Nat × Obj)} {n2 n72 n42 pb : Nat} {a : Mo.Acc} {e : Ev} {p : Pl}

theorem scan_s12 {l l' n6 n8 n92 n90 n153 : Nat} {fresh : Int} {ov : Value} {Lo : List (Nat × Obj)} {out : List Mo.Race} {Rr : LoopState → Option Code → Loop} {post : Option Code → World → Prop} (hG : GF G D n2 n72 n42 pb a e p)
    (hLo : SlO 11 47 ov out.length (racesCs out) Lo) (hLn : New w0 Lo) (hlen : out.length < 1000000) (b : Int) (x : Option Mo.Acc) {xs : List Value} (hxs : ∀ y, x = some y → xs = Acccs y)
    (h : St w0 w ((n153, Cs xs 45) :: scanH l l' n6 n8 n92 n90 (.loop (Rr .busy none)) (.slice none 0 0) 0 fresh ov Lo G)) (hn153 : w0.heap.size ≤ n153)
    (hpost : ∀ w' ov' Lo', SlO 11 47 ov' (out ++ (x.map fun y => Mo.Race.mk b y a).toList).length (racesCs (out ++ (x.map fun y => Mo.Race.mk b y a).toList)) Lo' → New w0 Lo' →
      St w0 w' (scanH l l' n6 n8 n92 n90 (.loop (Rr .ready none)) (.slice none 0 0) 0 fresh ov' Lo' G) → post none w') :
    f40_s12 (Addr.mk n90 0 none) (Addr.mk n72 0 none) (Addr.mk n153 0 none) b x.isSome w l Rr post := by
  rw [f40_s12_eq]
  cases x with
  | none =>
    rw [Option.isSome_none, BIf_false]
    refine ⟨h.get (k := 1) rfl, ?_⟩
    have := (h.put (k := 1) rfl (.loop (Rr .ready none))).tail hn153
    exact hpost _ ov Lo (by simpa using hLo) hLn this
  | some y =>
    rw [Option.isSome_some, BIf_true]
    have hxs := hxs y rfl
    subst hxs
    obtain ⟨sa, sc, hov⟩ := hLo.form
    refine ⟨sa, out.length, sc, by rw [h.cell (k := 6) rfl, ← hov]; rfl, ?_⟩
    refine h.ldA (k := 0) (i := 0) rfl (by simp [Acccs_len]) (LdA_of (h.has n72 _ (.tail _ (scanH_mem hG.g72))) (by simp [Acccs_len]) ?_)
    refine ⟨_, build47 b y a, ⟨rfl, trivial⟩, ?_⟩
    refine h.newC fun n168 w166 hn168 h166 => ?_
    obtain ⟨g, cap, w', L', hr, hS, hs', hN⟩ := St.append (P := P) 25 25 47 Try.t47 (.agg #[.int .u32 0, I64 0, I64 0, .int .u32 0, .bool false, .bool false, I64 0, I64 0, .int .u32 0, .bool false, .bool false]) 11 56 Try.underlying25 info47 rfl rfl rfl rfl (by omega)
      (A := [(n168, Cs (Racecs ⟨b, y, a⟩) 47), (n153, Cs (Acccs y) 45), (l, .loop (Rr .busy none)), (l', .deferred (some [])), (n6, Cs [.slice none 0 0] 25), (n8, Cs [I64 0] 28), (n92, Cs [I64 fresh] 3), (n90, Cs [ov] 25)]) (L := Lo) (H := G) (by exact h166) hLo hLn (j := 0) rfl rfl (Racecs_one _) (by simp [maxLen]; omega) (by omega)
    rw [hov] at hr
    refine ⟨_, _, _, w', hr, ?_⟩
    have hs' : St w0 w' ((n168, Cs (Racecs ⟨b, y, a⟩) 47) :: (n153, Cs (Acccs y) 45) :: scanH l l' n6 n8 n92 n90 (.loop (Rr .busy none)) (.slice none 0 0) 0 fresh ov L' G) := hs'
    refine hs'.st1 (k := 7) rfl (by simp) rfl fun w171 h171 => ?_
    refine ⟨h171.get (k := 2) rfl, ?_⟩
    have := ((h171.put (k := 2) rfl (.loop (Rr .ready none))).tail hn168).tail hn153
    refine hpost _ (.slice (some ⟨g, 0, none⟩) (out.length + 1) cap) L' ?_ hN this
    have e : out ++ (Option.map (fun y => Mo.Race.mk b y a) (some y)).toList = out ++ [⟨b, y, a⟩] := rfl
    rw [e, racesCs_snoc, List.length_append]
    exact hS

theorem scan_round {l l' n6 n8 n92 n90 n4 : Nat} {fresh : Int} {ov : Value} {Lo : List (Nat × Obj)} {out : List Mo.Race} {Rr : LoopState → Option Code → Loop} {post : Option Code → World → Prop} (hG : GF G D n2 n72 n42 pb a e p) (hD : DBok w0 D)
    (hcb : (D.cb, .map D.es5 D.c5) ∈ G) (hlb : (D.lb, .map D.es6 D.c6) ∈ G) (hcs : ∀ x ∈ D.cs, ∀ y ∈ cbH x, y ∈ G) (x107 : Int)
    (hLo : SlO 11 47 ov out.length (racesCs out) Lo) (hLn : New w0 Lo) (hlen : out.length < 1000000) (b : Int)
    (h : St w0 w (scanH l l' n6 n8 n92 n90 (.loop (Rr .ready none)) (.slice none 0 0) 0 fresh ov Lo G))
    (hnext : ∀ w' out' fresh' ov' Lo', (∀ r, scan D.d a p.own (b :: r) out fresh = scan D.d a p.own r out' fresh') → out'.length ≤ out.length + 1 → SlO 11 47 ov' out'.length (racesCs out') Lo' → New w0 Lo' →
      St w0 w' (scanH l l' n6 n8 n92 n90 (.loop (Rr .ready none)) (.slice none 0 0) 0 fresh' ov' Lo' G) → post none w')
    (hexit : ∀ w' fresh', (∀ r, scan D.d a p.own (b :: r) out fresh = none) → St w0 w' (scanH l l' n6 n8 n92 n90 (.loop (Rr .done (some .ret))) (.slice none 0 0) 2 fresh' ov Lo G) → post (some .ret) w') :
    f40_ra7 (Addr.mk n8 0 none) (Addr.mk n6 0 none) (Addr.mk n92 0 none) (Addr.mk n2 0 none) (Addr.mk n90 0 none) (Addr.mk n72 0 none) (Addr.mk n42 0 none) (Addr.mk n4 0 none) x107 b w l Rr post := by
  rw [f40_ra7_eq]
  refine ⟨h.get (k := 0) rfl, ?_⟩
  have h1 : St w0 (w.putObj l (.loop (Rr .busy none))) (scanH l l' n6 n8 n92 n90 (.loop (Rr .busy none)) (.slice none 0 0) 0 fresh ov Lo G) := h.put (k := 0) rfl _
  generalize w.putObj l (.loop (Rr .busy none)) = w1 at h1
  have c2 : ∀ {w' : World} {o x8 fr v lo}, St w0 w' (scanH l l' n6 n8 n92 n90 o (.slice none 0 0) x8 fr v lo G) → w'.cell? (Addr.mk n2 0 none) = some (ptr D.db) := fun h' => by rw [cell_of (h'.has n2 _ (scanH_mem hG.g2))]; rfl
  have cdb : ∀ {w' : World} {o x8 fr v lo} (i : Nat), St w0 w' (scanH l l' n6 n8 n92 n90 o (.slice none 0 0) x8 fr v lo G) → w'.cell? (Addr.mk D.db (90 + i) none) = (restCs D)[i]? := fun i h' => by rw [cell_of (h'.has D.db _ (scanH_mem hG.gdb)), det_rest hD.th]
  rw [f40_s8_eq]
  refine ⟨_, c2 h1, some D.cb, by rw [add_lit', Nat.zero_add, cdb 2 h1]; rfl, ?_⟩
  refine ⟨_, fun wq hx => lookup123 hD.m5 hx (h1.has _ _ (scanH_mem hcb)) b, ?_⟩
  have hlk : Mo.look D.d.cells b = (D.cs.find? fun x => x.byte == b).map (·.c) := by rw [hD.cells, lookD]
  cases hf : D.cs.find? fun x => x.byte == b with
  | none =>
    rw [hf] at hlk
    simp only [Option.map_none, Option.isNone_none, BIf_true] at hlk ⊢
    refine ⟨fresh, by rw [h1.cell (k := 4) rfl]; rfl, ?_⟩
    refine h1.st1 (k := 4) rfl (by simp) rfl fun w2 h2 => ?_
    have h2 : St w0 w2 (scanH l l' n6 n8 n92 n90 (.loop (Rr .busy none)) (.slice none 0 0) 0 (w64 (fresh + 1)) ov Lo G) := h2
    have h2d := h2.drew
    have hlc : D.d.cells.length = D.cs.length := by rw [hD.cells]; simp [cellD]
    refine ⟨_, c2 h2d, some D.cb, by rw [add_lit', Nat.zero_add, cdb 2 h2d]; rfl, D.cs.length, fun wq hx => len123 hD.m5 hx (h2d.has _ _ (scanH_mem hcb)), w64 (fresh + 1), by rw [h2d.cell (k := 4) rfl]; rfl, ?_⟩
    rw [BIf_iff]
    constructor
    · intro hgt
      have hgt : w64 (D.d.cells.length + w64 (fresh + 1)) > 20000 := by rw [hlc]; simpa [w64] using hgt
      refine h2d.st1 (k := 2) rfl (by simp) rfl fun w3 h3 => h3.st1 (k := 3) rfl (by simp) rfl fun w4 h4 => ?_
      refine ⟨h4.get (k := 0) rfl, ?_⟩
      refine hexit _ (w64 (fresh + 1)) (fun r => by simp only [scan, hlk, hgt, if_true]) ?_
      exact h4.put (k := 0) rfl _
    · intro hle
      have hle : ¬ w64 (D.d.cells.length + w64 (fresh + 1)) > 20000 := by rw [hlc]; simpa [w64] using hle
      rw [f40_s9_eq]
      refine ⟨h2d.get (k := 0) rfl, ?_⟩
      exact hnext _ out (w64 (fresh + 1)) ov Lo (fun r => by simp only [scan, hlk, hle, if_false]) (by omega) hLo hLn (h2d.put (k := 0) rfl _)
  | some x =>
    rw [hf] at hlk
    obtain ⟨hxb, pre, post', hsp⟩ := find_split hf
    have hxm : x ∈ D.cs := List.mem_of_find?_eq_some hf
    simp only [Option.map_some, Option.isNone_some, BIf_false] at hlk ⊢
    rw [f40_s10_eq]
    refine ⟨_, c2 h1, some D.lb, by rw [add_lit', Nat.zero_add, cdb 3 h1]; rfl, _, fun wq hx => lookup124 hD.m6 hx (h1.has _ _ (scanH_mem hlb)) b, ?_⟩
    rw [BIf_iff]
    constructor
    · intro ht
      refine ⟨h1.get (k := 0) rfl, ?_⟩
      exact hnext _ out fresh ov Lo (fun r => by simp only [scan, hlk, ht, if_true]) (by omega) hLo hLn (h1.put (k := 0) rfl _)
    · intro ht
      rw [f40_s11_eq]
      have hd := h1.drew
      obtain ⟨pov, pob, pnb, pt, hpl⟩ := hG.gpl
      obtain ⟨hxo, hxl⟩ := hD.each x hxm
      have hmany := hD.many
      have hscan : ∀ r, scan D.d a p.own (b :: r) out fresh = scan D.d a p.own r (out ++ ((x.c.race a p.own).map fun y => Mo.Race.mk b y a).toList) fresh := fun r => by
        rw [scan, hlk]
        simp only [ht, Bool.false_eq_true, if_false]
        cases x.c.race a p.own <;> simp
      have hfin : ∀ w' ov' Lo', SlO 11 47 ov' (out ++ ((x.c.race a p.own).map fun y => Mo.Race.mk b y a).toList).length (racesCs (out ++ ((x.c.race a p.own).map fun y => Mo.Race.mk b y a).toList)) Lo' → New w0 Lo' →
          St w0 w' (scanH l l' n6 n8 n92 n90 (.loop (Rr .ready none)) (.slice none 0 0) 0 fresh ov' Lo' G) → post none w' := fun w' ov' Lo' k1 k2 k3 =>
        hnext w' _ fresh ov' Lo' hscan (by cases x.c.race a p.own <;> simp) k1 k2 k3
      have hrace : ∀ {w' : World} {X : List (Nat × Obj)} {K' : Value → World → Prop}, St w0 w' (X ++ scanH l l' n6 n8 n92 n90 (.loop (Rr .busy none)) (.slice none 0 0) 0 fresh ov Lo G) → (∀ w'', St w0 w'' (X ++ scanH l l' n6 n8 n92 n90 (.loop (Rr .busy none)) (.slice none 0 0) 0 fresh ov Lo G) → K' (raceV (x.c.race a p.own)) w'') →
          CallL P 66 [.pointer (some (Addr.mk x.addr 0 none)), .agg (Acccs a).toArray, .agg (p.own.map I64).toArray] w' K' := fun h' hk =>
        race_ok h' (c := x.c) (ov := x.ov) (rest := x.c.last.map I64) (t := 142) (L := x.L) (List.mem_append_right _ (scanH_mem (hcs x hxm _ (by simp [cbH, cellCs])))) hxo.sl (fun y hy => List.mem_append_right _ (scanH_mem (hcs x hxm y (by simp [cbH, hy])))) hxo.th hG.own (by omega) a hk
      refine LdA_of (hd.has n72 _ (scanH_mem hG.g72)) (by simp [Acccs_len]) ?_
      refine ⟨some (Addr.mk pb 0 none), by rw [cell_of (hd.has n42 _ (scanH_mem hG.g42))]; rfl, ?_⟩
      have hown : ((planCs D.db e pov pob pnb p).drop 8).take 8 = p.own.map I64 := by
        obtain ⟨a, b, c, d, f, g, h, j, hl⟩ := own8 hG.own
        simp only [planCs, Evcs, hl]
        rfl
      show LdA 8 ((Addr.mk pb 0 none).add 8) _ _
      rw [add_lit', Nat.zero_add]
      refine LdA_of (hd.has pb _ (scanH_mem hpl)) (by rw [planCs_len hG.own]; omega) ?_
      rw [hown]
      have tail12 : ∀ w' n153 (cs151 : List Value), w0.heap.size ≤ n153 → St w0 w' ((n153, Cs cs151 45) :: scanH l l' n6 n8 n92 n90 (.loop (Rr .busy none)) (.slice none 0 0) 0 fresh ov Lo G) → (∀ y, x.c.race a p.own = some y → cs151 = Acccs y) →
          f40_s12 (Addr.mk n90 0 none) (Addr.mk n72 0 none) (Addr.mk n153 0 none) b (x.c.race a p.own).isSome w' l Rr post := fun w' n153 cs151 k1 k2 k3 =>
        scan_s12 hG hLo hLn hlen b (x.c.race a p.own) k3 k2 k1 hfin
      constructor
      · refine hrace (X := []) hd fun w2 h2 => ?_
        have h2 : St w0 w2 (scanH l l' n6 n8 n92 n90 (.loop (Rr .busy none)) (.slice none 0 0) 0 fresh ov Lo G) := h2
        rw [z45]
        cases hr : x.c.race a p.own with
        | none =>
          refine ⟨_, _, rfl, h2.newC fun n153 w3 hn153 h3 => h3.stA (k := 0) rfl rfl (by simp) (by simp [Value.oneCell']) fun w4 h4 => ?_⟩
          have := tail12 w4 n153 _ hn153 h4 (by simp [hr])
          rw [hr] at this
          exact this
        | some y =>
          refine ⟨_, _, rfl, h2.newC fun n153 w3 hn153 h3 => h3.stA (k := 0) rfl rfl (by simp) (Acccs_one y) fun w4 h4 => ?_⟩
          have := tail12 w4 n153 (Acccs y) hn153 h4 (by simp [hr])
          rw [hr] at this
          exact this
      · rw [z45]
        refine hd.newC fun n172 w2 hn172 h2 => ?_
        refine hrace (X := [_]) h2 fun w3 h3 => ?_
        cases hr : x.c.race a p.own with
        | none =>
          refine ⟨_, _, rfl, h3.stA (k := 0) rfl rfl (by simp) (by simp [Value.oneCell']) fun w4 h4 => ?_⟩
          have := tail12 w4 n172 _ hn172 h4 (by simp [hr])
          rw [hr] at this
          exact this
        | some y =>
          refine ⟨_, _, rfl, h3.stA (k := 0) rfl rfl (by simp) (Acccs_one y) fun w4 h4 => ?_⟩
          have := tail12 w4 n172 (Acccs y) hn172 h4 (by simp [hr])
          rw [hr] at this
          exact this
end Go.Fx.Try
namespace Go.Fx.Try
open Go Go.Fx Go.Fx.Mo
open Go.Proofs
variable {w0 w : World} {H : List (Nat × Obj)} {K : Value → World → Prop}
set_option maxRecDepth 20000
variable {D : DB} {G : List (Nat × Obj)} {n2 n72 n42 pb n4 : Nat} {a : Mo.Acc} {e : Ev} {p : Pl}
abbrev keepH (l l' : Nat) (o : Obj) (cb : Nat) (es5 : Array MapEntry) (c5 : Nat) (cs : List CB) (G : List (Nat × Obj)) : List (Nat × Obj) :=
  (l, o) :: (l', .deferred (some [])) :: (cb, .map es5 c5) :: (cellsH cs ++ G)
theorem keepH_mem {l l' cb : Nat} {o : Obj} {es5 : Array MapEntry} {c5 : Nat} {cs : List CB} {y : Nat × Obj} (h : y ∈ G) : y ∈ keepH l l' o cb es5 c5 cs G := .tail _ (.tail _ (.tail _ (List.mem_append_right _ h)))
theorem perm3 {a b c : Nat × Obj} {X Y Z G : List (Nat × Obj)} (h : X.Perm (Y ++ Z)) : (a :: b :: c :: (X ++ G)).Perm (Y ++ (a :: b :: c :: (Z ++ G))) := by
  refine (List.Perm.append_left [a, b, c] (h.append_right G)).trans ?_
  have e1 : [a, b, c] ++ (Y ++ Z ++ G) = ([a, b, c] ++ Y) ++ (Z ++ G) := by simp
  have e2 : Y ++ (a :: b :: c :: (Z ++ G)) = (Y ++ [a, b, c]) ++ (Z ++ G) := by simp
  rw [e1, e2]
  exact List.perm_append_comm.append_right _
theorem remember_len (c : Cell) (a : Mo.Acc) (tk rel : Int) : (c.remember a tk rel).l.length ≤ c.l.length + 1 := by
  unfold Cell.remember
  simp only
  split <;> simp
theorem z142 (wq : World) : (Instr.build 142 [].toArray).run P wq = .ok (.agg (cellCs ⟨0, 0, .slice none 0 0, cell0, []⟩).toArray) wq := by kernel_rfl
theorem s17_eq (a1 a2 a3 a4 a5 : Addr) (x : Int) (w : World) (l : Nat) (R : LoopState → Option Code → Loop) (post : Option Code → World → Prop) : f40_s17 a1 a2 a3 a4 a5 x w l R post = f40_s18 a1 a2 a3 a4 (some a5) x w l R post := by
  rw [f40_s17_eq, f40_s18_eq]
theorem det_rels {D : DB} (hT : ThOk D.d.th) {i : Nat} (hi : i < 8) : (thCs D.d.th D.tob D.tnb ++ restCs D)[80 + i]? = some (I64 (D.d.th.rels.getD i 0)) := thCs_rels hT hi
theorem keep_s18 {l l' : Nat} {es5 : Array MapEntry} {c5 : Nat} {pre post' : List CB} {x : CB} {Rr : LoopState → Option Code → Loop} {post : Option Code → World → Prop} (hG : GF G D n2 n72 n42 pb a e p) (hT : ThOk D.d.th) (hm6 : MapIs encU D.es6 D.c6 (encM Value.bool D.d.told))
    (hlb : (D.lb, .map D.es6 D.c6) ∈ G) (h4 : (n4, Cs (Evcs e) 35) ∈ G) (ht : 0 ≤ e.th ∧ e.th < 8) (ha : a.th = e.th)
    (h : St w0 w (keepH l l' (.loop (Rr .busy none)) D.cb es5 c5 (pre ++ x :: post') G)) (hx : CBok w0 x) (hlen : x.c.l.length < 1900000000)
    (hpost : ∀ w' y, y.byte = x.byte → y.addr = x.addr → y.c = (if (Mo.look D.d.told x.byte).getD false then x.c else x.c.remember a p.tk (at0 D.d.th.rels e.th)) → CBok w0 y →
      St w0 w' (keepH l l' (.loop (Rr .ready none)) D.cb es5 c5 (pre ++ y :: post') G) → post none w') :
    f40_s18 (Addr.mk n4 0 none) (Addr.mk n2 0 none) (Addr.mk n42 0 none) (Addr.mk n72 0 none) (some (Addr.mk x.addr 0 none)) x.byte w l Rr post := by
  have c2 : ∀ {w' : World}, St w0 w' (keepH l l' (.loop (Rr .busy none)) D.cb es5 c5 (pre ++ x :: post') G) → w'.cell? (Addr.mk n2 0 none) = some (ptr D.db) := fun h' => by rw [cell_of (h'.has n2 _ (keepH_mem hG.g2))]; rfl
  rw [f40_s18_eq]
  refine ⟨_, c2 h, some D.lb, ?_, _, fun wq hx => lookup124 hm6 hx (h.has _ _ (keepH_mem hlb)) x.byte, ?_⟩
  · rw [add_lit', Nat.zero_add, cell_of (h.has D.db _ (keepH_mem hG.gdb)), show (93 : Nat) = 90 + 3 from rfl, det_rest hT]; rfl
  rw [BIf_iff]
  constructor
  · intro htold
    have htold : (Mo.look D.d.told x.byte).getD false = false := by simpa using htold
    have hd := h.drew
    obtain ⟨pov, pob, pnb, pt, hpl⟩ := hG.gpl
    obtain ⟨t, hte, ht8⟩ : ∃ t : Nat, e.th = t ∧ t < 8 := ⟨e.th.toNat, by omega, by omega⟩
    refine LdA_of (hd.has n72 _ (keepH_mem hG.g72)) (by simp [Acccs_len]) ?_
    refine ⟨some (Addr.mk pb 0 none), by rw [cell_of (hd.has n42 _ (keepH_mem hG.g42))]; rfl, p.tk, ?_, _, c2 hd, e.th, ?_, ht.1, by have := ht.2; simpa using this, D.d.th.rels.getD t 0, ?_, ?_⟩
    · rw [add_lit', Nat.zero_add, cell_of (hd.has pb _ (keepH_mem hpl))]; exact planCs_rest hG.own 0
    · rw [add_lit', Nat.zero_add, cell_of (hd.has n4 _ (keepH_mem h4))]; rfl
    · rw [hte, add_lit', add_lit', Int.toNat_natCast, Nat.mul_one, Nat.zero_add, cell_of (hd.has D.db _ (keepH_mem hG.gdb))]; exact det_rels hT ht8
    refine remember_ok (H := (l, .loop (Rr .busy none)) :: (l', .deferred (some [])) :: (D.cb, .map es5 c5) :: (cellsH (pre ++ post') ++ G)) (hd.perm (perm3 (cellsH_split pre post' x))) hx (by rw [ha]; exact ht) (by omega) p.tk (D.d.th.rels.getD t 0) fun w' y hya hyb hyc hyo h' => ⟨rfl, ?_⟩
    have h'' : St w0 w' (keepH l l' (.loop (Rr .busy none)) D.cb es5 c5 (pre ++ y :: post') G) := h'.perm (perm3 (cellsH_split pre post' y)).symm
    refine ⟨h''.get (k := 0) rfl, hpost _ y hyb hya ?_ hyo (h''.put (k := 0) rfl _)⟩
    rw [htold, hyc, hte]
    simp [at0]
  · intro htold
    have htold : (Mo.look D.d.told x.byte).getD false = true := by simpa using htold
    refine ⟨h.get (k := 0) rfl, hpost _ x rfl rfl ?_ hx (h.put (k := 0) rfl _)⟩
    rw [htold]
    rfl
theorem put_self {pre post : List CB} {x : CB} (hn : ((pre ++ x :: post).map (·.byte)).Nodup) : put (cellD (pre ++ x :: post)) x.byte x.c = cellD (pre ++ x :: post) := put_split hn rfl
theorem keep_round {l l' : Nat} {es5 : Array MapEntry} {c5 : Nat} {cs : List CB} {N : Nat} {Rr : LoopState → Option Code → Loop} {post : Option Code → World → Prop} (hG : GF G D n2 n72 n42 pb a e p) (hT : ThOk D.d.th) (hm6 : MapIs encU D.es6 D.c6 (encM Value.bool D.d.told))
    (hlb : (D.lb, .map D.es6 D.c6) ∈ G) (h4 : (n4, Cs (Evcs e) 35) ∈ G) (ht : 0 ≤ e.th ∧ e.th < 8) (ha : a.th = e.th) (n6 n8 n90 : Nat)
    (hm5 : MapIs encU es5 c5 (cellM cs)) (each : ∀ x ∈ cs, CBok w0 x ∧ x.c.l.length ≤ N) (hN : N < 1900000000) (b : Int)
    (h : St w0 w (keepH l l' (.loop (Rr .ready none)) D.cb es5 c5 cs G))
    (hpost : ∀ w' es5' c5' cs', MapIs encU es5' c5' (cellM cs') → (∀ x ∈ cs', CBok w0 x ∧ x.c.l.length ≤ N + 1) → (∀ r, keep a p.tk (at0 D.d.th.rels e.th) D.d.told (b :: r) (cellD cs) = keep a p.tk (at0 D.d.th.rels e.th) D.d.told r (cellD cs')) →
      St w0 w' (keepH l l' (.loop (Rr .ready none)) D.cb es5' c5' cs' G) → post none w') :
    f40_ra15 (Addr.mk n4 0 none) (Addr.mk n2 0 none) (Addr.mk n42 0 none) (Addr.mk n72 0 none) (Addr.mk n6 0 none) (Addr.mk n8 0 none) (Addr.mk n90 0 none) b w l Rr post := by
  rw [f40_ra15_eq]
  refine ⟨h.get (k := 0) rfl, ?_⟩
  have h1 : St w0 (w.putObj l (.loop (Rr .busy none))) (keepH l l' (.loop (Rr .busy none)) D.cb es5 c5 cs G) := h.put (k := 0) rfl _
  generalize w.putObj l (.loop (Rr .busy none)) = w1 at h1
  have c2 : ∀ {w' : World} {X : List (Nat × Obj)}, St w0 w' (X ++ keepH l l' (.loop (Rr .busy none)) D.cb es5 c5 cs G) → w'.cell? (Addr.mk n2 0 none) = some (ptr D.db) := fun h' => by rw [cell_of (h'.has n2 _ (List.mem_append_right _ (keepH_mem hG.g2)))]; rfl
  have cdb : ∀ {w' : World} {X : List (Nat × Obj)}, St w0 w' (X ++ keepH l l' (.loop (Rr .busy none)) D.cb es5 c5 cs G) → w'.cell? (Addr.mk D.db 92 none) = some (.map (some D.cb)) := fun h' => by
    rw [cell_of (h'.has D.db _ (List.mem_append_right _ (keepH_mem hG.gdb))), show (92 : Nat) = 90 + 2 from rfl, det_rest hT]; rfl
  have hnd : (cs.map (·.byte)).Nodup := by have := hm5.nodup; rwa [cellM_keys] at this
  rw [f40_s16_eq]
  refine ⟨_, c2 (X := []) h1, some D.cb, by rw [add_lit', Nat.zero_add]; exact cdb (X := []) h1, _, fun wq hx => lookup123 hm5 hx (h1.get (k := 2) rfl) b, ?_⟩
  cases hf : cs.find? fun x => x.byte == b with
  | none =>
    have hlk : Mo.look (cellD cs) b = none := by rw [lookD, hf]; rfl
    simp only [Option.map_none, Option.isNone_none, BIf_true]
    refine ⟨_, z142, ?_⟩
    refine h1.newC fun n225 w2 hn h2 => ?_
    refine ⟨_, c2 (X := [_]) h2, some D.cb, by rw [add_lit', Nat.zero_add]; exact cdb (X := [_]) h2, ?_⟩
    obtain ⟨es', c', hr, hm'⟩ := hm5.update keyU mapType123 (w := w2) (b := D.cb) (h2.get (k := 3) rfl) b (ptr n225)
    refine ⟨_, hr, ?_⟩
    have h3 : St w0 (w2.putObj D.cb (.map es' c')) ((n225, Cs (cellCs ⟨0, 0, .slice none 0 0, cell0, []⟩) 142) :: keepH l l' (.loop (Rr .busy none)) D.cb es' c' cs G) := h2.put (k := 3) rfl _
    let nx : CB := ⟨b, n225, .slice none 0 0, cell0, []⟩
    have hnx : CBok w0 nx := ⟨SlO.nil 6 152, New.nil w0, by simp [nx, cell0], hn, by simp [nx, cell0]⟩
    have h4' : St w0 (w2.putObj D.cb (.map es' c')) (keepH l l' (.loop (Rr .busy none)) D.cb es' c' (cs ++ nx :: []) G) := by
      refine h3.perm (List.Perm.symm ((perm3 (cellsH_split cs [] nx)).trans ?_))
      rw [List.append_nil]
      exact List.Perm.refl _
    have hm5' : MapIs encU es' c' (cellM (cs ++ [nx])) := by
      have e : putM (cellM cs) b (ptr n225) = cellM (cs ++ [nx]) := by
        have hl : lookM (cellM cs) b = none := by rw [lookMc, hf]; rfl
        unfold putM
        rw [hl]
        simp [cellM, nx]
      rw [e] at hm'
      exact hm'
    rw [s17_eq]
    refine keep_s18 (x := nx) hG hT hm6 hlb h4 ht ha h4' hnx (by simp [nx, cell0]) fun w' y hyb hya hyc hyo h' => ?_
    have hyb : y.byte = b := hyb
    refine hpost w' es' c' (cs ++ [y]) ?_ ?_ ?_ h'
    · have e : cellM (cs ++ [y]) = cellM (cs ++ [nx]) := by simp [cellM, hyb, hya, nx]
      rw [e]; exact hm5'
    · intro z hz
      rcases List.mem_append.1 hz with hz | hz
      · exact ⟨(each z hz).1, by have := (each z hz).2; omega⟩
      · simp at hz; subst hz
        refine ⟨hyo, ?_⟩
        rw [hyc]
        split
        · simp [nx, cell0]
        · have := remember_len nx.c a p.tk (at0 D.d.th.rels e.th)
          simp [nx, cell0] at this ⊢; omega
    · intro r
      rw [keep_one, hlk]
      congr 1
      have hput : ∀ c, put (cellD cs) b c = cellD cs ++ [(b, c)] := fun c => by simp [put, hlk]
      simp only [hput, Option.getD_none]
      have : cellD (cs ++ [y]) = cellD cs ++ [(b, y.c)] := by simp [cellD, hyb]
      rw [this, hyc]
      show _ = cellD cs ++ [(b, if (Mo.look D.d.told b).getD false then cell0 else cell0.remember a p.tk (at0 D.d.th.rels e.th))]
      split <;> rfl
  | some x =>
    obtain ⟨hxb, pre, post', hsp⟩ := find_split hf
    have hxm : x ∈ cs := List.mem_of_find?_eq_some hf
    have hlk : Mo.look (cellD cs) b = some x.c := by rw [lookD, hf]; rfl
    simp only [Option.map_some, Option.isNone_some, BIf_false]
    subst hxb
    rw [hsp] at h1 hnd
    refine keep_s18 (x := x) hG hT hm6 hlb h4 ht ha h1 (each x hxm).1 (by have := (each x hxm).2; omega) fun w' y hyb hya hyc hyo h' => ?_
    refine hpost w' es5 c5 (pre ++ y :: post') ?_ ?_ ?_ h'
    · have e : cellM (pre ++ y :: post') = cellM cs := by rw [hsp]; simp [cellM, hyb, hya]
      rw [e]; exact hm5
    · intro z hz
      have hin : ∀ z, z ∈ pre ∨ z ∈ post' → CBok w0 z ∧ z.c.l.length ≤ N + 1 := fun z hz => by
        have hz' : z ∈ cs := by rw [hsp]; rcases hz with hz | hz <;> simp [hz]
        exact ⟨(each z hz').1, by have := (each z hz').2; omega⟩
      simp only [List.mem_append, List.mem_cons] at hz
      rcases hz with hz | rfl | hz
      · exact hin z (.inl hz)
      · refine ⟨hyo, ?_⟩
        have h1 := (each x hxm).2
        rw [hyc]
        split
        · omega
        · have := remember_len x.c a p.tk (at0 D.d.th.rels e.th)
          omega
      · exact hin z (.inr hz)
    · intro r
      rw [keep_one, hlk]
      congr 1
      have e := put_split (y := y) hnd hyb
      simp only [Option.getD_some]
      rw [← e, hsp]
      split
      · rename_i ht'
        rw [hyc, if_pos ht', put_self hnd]
      · rename_i ht'
        rw [hyc, if_neg ht']
end Go.Fx.Try
