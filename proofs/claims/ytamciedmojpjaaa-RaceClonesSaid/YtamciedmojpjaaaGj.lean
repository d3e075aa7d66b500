/- Feed, New, run, Races. -/
import Derived.Test.YtamciedmojpjaaaGi
import Derived.Test.YtamciedmojpjaaaGg
import Derived.Test.YtamciedmojpjaaaGc
import Derived.Test.YtamciedmojpjaaaGf
namespace Go.Fx.Try
open Go Go.Fx Go.Fx.Mo
open Go.Proofs
variable {w0 w : World} {H : List (Nat × Obj)} {K : Value → World → Prop}
set_option maxRecDepth 20000
variable {D : DB} {G : List (Nat × Obj)} {n2 n72 n42 pb n4 : Nat} {a : Mo.Acc} {e : Ev} {p : Pl}
abbrev tellH (lb : Nat) (es6 : Array MapEntry) (c6 : Nat) (cs : List CB) (G : List (Nat × Obj)) : List (Nat × Obj) := (lb, .map es6 c6) :: (cellsH cs ++ G)
theorem tellH_mem {lb : Nat} {es6 : Array MapEntry} {c6 : Nat} {cs : List CB} {y : Nat × Obj} (h : y ∈ G) : y ∈ tellH lb es6 c6 cs G := .tail _ (List.mem_append_right _ h)
theorem perm2 {a b : Nat × Obj} {X Y Z G : List (Nat × Obj)} (h : X.Perm (Y ++ Z)) : (a :: b :: (X ++ G)).Perm (Y ++ (a :: b :: (Z ++ G))) := by
  refine (List.Perm.append_left [a, b] (h.append_right G)).trans ?_
  have e1 : [a, b] ++ (Y ++ Z ++ G) = ([a, b] ++ Y) ++ (Z ++ G) := by simp
  have e2 : Y ++ (a :: b :: (Z ++ G)) = (Y ++ [a, b]) ++ (Z ++ G) := by simp
  rw [e1, e2]
  exact List.perm_append_comm.append_right _
theorem Racecs_len (r : Mo.Race) : (Racecs r).length = 11 := rfl
theorem z47 : zcells P 47 = #[.int .u32 0, I64 0, I64 0, .int .u32 0, .bool false, .bool false, I64 0, I64 0, .int .u32 0, .bool false, .bool false] := by kernel_rfl
def clear (x : CB) : CB := { x with ov := .slice none 0 0, c := { x.c with l := [] }, L := [] }
theorem clear_ok {x : CB} (h : CBok w0 x) : CBok w0 (clear x) := ⟨SlO.nil 6 152, New.nil w0, h.last, h.na, by simp [clear]⟩
theorem tell_step {es5 : Array MapEntry} {c5 : Nat} {es6 : Array MapEntry} {c6 i : Nat} {cs : List CB} {told : List (Int × Bool)} {out : List Mo.Race} {ov : Value} {sa : Option Addr} {sc : Nat} {Lo : List (Nat × Obj)} {d : List Deferred} {n6 n8 n90 : Nat} {Y : Env → World → Prop}
    (g2 : (n2, Cs [ptr D.db] 76) ∈ G) (gdb : (D.db, Cs (thCs D.d.th D.tob D.tnb ++ restCs D) 126) ∈ G) (hT : ThOk D.d.th) (gcb : (D.cb, .map es5 c5) ∈ G)
    (hLo : SlO 11 47 ov out.length (racesCs out) Lo) (hov : ov = .slice sa out.length sc) (hLG : ∀ y ∈ Lo, y ∈ G)
    (hm5 : MapIs encU es5 c5 (cellM cs)) (hm6 : MapIs encU es6 c6 (encM Value.bool told)) (h : St w0 w (tellH D.lb es6 c6 cs G)) (hi : i < out.length) (each : ∀ x ∈ cs, CBok w0 x)
    {x : CB} (hx : (cs.find? fun x => x.byte == out[i].byte) = some x)
    (hK : ∀ w' es6' c6' pre post', cs = pre ++ x :: post' → MapIs encU es6' c6' (encM Value.bool (put told out[i].byte true)) → St w0 w' (tellH D.lb es6' c6' (pre ++ clear x :: post') G) →
      Y (Env.mk 201 [(168, (Value.int .i64 (IntKind.wrap .i64 ((i : Int) + 1)))), (2, (ptr n2)), (166, (Value.slice sa out.length sc)), (4, (ptr n6)), (5, (ptr n8)), (13, (ptr n90)), (6, (ptr n42)), (167, (Value.int .i64 out.length))] d) w') :
    f40_s21 (Addr.mk n2 0 none) sa out.length sc (Addr.mk n6 0 none) (Addr.mk n8 0 none) (Addr.mk n90 0 none) (Addr.mk n42 0 none) out.length i d w K Y := by
  rw [f40_s21_eq]
  have hsl : ((racesCs out).drop (i * 11)).take 11 = Racecs out[i] := flat_slice (f := Racecs) (fun x _ => Racecs_len x) hi
  obtain ⟨g, cc, hg, hld⟩ := slO_ldA hLo (w := w) (i := i) (fun y hy => h.has _ _ (tellH_mem (hLG y hy))) hi
  rw [hov] at hg
  obtain ⟨hsa, -⟩ : sa = some ⟨g, 0, none⟩ ∧ sc = cc := by simpa using hg
  subst hsa
  refine ⟨by omega, by omega, hld _ ?_⟩
  rw [hsl, z47]
  refine h.newC fun n296 w2 hn h2 => h2.stA (k := 0) rfl rfl (by simp) (by simpa using Racecs_one out[i]) fun w3 h3 => ?_
  have h3 : St w0 w3 ((n296, Cs (Racecs out[i]) 47) :: tellH D.lb es6 c6 cs G) := h3
  have hd := h3.drew
  have c2 : ∀ {w' : World} {X : List (Nat × Obj)} {es6 c6}, St w0 w' (X ++ tellH D.lb es6 c6 cs G) → w'.cell? (Addr.mk n2 0 none) = some (ptr D.db) := fun h' => by rw [cell_of (h'.has n2 _ (List.mem_append_right _ (tellH_mem g2)))]; rfl
  have cdb : ∀ {w' : World} {X : List (Nat × Obj)} {es6 c6} (j : Nat), St w0 w' (X ++ tellH D.lb es6 c6 cs G) → w'.cell? (Addr.mk D.db (90 + j) none) = (restCs D)[j]? := fun j h' => by
    rw [cell_of (h'.has D.db _ (List.mem_append_right _ (tellH_mem gdb))), det_rest hT]
  refine ⟨_, c2 (X := [_]) hd, some D.lb, by rw [add_lit', Nat.zero_add]; exact cdb (X := [_]) 3 hd, out[i].byte, by rw [hd.cell (k := 0) rfl]; rfl, ?_⟩
  obtain ⟨es', c', hr, hm'⟩ := hm6.update keyU mapType124 (w := w3.drew) (b := D.lb) (hd.get (k := 1) rfl) out[i].byte (.bool true)
  rw [putM_map] at hm'
  refine ⟨_, hr, ?_⟩
  have h4 : St w0 (w3.drew.putObj D.lb (.map es' c')) ((n296, Cs (Racecs out[i]) 47) :: tellH D.lb es' c' cs G) := hd.put (k := 1) rfl _
  generalize w3.drew.putObj D.lb (.map es' c') = w4 at h4
  rw [f40_s22_eq]
  have hd4 := h4.drew
  refine ⟨_, c2 (X := [_]) hd4, some D.cb, by rw [add_lit', Nat.zero_add]; exact cdb (X := [_]) 2 hd4, out[i].byte, by rw [hd4.cell (k := 0) rfl]; rfl, _, fun wq hx => lookup123 hm5 hx (hd4.has _ _ (.tail _ (tellH_mem gcb))) out[i].byte, ?_⟩
  rw [hx]
  obtain ⟨hxb, pre, post', hsp⟩ := find_split hx
  have hxo := each x (List.mem_of_find?_eq_some hx)
  have h5 : St w0 w4.drew (cbH x ++ ((n296, Cs (Racecs out[i]) 47) :: (D.lb, .map es' c') :: (cellsH (pre ++ post') ++ G))) := by
    rw [hsp] at hd4
    exact hd4.perm (perm2 (cellsH_split pre post' x))
  show St1 (Addr.mk x.addr 0 none) _ _ _
  refine h5.st1 (k := 0) (cs := cellCs x) rfl (by simp [cellCs]) rfl fun w6 h6 => ?_
  rw [f40_s23_eq]
  refine hK w6 es' c' pre post' hsp hm' ?_
  -- the old row is let go
  have h6 : St w0 w6 ((x.addr, Cs ((cellCs x).set 0 (.slice none 0 0)) 142) :: (x.L ++ ((n296, Cs (Racecs out[i]) 47) :: (D.lb, .map es' c') :: (cellsH (pre ++ post') ++ G)))) := h6
  have h7 : St w0 w6 (x.L ++ ((x.addr, Cs ((cellCs x).set 0 (.slice none 0 0)) 142) :: (n296, Cs (Racecs out[i]) 47) :: (D.lb, .map es' c') :: (cellsH (pre ++ post') ++ G))) := h6.perm List.perm_middle.symm
  have h8 := h7.sub hxo.new
  have h9 : St w0 w6 ((n296, Cs (Racecs out[i]) 47) :: tellH D.lb es' c' (pre ++ clear x :: post') G) := by
    refine h8.perm (List.Perm.symm ((perm2 (cellsH_split pre post' (clear x))).trans ?_))
    exact List.Perm.refl _
  exact h9.tail hn
theorem tell_loop {es5 : Array MapEntry} {c5 : Nat} {es6 : Array MapEntry} {c6 : Nat} {cs : List CB} {told : List (Int × Bool)} {out : List Mo.Race} {ov : Value} {sa : Option Addr} {sc : Nat} {Lo : List (Nat × Obj)} {d : List Deferred} {n6 n8 n90 : Nat} {N : Nat}
    (g2 : (n2, Cs [ptr D.db] 76) ∈ G) (gdb : (D.db, Cs (thCs D.d.th D.tob D.tnb ++ restCs D) 126) ∈ G) (hT : ThOk D.d.th) (gcb : (D.cb, .map es5 c5) ∈ G)
    (hLo : SlO 11 47 ov out.length (racesCs out) Lo) (hov : ov = .slice sa out.length sc) (hLG : ∀ y ∈ Lo, y ∈ G) (hlen : out.length < 1000000)
    (hm5 : MapIs encU es5 c5 (cellM cs)) (hm6 : MapIs encU es6 c6 (encM Value.bool told)) (h : St w0 w (tellH D.lb es6 c6 cs G)) (each : ∀ x ∈ cs, CBok w0 x ∧ x.c.l.length ≤ N)
    (hx : ∀ r ∈ out, (cs.find? fun x => x.byte == r.byte).isSome = true)
    (hK : ∀ w' es6' c6' cs' told', tell out (cellD cs) told = (cellD cs', told') → MapIs encU es5 c5 (cellM cs') → MapIs encU es6' c6' (encM Value.bool told') → (∀ x ∈ cs', CBok w0 x ∧ x.c.l.length ≤ N) → St w0 w' (tellH D.lb es6' c6' cs' G) →
      f40_s24 (Addr.mk n6 0 none) (Addr.mk n8 0 none) (Addr.mk n90 0 none) (Addr.mk n2 0 none) (Addr.mk n42 0 none) d w' K) :
    LoopE (f40_lp20 K) (Env.mk 201 [(168, (Value.int .i64 0)), (2, (ptr n2)), (166, (Value.slice sa out.length sc)), (4, (ptr n6)), (5, (ptr n8)), (13, (ptr n90)), (6, (ptr n42)), (167, (Value.int .i64 out.length))] d) w := by
  refine ⟨fun m e w => ∃ (i : Nat) (es6' : Array MapEntry) (c6' : Nat) (cs' : List CB) (told' : List (Int × Bool)), i ≤ out.length ∧ m = out.length - i ∧
    e = Env.mk 201 [(168, (Value.int .i64 i)), (2, (ptr n2)), (166, (Value.slice sa out.length sc)), (4, (ptr n6)), (5, (ptr n8)), (13, (ptr n90)), (6, (ptr n42)), (167, (Value.int .i64 out.length))] d ∧
    tell out (cellD cs) told = tell (out.drop i) (cellD cs') told' ∧ MapIs encU es5 c5 (cellM cs') ∧ MapIs encU es6' c6' (encM Value.bool told') ∧ (∀ x ∈ cs', CBok w0 x ∧ x.c.l.length ≤ N) ∧ cs'.map (·.byte) = cs.map (·.byte) ∧ St w0 w (tellH D.lb es6' c6' cs' G),
    ⟨out.length, 0, es6, c6, cs, told, by omega, rfl, rfl, rfl, hm5, hm6, each, rfl, h⟩, ?_⟩
  rintro m e w ⟨i, es6', c6', cs', told', hi, rfl, rfl, htell, hm5', hm6', each', hkeys, hw⟩
  show f40_lb20 _ _ _ _ _ _ _ _ _ _ _ _ _ _
  rw [f40_lb20_eq, BIf_iff]
  constructor
  · intro hlt
    have hlt : i < out.length := by simpa using hlt
    have hfind : ∃ x, (cs'.find? fun x => x.byte == out[i].byte) = some x := by
      have h1 := hx out[i] (List.getElem_mem hlt)
      cases hf : cs'.find? fun x => x.byte == out[i].byte with
      | some x => exact ⟨x, rfl⟩
      | none =>
        obtain ⟨y, hy⟩ := Option.isSome_iff_exists.1 h1
        have hyb : out[i].byte ∈ cs.map (·.byte) := List.mem_map.2 ⟨y, List.mem_of_find?_eq_some hy, by simpa using List.find?_some hy⟩
        rw [← hkeys] at hyb
        obtain ⟨z, hz, hzb⟩ := List.mem_map.1 hyb
        have := List.find?_eq_none.1 hf z hz
        simp [hzb] at this
    obtain ⟨x, hxf⟩ := hfind
    refine tell_step (es5 := es5) (c5 := c5) g2 gdb hT gcb hLo hov hLG hm5' hm6' hw hlt (fun x hx => (each' x hx).1) hxf fun w' es6'' c6'' pre post' hsp hm6'' h' => ?_
    refine ⟨out.length - (i + 1), by omega, i + 1, es6'', c6'', pre ++ clear x :: post', put told' out[i].byte true, by omega, rfl, ?_, ?_, ?_, hm6'', ?_, ?_, h'⟩
    · rw [wrap_i64 (by omega) (by omega)]; rfl
    · obtain ⟨hxb, -, -, -⟩ := find_split hxf
      have hnd : ((pre ++ x :: post').map (·.byte)).Nodup := by have := hm5'.nodup; rwa [cellM_keys, hsp] at this
      rw [htell, List.drop_eq_getElem_cons hlt, tell, ← put_split (y := clear x) hnd rfl, hxb, ← hsp]
      have hl : Mo.look (cellD cs') out[i].byte = some x.c := by rw [lookD, hxf]; rfl
      rw [hl]
      rfl
    · have e : cellM (pre ++ clear x :: post') = cellM cs' := by rw [hsp]; simp [cellM, clear]
      rw [e]; exact hm5'
    · intro z hz
      have hin : ∀ z, z ∈ pre ∨ z ∈ post' → CBok w0 z ∧ z.c.l.length ≤ N := fun z hz => each' z (by rw [hsp]; rcases hz with hz | hz <;> simp [hz])
      simp only [List.mem_append, List.mem_cons] at hz
      rcases hz with hz | rfl | hz
      · exact hin z (.inl hz)
      · exact ⟨clear_ok (each' x (List.mem_of_find?_eq_some hxf)).1, by simp [clear]⟩
      · exact hin z (.inr hz)
    · rw [← hkeys, hsp]; simp [clear]
  · intro hge
    have : i = out.length := by simp at hge; omega
    subst this
    rw [List.drop_length] at htell
    exact hK w es6' c6' cs' told' htell hm5' hm6' each' hw
end Go.Fx.Try
namespace Go.Fx
open Go
theorem perm_by {l l' : List (Nat × Obj)} (h : ∀ c : Nat × Obj → Nat, (l.map c).sum = (l'.map c).sum) : l.Perm l' := by
  classical
  rw [List.perm_iff_count]
  intro a
  have e : ∀ l : List (Nat × Obj), l.count a = (l.map fun y => if y == a then 1 else 0).sum := by
    intro l
    induction l with
    | nil => rfl
    | cons x r ih => rw [List.count_cons, List.map_cons, List.sum_cons, ih]; omega
  rw [e, e]
  exact h _
namespace Try
open Go Go.Fx Go.Fx.Mo
open Go.Proofs
variable {w0 w : World} {H : List (Nat × Obj)} {K : Value → World → Prop}
set_option maxRecDepth 20000
variable {D : DB} {n2 n72 n42 pb n4 n6 n8 n90 : Nat} {e : Ev}
abbrev nilS : Value := .slice none 0 0
theorem leave_25 (v200 v199 v198 v197 v196 v195 v194 v193 : Value) (a4 a5 : Addr) (r : List (Nat × Value)) (d0 : List Deferred) (w : World) (K : Value → World → Prop) :
    LeaveS P rs40 (Env.mk 201 ((200, v200) :: (199, v199) :: (198, v198) :: (197, v197) :: (196, v196) :: (195, v195) :: (194, v194) :: (193, v193) :: (4, (Value.pointer (some a4))) :: (5, (Value.pointer (some a5))) :: r) d0) K [] w =
      (∃ (sa : Option Addr) (sl sc : Nat), w.cell? a4 = some (Value.slice sa sl sc) ∧ ∃ x : Int, w.cell? a5 = some (Value.int .i64 x) ∧ K (Value.tuple [(Value.slice sa sl sc), (Value.int .i64 x)].toArray) w) := by kernel_rfl
theorem leave_13 (v0 v1 v2 v3 v4 v5 v6 v7 v8 v9 : Value) (a4 a5 : Addr) (r : List (Nat × Value)) (d0 : List Deferred) (w : World) (K : Value → World → Prop) :
    LeaveS P rs40 (Env.mk 201 ((122, v0) :: (122, v1) :: (121, v2) :: (120, v3) :: (119, v4) :: (118, v5) :: (117, v6) :: (116, v7) :: (115, v8) :: (114, v9) :: (4, (Value.pointer (some a4))) :: (5, (Value.pointer (some a5))) :: r) d0) K [] w =
      (∃ (sa : Option Addr) (sl sc : Nat), w.cell? a4 = some (Value.slice sa sl sc) ∧ ∃ x : Int, w.cell? a5 = some (Value.int .i64 x) ∧ K (Value.tuple [(Value.slice sa sl sc), (Value.int .i64 x)].toArray) w) := by kernel_rfl
theorem leave_rr7 (a4 a5 : Addr) (r : List (Nat × Value)) (d0 : List Deferred) (w : World) (K : Value → World → Prop) :
    LeaveS P rs40 (Env.mk 201 ((5, (Value.pointer (some a5))) :: (4, (Value.pointer (some a4))) :: r) d0) K [] w =
      (∃ (sa : Option Addr) (sl sc : Nat), w.cell? a4 = some (Value.slice sa sl sc) ∧ ∃ x : Int, w.cell? a5 = some (Value.int .i64 x) ∧ K (Value.tuple [(Value.slice sa sl sc), (Value.int .i64 x)].toArray) w) := by kernel_rfl
/-- The plan's blocks, at a detector. -/
abbrev planB (D : DB) (e : Ev) (pb ob nb : Nat) : PB := ⟨pb, ob, nb, D.db, D.tob, D.tnb, 138, 126, e, D.d.th, restCs D, D.es3, D.c3, D.es4, D.c4⟩
theorem restCs_set {T : Th} (hT : ThOk T) {tob tnb : Nat} {D D' : DB} (x : Int) (h : restCs D' = [.bool true, I64 x, .map (some D.cb), .map (some D.lb)]) : (thCs T tob tnb ++ restCs D).set 91 (I64 x) = thCs T tob tnb ++ restCs D' := by
  have hl := thCs_len (ob := tob) (nb := tnb) hT
  rw [List.set_append_right _ _ (by omega), hl, h]
  rfl
/-- What is made of a detector. -/
def grown (D : DB) (T : Th) (es3 : Array MapEntry) (c3 : Nat) (es4 : Array MapEntry) (c4 : Nat) (es5 : Array MapEntry) (c5 : Nat) (es6 : Array MapEntry) (c6 : Nat) (cs : List CB) (told : List (Int × Bool)) : DB :=
  ⟨D.db, D.tob, D.tnb, D.cb, D.lb, es3, c3, es4, c4, es5, c5, es6, c6, { th := T, many := w64 (D.d.many + 1), cells := cellD cs, told }, cs⟩

theorem feed_s24 {q : Pl} {ob nb l1 l2 : Nat} {sa : Option Addr} {sl sc : Nat} {Z J : List (Nat × Obj)}
    (h : PS w0 w (planB D e pb ob nb) ((l2, .deferred (some [])) :: (l1, .deferred (some [])) :: (n6, Cs [nilS] 25) :: (n8, Cs [I64 0] 28) :: (n90, Cs [.slice sa sl sc] 25) :: (n2, Cs [ptr D.db] 76) :: (n42, Cs [ptr pb] 127) :: (J ++ Z)) q)
    (hB : PBok (planB D e pb ob nb)) (hf : q.fork < 8 ∧ q.ends < 8) (hnew : ∀ x ∈ [l2, l1, n6, n8, n90, n2, n42, pb, ob, nb], w0.heap.size ≤ x) (hJ : New w0 J)
    (hK : ∀ w' es3 c3 es4 c4, ThOk (perform D.d.th e q) → MapIs encO es3 c3 (encM encC (perform D.d.th e q).objs) → MapIs encO es4 c4 (encM encI (perform D.d.th e q).names) →
      St w0 w' ((D.db, Cs (thCs (perform D.d.th e q) D.tob D.tnb ++ [.bool true, I64 (w64 (D.d.many + 1)), .map (some D.cb), .map (some D.lb)]) 126) :: (D.tob, .map es3 c3) :: (D.tnb, .map es4 c4) :: Z) → K (.tuple [.slice sa sl sc, I64 0].toArray) w') :
    f40_s24 (Addr.mk n6 0 none) (Addr.mk n8 0 none) (Addr.mk n90 0 none) (Addr.mk n2 0 none) (Addr.mk n42 0 none) [mk l2, mk l1] w K := by
  rw [f40_s24_eq]
  have hd := h.drew
  refine ⟨some (Addr.mk D.db 0 none), by rw [cell_of (hd.get (k := 5) rfl)]; rfl, some (Addr.mk pb 0 none), by rw [cell_of (hd.get (k := 6) rfl)]; rfl, ?_⟩
  refine perform_ps (B := planB D e pb ob nb) hd hB hf.1 hf.2 fun w1 es3 c3 es4 c4 h1 hB1 => ⟨rfl, ?_⟩
  have hs := h1.forget (hnew pb (by simp)) (hnew ob (by simp)) (hnew nb (by simp))
  have hs : St w0 w1 ((D.db, Cs (thCs (perform D.d.th e q) D.tob D.tnb ++ restCs D) 126) :: (D.tob, .map es3 c3) :: (D.tnb, .map es4 c4) :: (l2, .deferred (some [])) :: (l1, .deferred (some [])) :: (n6, Cs [nilS] 25) :: (n8, Cs [I64 0] 28) :: (n90, Cs [.slice sa sl sc] 25) :: (n2, Cs [ptr D.db] 76) :: (n42, Cs [ptr pb] 127) :: (J ++ Z)) := hs
  have hT := hB1.th
  have hT : ThOk (perform D.d.th e q) := hT
  rw [f40_s25_eq]
  have hlen := thCs_len (ob := D.tob) (nb := D.tnb) hT
  refine ⟨some (Addr.mk D.db 0 none), by rw [hs.cell (k := 8) rfl]; rfl, D.d.many, ?_, ?_⟩
  · rw [add_lit', Nat.zero_add, hs.cell (k := 0) rfl, List.getElem?_append_right (by omega), hlen]; rfl
  show St1 ((Addr.mk D.db 0 none).add 91) _ _ _
  rw [add_lit', Nat.zero_add]
  refine hs.st1 (k := 0) rfl (by rw [List.length_append, hlen]; simp [restCs]) rfl fun w2 h2 => ?_
  rw [restCs_set (D := D) (D' := grown D (perform D.d.th e q) es3 c3 es4 c4 D.es5 D.c5 D.es6 D.c6 D.cs D.d.told) hT (IntKind.wrap .i64 (D.d.many + 1)) rfl] at h2
  refine ⟨sa, sl, sc, by rw [h2.cell (k := 7) rfl]; rfl, ?_⟩
  refine h2.st1 (k := 5) rfl (by simp) rfl fun w3 h3 => h3.st1 (k := 6) rfl (by simp) rfl fun w4 h4 => ?_
  refine ⟨h4.get (k := 3) rfl, ?_⟩
  have h5 := h4.put (k := 3) rfl (.deferred none)
  refine ⟨h5.get (k := 4) rfl, ?_⟩
  have h6 := h5.put (k := 4) rfl (.deferred none)
  rw [leave_25]
  refine ⟨sa, sl, sc, by rw [h6.cell (k := 5) rfl]; rfl, 0, by rw [h6.cell (k := 6) rfl]; rfl, ?_⟩
  refine hK _ es3 c3 es4 c4 hT hB1.m3 hB1.m4 ?_
  refine St.sub (L := (l2, .deferred none) :: (l1, .deferred none) :: (n6, Cs [.slice sa sl sc] 25) :: (n8, Cs [I64 0] 28) :: (n90, Cs [.slice sa sl sc] 25) :: (n2, Cs [ptr D.db] 76) :: (n42, Cs [ptr pb] 127) :: J) (h6.perm ?_) ?_
  · refine perm_by fun c => ?_
    simp only [List.map_append, List.map_cons, List.sum_append, List.sum_cons, List.set_cons_succ, List.set_cons_zero]
    have : restCs (grown D (perform D.d.th e q) es3 c3 es4 c4 D.es5 D.c5 D.es6 D.c6 D.cs D.d.told) = [.bool true, I64 (w64 (D.d.many + 1)), .map (some D.cb), .map (some D.lb)] := rfl
    rw [this]
    simp only [I64, Cs]
    omega
  · intro x hx
    simp only [List.mem_cons] at hx
    rcases hx with rfl | rfl | rfl | rfl | rfl | rfl | rfl | hx
    · exact hnew l2 (by simp)
    · exact hnew l1 (by simp)
    · exact hnew n6 (by simp)
    · exact hnew n8 (by simp)
    · exact hnew n90 (by simp)
    · exact hnew n2 (by simp)
    · exact hnew n42 (by simp)
    · exact hJ x hx
end Try
end Go.Fx
namespace Go.Fx.Try
open Go Go.Fx Go.Fx.Mo
open Go.Proofs
variable {w0 w : World} {H : List (Nat × Obj)} {K : Value → World → Prop}
set_option maxRecDepth 20000
variable {D : DB} {n2 n72 n42 pb ob nb n4 n6 n8 n90 l1 l2 : Nat} {e : Ev} {q : Pl} {a : Mo.Acc} {F R0 Lo J : List (Nat × Obj)} {out : List Mo.Race} {ov : Value}
abbrev dfr : Obj := .deferred (some [])
theorem run_len_25 {p : Option Addr} {l c : Nat} (wq : World) : (Builtin.len_ #[25] 3 [Value.slice p l c].toArray).run P wq = .ok (.int .i64 l) wq := run_len_slice p l c Try.underlying25 3
/-- A plan that came to stand, and the frame F that it leaves. -/
structure Fr (w0 : World) (D : DB) (e : Ev) (q : Pl) (pb ob nb : Nat) (F : List (Nat × Obj)) : Prop where
  plan : plan D.d.th e = some q
  pl : ∃ ov ob nb, (pb, Cs (planCs D.db e ov ob nb q) 138) ∈ F
  db : (D.db, Cs (thCs D.d.th D.tob D.tnb ++ restCs D) 126) ∈ F
  own : q.own.length = 8
  back : ∀ w' R', St w0 w' (R' ++ F) → PS w0 w' (planB D e pb ob nb) R' q
  npb : w0.heap.size ≤ pb
  nob : w0.heap.size ≤ ob
  nnb : w0.heap.size ≤ nb
theorem Fr.planB {w0 : World} (hF : Fr w0 D e q pb ob nb F) (hD : DBok w0 D) : PBok (planB D e pb ob nb) := ⟨hD.th, hD.m3, hD.m4, by obtain ⟨_, _, t1, t2, _⟩ := refused_kind (plan_refused hF.plan); exact ⟨t1, t2⟩⟩
def G3 (D : DB) (es5 : Array MapEntry) (c5 : Nat) (l1 l2 n6 n8 n90 n2 n42 pb : Nat) (ov : Value) (J Lo R0 F : List (Nat × Obj)) : List (Nat × Obj) :=
  (D.cb, .map es5 c5) :: (l2, dfr) :: (l1, dfr) :: (n6, Cs [nilS] 25) :: (n8, Cs [I64 0] 28) :: (n90, Cs [ov] 25) :: (n2, Cs [ptr D.db] 76) :: (n42, Cs [ptr pb] 127) :: (J ++ (Lo ++ (R0 ++ F)))
theorem feed_s19 {es5 : Array MapEntry} {c5 N : Nat} {cs : List CB} (hF : Fr w0 D e q pb ob nb F) (hD : DBok w0 D) (hnew : ∀ x ∈ [l2, l1, n6, n8, n90, n2, n42], w0.heap.size ≤ x) (hJ : New w0 J)
    (hLo : SlO 11 47 ov out.length (racesCs out) Lo) (hlen : out.length < 1000000) (hm5 : MapIs encU es5 c5 (cellM cs)) (each : ∀ x ∈ cs, CBok w0 x ∧ x.c.l.length ≤ N) (hN : (N : Int) ≤ 65536 * (D.d.many + 1)) (hmany : D.d.many < 20000)
    (hx : ∀ r ∈ out, (cs.find? fun x => x.byte == r.byte).isSome = true)
    (h : St w0 w (tellH D.lb D.es6 D.c6 cs (G3 D es5 c5 l1 l2 n6 n8 n90 n2 n42 pb ov J Lo R0 F)))
    (hK : ∀ w' D', D'.d = { th := perform D.d.th e q, many := w64 (D.d.many + 1), cells := (tell out (cellD cs) D.d.told).1, told := (tell out (cellD cs) D.d.told).2 } → DBok w0 D' → D'.db = D.db → St w0 w' (detH D' ++ (Lo ++ R0)) → K (.tuple [ov, I64 0].toArray) w') :
    f40_s19 (Addr.mk n2 0 none) (Addr.mk n6 0 none) (Addr.mk n8 0 none) (Addr.mk n90 0 none) (Addr.mk n42 0 none) [mk l2, mk l1] w K := by
  rw [f40_s19_eq]
  obtain ⟨sa, sc, hov⟩ := hLo.form
  have g90 : (n90, Cs [ov] 25) ∈ G3 D es5 c5 l1 l2 n6 n8 n90 n2 n42 pb ov J Lo R0 F := by simp [G3]
  refine ⟨sa, out.length, sc, by rw [cell_of (h.has n90 _ (tellH_mem g90)), hov]; rfl, out.length, fun wq _ => run_len_25 wq, ?_⟩
  have hmem : ∀ y, y ∈ Lo ∨ y ∈ F → y ∈ G3 D es5 c5 l1 l2 n6 n8 n90 n2 n42 pb ov J Lo R0 F := fun y hy => by rcases hy with hy | hy <;> simp [G3, hy]
  refine tell_loop (G := G3 D es5 c5 l1 l2 n6 n8 n90 n2 n42 pb ov J Lo R0 F) (by simp [G3]) (hmem _ (.inr hF.db)) hD.th (by simp [G3]) hLo hov (fun y hy => hmem y (.inl hy)) hlen hm5 hD.m6 h each hx
    fun w1 es6' c6' cs' told' htell hm5' hm6' each' h1 => ?_
  have hp : PS w0 w1 (planB D e pb ob nb) ((l2, dfr) :: (l1, dfr) :: (n6, Cs [nilS] 25) :: (n8, Cs [I64 0] 28) :: (n90, Cs [.slice sa out.length sc] 25) :: (n2, Cs [ptr D.db] 76) :: (n42, Cs [ptr pb] 127) ::
      (J ++ ((D.cb, .map es5 c5) :: (D.lb, .map es6' c6') :: (cellsH cs' ++ (Lo ++ R0))))) q := by
    refine hF.back w1 _ (h1.perm (perm_by fun c => ?_))
    simp only [tellH, G3, hov, List.map_append, List.map_cons, List.sum_append, List.sum_cons]
    omega
  refine feed_s24 (Z := (D.cb, .map es5 c5) :: (D.lb, .map es6' c6') :: (cellsH cs' ++ (Lo ++ R0))) hp (hF.planB hD) (plan_fork hF.plan) ?_ hJ fun w2 es3 c3 es4 c4 hT hm3 hm4 h2 => ?_
  · intro x hx
    simp only [List.mem_cons, List.not_mem_nil, or_false] at hx
    have hn : ∀ y, y ∈ [l2, l1, n6, n8, n90, n2, n42] → w0.heap.size ≤ y := hnew
    rcases hx with rfl | rfl | rfl | rfl | rfl | rfl | rfl | rfl | rfl | rfl
    · exact hn _ (by simp)
    · exact hn _ (by simp)
    · exact hn _ (by simp)
    · exact hn _ (by simp)
    · exact hn _ (by simp)
    · exact hn _ (by simp)
    · exact hn _ (by simp)
    · exact hF.npb
    · exact hF.nob
    · exact hF.nnb
  · rw [hov] at hK
    have hmw : w64 (D.d.many + 1) = D.d.many + 1 := w64_small (by have := hD.many; omega) (by omega)
    refine hK w2 (grown D (perform D.d.th e q) es3 c3 es4 c4 es5 c5 es6' c6' cs' told') ?_ ⟨hT, hm3, hm4, hm5', hm6', rfl, fun x hx => ⟨(each' x hx).1, ?_⟩, ?_, hD.new⟩ rfl h2
    · rw [htell]; rfl
    · show (x.c.l.length : Int) ≤ 65536 * w64 (D.d.many + 1)
      have := (each' x hx).2
      rw [hmw]; omega
    · show 0 ≤ w64 (D.d.many + 1) ∧ w64 (D.d.many + 1) ≤ 20000
      have := hD.many
      rw [hmw]; omega
theorem keep_look {a : Mo.Acc} {tk rel : Int} {ts : List (Int × Bool)} {x : Int} : ∀ (bs : List Int) (cs : List (Int × Cell)), Mo.look cs x ≠ none → Mo.look (keep a tk rel ts bs cs) x ≠ none
  | [], _, h => h
  | b :: r, cs, h => by
    rw [keep_one]
    refine keep_look r _ ?_
    have hput : ∀ c, Mo.look (put cs b c) x ≠ none := fun c => by
      rw [put_look]
      split
      · simp
      · exact h
    split
    · split
      · exact hput _
      · exact h
    · exact hput _
def G13 (D : DB) (l1 n6 n8 n90 n2 n42 pb n72 n4 : Nat) (a : Mo.Acc) (e : Ev) (ov : Value) (J Lo R0 F : List (Nat × Obj)) : List (Nat × Obj) :=
  (D.lb, .map D.es6 D.c6) :: (l1, dfr) :: (n6, Cs [nilS] 25) :: (n8, Cs [I64 0] 28) :: (n90, Cs [ov] 25) :: (n2, Cs [ptr D.db] 76) :: (n42, Cs [ptr pb] 127) :: (n72, Cs (Acccs a) 45) :: (n4, Cs (Evcs e) 35) :: (J ++ (Lo ++ (R0 ++ F)))
/-- The world's two new blocks for a range's bounds. -/
theorem bytes_st (h : St w0 w H) (a n : Int)
    (hK : ∀ b1 b2 w', w0.heap.size ≤ b1 → w0.heap.size ≤ b2 → St w0 w' ((b1, Cs [I64 n] 3) :: (b2, Cs [.int .u32 a] 33) :: H) → K (.func (.func 95) #[] #[.pointer (some (Addr.mk b1 0 none)), .pointer (some (Addr.mk b2 0 none))]) w') :
    CallL P 65 [.int .u32 a, .int .i64 n] w K := by
  refine f65_ok _ _ _ _ ?_
  rw [f65_eq]
  exact h.newC fun b2 w1 h2 h1' => h1'.newC fun b1 w2 h1 h2' => hK b1 b2 w2 h1 h2 h2'
theorem drop_bytes (a n : Int) {i : Nat} (hi : i < n.toNat) : (Mo.bytes a n).drop i = w32 (a + w32 (i : Int)) :: (Mo.bytes a n).drop (i + 1) := by
  have hl : i < (Mo.bytes a n).length := by rw [bytes_len]; exact hi
  rw [List.drop_eq_getElem_cons hl, bytes_get]
theorem perm_19 (D : DB) (es5 : Array MapEntry) (c5 : Nat) (l1 l2 n6 n8 n90 n2 n42 pb n72 n4 c1 c2 : Nat) (a : Mo.Acc) (e : Ev) (ov : Value) (J Lo R0 F : List (Nat × Obj)) (cs : List CB) (o1 o2 : Obj) :
    ((l2, dfr) :: (D.cb, .map es5 c5) :: (cellsH cs ++ ((c1, o1) :: (c2, o2) :: G13 D l1 n6 n8 n90 n2 n42 pb n72 n4 a e ov J Lo R0 F))).Perm
      (tellH D.lb D.es6 D.c6 cs (G3 D es5 c5 l1 l2 n6 n8 n90 n2 n42 pb ov ((c1, o1) :: (c2, o2) :: (n72, Cs (Acccs a) 45) :: (n4, Cs (Evcs e) 35) :: J) Lo R0 F)) := by
  refine perm_by fun c => ?_
  simp only [tellH, G3, G13, List.map_append, List.map_cons, List.sum_append, List.sum_cons, List.cons_append]
  omega
theorem feed_s14 (hF : Fr w0 D e q pb ob nb F) (hD : DBok w0 D) (hnew : ∀ x ∈ [l1, n6, n8, n90, n2, n42, n72, n4], w0.heap.size ≤ x) (hJ : New w0 J) (ha : a.th = e.th) {n : Int} (hn : n ≤ 65536)
    (hLo : SlO 11 47 ov out.length (racesCs out) Lo) (hlen : out.length < 1000000) (hmany : D.d.many < 20000) (hx : ∀ r ∈ out, Mo.look D.d.cells r.byte ≠ none)
    (h : St w0 w ((D.cb, .map D.es5 D.c5) :: (cellsH D.cs ++ G13 D l1 n6 n8 n90 n2 n42 pb n72 n4 a e ov J Lo R0 F)))
    (hK : ∀ w' D' cs, D'.d = { th := perform D.d.th e q, many := w64 (D.d.many + 1), cells := (tell out cs D.d.told).1, told := (tell out cs D.d.told).2 } → cs = keep a q.tk (at0 D.d.th.rels e.th) D.d.told (Mo.bytes e.a n) D.d.cells →
      DBok w0 D' → D'.db = D.db → St w0 w' (detH D' ++ (Lo ++ R0)) → K (.tuple [ov, I64 0].toArray) w') :
    f40_s14 (Addr.mk n4 0 none) (Addr.mk n2 0 none) (Addr.mk n42 0 none) (Addr.mk n72 0 none) (Addr.mk n6 0 none) (Addr.mk n8 0 none) (Addr.mk n90 0 none) n [mk l1] w K := by
  rw [f40_s14_eq]
  have ht : 0 ≤ e.th ∧ e.th < 8 := (hF.planB hD).lt
  refine ⟨e.a, ?_, ?_⟩
  · rw [add_lit', cell_of (h.has n4 (Cs (Evcs e) 35) (.tail _ (List.mem_append_right _ (by simp [G13]))))]; rfl
  refine bytes_st h e.a n fun c1 c2 w2 hc1 hc2 h2 => ⟨_, rfl, ?_⟩
  generalize hG : G13 D l1 n6 n8 n90 n2 n42 pb n72 n4 a e ov J Lo R0 F = G at h h2
  have gm : ∀ y, y ∈ G13 D l1 n6 n8 n90 n2 n42 pb n72 n4 a e ov J Lo R0 F → y ∈ G := fun y hy => hG ▸ hy
  have gF : ∀ y, y ∈ F → y ∈ G := fun y hy => gm y (by simp [G13, hy])
  let G' : List (Nat × Obj) := (c1, Cs [I64 n] 3) :: (c2, Cs [.int .u32 e.a] 33) :: G
  have h3 : St w0 w2 ((D.cb, .map D.es5 D.c5) :: (cellsH D.cs ++ G')) := by
    refine h2.perm (perm_by fun c => ?_)
    simp only [G', List.map_append, List.map_cons, List.sum_append, List.sum_cons]
    omega
  have hGF : GF G' D n2 n72 n42 pb a e q := by
    obtain ⟨o1, o2, o3, hpl⟩ := hF.pl
    exact ⟨.tail _ (.tail _ (gm _ (by simp [G13]))), .tail _ (.tail _ (gm _ (by simp [G13]))), .tail _ (.tail _ (gm _ (by simp [G13]))), .tail _ (.tail _ (gF _ hF.db)), ⟨o1, o2, o3, 138, .tail _ (.tail _ (gF _ hpl))⟩, hF.own⟩
  let N : Nat := 65536 * D.d.many.toNat
  have hmany0 := hD.many
  let I : Nat → List (Nat × Obj) → Prop := fun i H' => ∃ es5 c5 cs, MapIs encU es5 c5 (cellM cs) ∧ (∀ x ∈ cs, CBok w0 x ∧ x.c.l.length ≤ N + i) ∧
    keep a q.tk (at0 D.d.th.rels e.th) D.d.told (Mo.bytes e.a n) D.d.cells = keep a q.tk (at0 D.d.th.rels e.th) D.d.told ((Mo.bytes e.a n).drop i) (cellD cs) ∧ H' = (D.cb, .map es5 c5) :: (cellsH cs ++ G')
  refine range_bytes (b1 := c1) (b2 := c2) (n := n) (at_ := e.a) (t1 := 3) (t2 := 33) h3 (by simp [G']) (by omega) I (fun _ _ => False) ⟨D.es5, D.c5, D.cs, hD.m5, fun x hx => ⟨(hD.each x hx).1, by have := (hD.each x hx).2; show _ ≤ 65536 * D.d.many.toNat + 0; omega⟩, by rw [hD.cells]; rfl, rfl⟩ ?_ ?_ ?_ ?_
  · rintro i H' ⟨es5, c5, cs, _, _, _, rfl⟩
    simp [G']
  · rintro l l' Rr post i W H' hi ⟨es5, c5, cs, hm5, each, hkeep, rfl⟩ hs hl hl' hp _
    rw [f40_rd15_eq]
    refine ⟨rfl, ?_⟩
    have hN : N + i < 1900000000 := by show 65536 * D.d.many.toNat + i < _; omega
    refine keep_round (G := G') (N := N + i) hGF hD.th hD.m6 (.tail _ (.tail _ (gm _ (by simp [G13])))) (.tail _ (.tail _ (gm _ (by simp [G13])))) ht ha n6 n8 n90 hm5 each hN _ hs fun w' es5' c5' cs' hm5' each' hk' h' => ?_
    refine hp w' ((D.cb, .map es5' c5') :: (cellsH cs' ++ G')) ⟨es5', c5', cs', hm5', each', ?_, rfl⟩ h'
    rw [hkeep, drop_bytes _ _ (by omega)]
    exact hk' _
  · rintro W H' l' hl' ⟨es5, c5, cs, hm5, each, hkeep, rfl⟩ hs
    show f40_rn15 (Addr.mk n4 0 none) (Addr.mk n2 0 none) (Addr.mk n42 0 none) (Addr.mk n72 0 none) (Addr.mk n6 0 none) (Addr.mk n8 0 none) (Addr.mk n90 0 none) [mk l', mk l1] W K
    rw [f40_rn15_eq]
    have hdrop : (Mo.bytes e.a n).drop n.toNat = [] := List.drop_eq_nil_of_le (by rw [bytes_len]; exact Nat.le_refl _)
    rw [hdrop] at hkeep
    have hkeep : keep a q.tk (at0 D.d.th.rels e.th) D.d.told (Mo.bytes e.a n) D.d.cells = cellD cs := hkeep
    refine feed_s19 (R0 := R0) (J := (c1, Cs [I64 n] 3) :: (c2, Cs [.int .u32 e.a] 33) :: (n72, Cs (Acccs a) 45) :: (n4, Cs (Evcs e) 35) :: J) (N := N + n.toNat) (cs := cs) (es5 := es5) (c5 := c5) hF hD ?_ ?_ hLo hlen hm5 each ?_ hmany ?_ ?_ ?_
    · intro x hx
      simp only [List.mem_cons, List.not_mem_nil, or_false] at hx
      rcases hx with rfl | rfl | rfl | rfl | rfl | rfl | rfl
      · exact hl'
      all_goals exact hnew _ (by simp)
    · intro x hx
      simp only [List.mem_cons] at hx
      rcases hx with rfl | rfl | rfl | rfl | hx
      · exact hc1
      · exact hc2
      · exact hnew n72 (by simp)
      · exact hnew n4 (by simp)
      · exact hJ x hx
    · show ((65536 * D.d.many.toNat + n.toNat : Nat) : Int) ≤ _
      omega
    · intro r hr
      have h1 := keep_look (a := a) (tk := q.tk) (rel := at0 D.d.th.rels e.th) (ts := D.d.told) (Mo.bytes e.a n) _ (hx r hr)
      rw [hkeep, lookD] at h1
      cases hf : cs.find? fun x => x.byte == r.byte with
      | none => rw [hf] at h1; exact absurd rfl h1
      | some y => rfl
    · have hs' : St w0 W ((l', dfr) :: (D.cb, .map es5 c5) :: (cellsH cs ++ ((c1, Cs [I64 n] 3) :: (c2, Cs [.int .u32 e.a] 33) :: G))) := hs
      rw [← hG] at hs'
      exact hs'.perm (perm_19 D es5 c5 l1 l' n6 n8 n90 n2 n42 pb n72 n4 c1 c2 a e ov J Lo R0 F cs _ _)
    · intro w' D' h1 h2 h3 h4
      exact hK w' D' (cellD cs) h1 hkeep.symm h2 h3 h4
  · rintro c W H' l' _ hJ
    exact hJ.elim
end Go.Fx.Try
namespace Go.Fx.Try
open Go Go.Fx Go.Fx.Mo
open Go.Proofs
variable {w0 w : World} {H : List (Nat × Obj)} {K : Value → World → Prop}
set_option maxRecDepth 20000
variable {D : DB} {n2 n72 n42 pb ob nb n4 n6 n8 n90 n92 l1 l2 : Nat} {e : Ev} {q : Pl} {a : Mo.Acc} {F R0 Lo J : List (Nat × Obj)} {out : List Mo.Race} {ov : Value}
theorem feed_back (hF : Fr w0 D e q pb ob nb F) {X : List (Nat × Obj)} (h : St w0 w (X ++ ((D.cb, .map D.es5 D.c5) :: (D.lb, .map D.es6 D.c6) :: (cellsH D.cs ++ (R0 ++ F))))) (hX : New w0 X) : St w0 w (detH D ++ R0) := by
  have hp := hF.back w (X ++ ((D.cb, .map D.es5 D.c5) :: (D.lb, .map D.es6 D.c6) :: (cellsH D.cs ++ R0))) (h.perm (perm_by fun c => by
    simp only [List.map_append, List.map_cons, List.sum_append, List.sum_cons]; omega))
  have hs := hp.forget hF.npb hF.nob hF.nnb
  refine St.sub (L := X) (hs.perm (perm_by fun c => ?_)) hX
  simp only [detH, List.map_append, List.map_cons, List.sum_append, List.sum_cons]
  omega
def G6 (D : DB) (n72 n42 n4 n2 pb : Nat) (a : Mo.Acc) (e : Ev) (R0 F : List (Nat × Obj)) : List (Nat × Obj) :=
  (n72, Cs (Acccs a) 45) :: (n42, Cs [ptr pb] 127) :: (n4, Cs (Evcs e) 35) :: (n2, Cs [ptr D.db] 76) :: (D.cb, .map D.es5 D.c5) :: (D.lb, .map D.es6 D.c6) :: (cellsH D.cs ++ (R0 ++ F))
theorem perm_13 (D : DB) (n72 n42 n4 n2 pb l1 n6 n8 n92 n90 b1 b2 : Nat) (a : Mo.Acc) (e : Ev) (Lo R0 F : List (Nat × Obj)) (ov : Value) (o1 o2 o3 : Obj) :
    ((l1, dfr) :: (n6, Cs [nilS] 25) :: (n8, Cs [I64 0] 28) :: (n92, o1) :: (n90, Cs [ov] 25) :: (Lo ++ ((b1, o2) :: (b2, o3) :: G6 D n72 n42 n4 n2 pb a e R0 F))).Perm
      ((D.cb, .map D.es5 D.c5) :: (cellsH D.cs ++ G13 D l1 n6 n8 n90 n2 n42 pb n72 n4 a e ov [(n92, o1), (b1, o2), (b2, o3)] Lo R0 F)) := by
  refine perm_by fun c => ?_
  simp only [G6, G13, List.map_append, List.map_cons, List.map_nil, List.sum_append, List.sum_cons, List.sum_nil]
  omega
theorem perm_back (D : DB) (n72 n42 n4 n2 pb l1 n6 n8 n92 n90 b1 b2 : Nat) (a : Mo.Acc) (e : Ev) (Lo R0 F : List (Nat × Obj)) (o1 o2 o3 o4 o5 o6 o7 : Obj) :
    ((l1, o4) :: (n6, o5) :: (n8, o6) :: (n92, o1) :: (n90, o7) :: (Lo ++ ((b1, o2) :: (b2, o3) :: G6 D n72 n42 n4 n2 pb a e R0 F))).Perm
      (((l1, o4) :: (n6, o5) :: (n8, o6) :: (n92, o1) :: (n90, o7) :: (b1, o2) :: (b2, o3) :: (n72, Cs (Acccs a) 45) :: (n42, Cs [ptr pb] 127) :: (n4, Cs (Evcs e) 35) :: (n2, Cs [ptr D.db] 76) :: Lo) ++ ((D.cb, .map D.es5 D.c5) :: (D.lb, .map D.es6 D.c6) :: (cellsH D.cs ++ (R0 ++ F)))) := by
  refine perm_by fun c => ?_
  simp only [G6, List.map_append, List.map_cons, List.sum_append, List.sum_cons, List.cons_append]
  omega
theorem new_list {w0 : World} {ns : List (Nat × Obj)} {Lo : List (Nat × Obj)} (h : ∀ x ∈ ns.map (·.1), w0.heap.size ≤ x) (hLo : New w0 Lo) : New w0 (ns ++ Lo) := by
  intro x hx
  rcases List.mem_append.1 hx with hx | hx
  · exact h _ (List.mem_map.2 ⟨x, hx, rfl⟩)
  · exact hLo x hx
theorem len124 {es : Array MapEntry} {clk : Nat} {m : List (Int × Bool)} (hm : MapIs encU es clk (encM Value.bool m)) {wq : World} {k : Nat} (hx : Ext w wq) (hb : w.heap[k]? = some (.map es clk)) :
    (Builtin.len_ #[124] 3 [Value.map (some k)].toArray).run P wq = .ok (.int .i64 m.length) wq := by
  have := hm.len (ext_get hx hb) mapType124 3
  rw [this]
  simp [encM]
/-- What stands behind the first pass. -/
theorem feed_s13 {b1 b2 : Nat} {o1 o2 o3 : Obj} (hF : Fr w0 D e q pb ob nb F) (hD : DBok w0 D) (hnew : ∀ x ∈ [l1, n6, n8, n92, n90, b1, b2, n72, n42, n4, n2], w0.heap.size ≤ x) (ha : a.th = e.th) {n : Int} (hn : n ≤ 65536)
    (hLo : SlO 11 47 ov out.length (racesCs out) Lo) (hLn : New w0 Lo) (hlen : out.length < 1000000) (hmany : D.d.many < 20000) (hx : ∀ r ∈ out, Mo.look D.d.cells r.byte ≠ none)
    (h : St w0 w ((l1, dfr) :: (n6, Cs [nilS] 25) :: (n8, Cs [I64 0] 28) :: (n92, o1) :: (n90, Cs [ov] 25) :: (Lo ++ ((b1, o2) :: (b2, o3) :: G6 D n72 n42 n4 n2 pb a e R0 F))))
    (herr : w64 (D.d.told.length + out.length) > 1000 → ∀ w', St w0 w' (detH D ++ R0) → K (.tuple [nilS, I64 2].toArray) w')
    (hK : ¬ w64 (D.d.told.length + out.length) > 1000 → ∀ w' D' cs, D'.d = { th := perform D.d.th e q, many := w64 (D.d.many + 1), cells := (tell out cs D.d.told).1, told := (tell out cs D.d.told).2 } → cs = keep a q.tk (at0 D.d.th.rels e.th) D.d.told (Mo.bytes e.a n) D.d.cells →
      DBok w0 D' → D'.db = D.db → St w0 w' (detH D' ++ (Lo ++ R0)) → K (.tuple [ov, I64 0].toArray) w') :
    f40_s13 (Addr.mk n6 0 none) (Addr.mk n8 0 none) (Addr.mk n4 0 none) (Addr.mk n2 0 none) (Addr.mk n42 0 none) (Addr.mk n72 0 none) (Addr.mk n90 0 none) n [mk l1] w K := by
  rw [f40_s13_eq]
  have hd := h.drew
  obtain ⟨sa, sc, hov⟩ := hLo.form
  have gF : ∀ y, y ∈ F → y ∈ ((l1, dfr) :: (n6, Cs [nilS] 25) :: (n8, Cs [I64 0] 28) :: (n92, o1) :: (n90, Cs [ov] 25) :: (Lo ++ ((b1, o2) :: (b2, o3) :: G6 D n72 n42 n4 n2 pb a e R0 F))) := fun y hy => by simp [G6, hy]
  refine ⟨some (Addr.mk D.db 0 none), ?_, some D.lb, ?_, D.d.told.length, fun wq hx => len124 hD.m6 hx (hd.has D.lb _ (by simp [G6])), sa, out.length, sc, by rw [hd.cell (k := 4) rfl, hov]; rfl, out.length, fun wq _ => run_len_25 wq, ?_⟩
  · rw [cell_of (hd.has n2 (Cs [ptr D.db] 76) (by simp [G6]))]; rfl
  · rw [add_lit', Nat.zero_add, cell_of (hd.has D.db _ (gF _ hF.db)), show (93 : Nat) = 90 + 3 from rfl, det_rest hD.th]; rfl
  rw [BIf_iff]
  constructor
  · intro hgt
    have hgt : w64 (D.d.told.length + out.length) > 1000 := by simpa [w64] using hgt
    refine hd.st1 (k := 1) rfl (by simp) rfl fun w1 h1 => h1.st1 (k := 2) rfl (by simp) rfl fun w2 h2 => ?_
    refine ⟨h2.get (k := 0) rfl, ?_⟩
    have h3 := h2.put (k := 0) rfl (.deferred none)
    rw [leave_13]
    refine ⟨none, 0, 0, by rw [h3.cell (k := 1) rfl]; rfl, 2, by rw [h3.cell (k := 2) rfl]; rfl, ?_⟩
    refine herr hgt _ (feed_back hF (X := (l1, .deferred none) :: (n6, Cs [nilS] 25) :: (n8, Cs [I64 2] 28) :: (n92, o1) :: (n90, Cs [ov] 25) :: (b1, o2) :: (b2, o3) :: (n72, Cs (Acccs a) 45) :: (n42, Cs [ptr pb] 127) :: (n4, Cs (Evcs e) 35) :: (n2, Cs [ptr D.db] 76) :: Lo) (St.perm h3 (perm_back ..)) ?_)
    exact new_list (ns := [(l1, .deferred none), (n6, Cs [nilS] 25), (n8, Cs [I64 2] 28), (n92, o1), (n90, Cs [ov] 25), (b1, o2), (b2, o3), (n72, Cs (Acccs a) 45), (n42, Cs [ptr pb] 127), (n4, Cs (Evcs e) 35), (n2, Cs [ptr D.db] 76)]) hnew hLn
  · intro hle
    have hle : ¬ w64 (D.d.told.length + out.length) > 1000 := by simpa [w64] using hle
    refine feed_s14 (R0 := R0) (J := [(n92, o1), (b1, o2), (b2, o3)]) hF hD ?_ ?_ ha hn hLo hlen hmany hx (hd.perm (perm_13 ..)) (hK hle)
    · intro x hx
      simp only [List.mem_cons, List.not_mem_nil, or_false] at hx
      rcases hx with rfl | rfl | rfl | rfl | rfl | rfl | rfl | rfl
      all_goals exact hnew _ (by simp)
    · intro x hx
      simp only [List.mem_cons, List.not_mem_nil, or_false] at hx
      rcases hx with rfl | rfl | rfl
      all_goals exact hnew _ (by simp)
/-- The first pass. -/
theorem feed_s6 (hF : Fr w0 D e q pb ob nb F) (hD : DBok w0 D) (hnew : ∀ x ∈ [n6, n8, n72, n42, n4, n2], w0.heap.size ≤ x) (ha : a.th = e.th) {n : Int} (hn : n ≤ 65536) (hmany : D.d.many < 20000)
    (h : St w0 w ((n6, Cs [nilS] 25) :: (n8, Cs [I64 0] 28) :: G6 D n72 n42 n4 n2 pb a e R0 F))
    (herr : (scan D.d a q.own (Mo.bytes e.a n) [] 0 = none ∨ ∃ out, scan D.d a q.own (Mo.bytes e.a n) [] 0 = some out ∧ w64 (D.d.told.length + out.length) > 1000) → ∀ w', St w0 w' (detH D ++ R0) → K (.tuple [nilS, I64 2].toArray) w')
    (hK : ∀ out, scan D.d a q.own (Mo.bytes e.a n) [] 0 = some out → ¬ w64 (D.d.told.length + out.length) > 1000 → ∀ w' D' cs ov Lo, D'.d = { th := perform D.d.th e q, many := w64 (D.d.many + 1), cells := (tell out cs D.d.told).1, told := (tell out cs D.d.told).2 } →
      cs = keep a q.tk (at0 D.d.th.rels e.th) D.d.told (Mo.bytes e.a n) D.d.cells → DBok w0 D' → D'.db = D.db → SlO 11 47 ov out.length (racesCs out) Lo → New w0 Lo → St w0 w' (detH D' ++ (Lo ++ R0)) → K (.tuple [ov, I64 0].toArray) w') :
    f40_s6 (Addr.mk n8 0 none) (Addr.mk n6 0 none) (Addr.mk n2 0 none) (Addr.mk n72 0 none) (Addr.mk n42 0 none) (Addr.mk n4 0 none) n w K := by
  rw [f40_s6_eq, z25, z3]
  refine h.newC fun n90 w1 hn90 h1 => h1.newC fun n92 w2 hn92 h2 => h2.st1 (k := 0) rfl (by simp) rfl fun w3 h3 => ?_
  have h3 : St w0 w3 ((n92, Cs [I64 0] 3) :: (n90, Cs [nilS] 25) :: (n6, Cs [nilS] 25) :: (n8, Cs [I64 0] 28) :: G6 D n72 n42 n4 n2 pb a e R0 F) := h3
  refine ⟨e.a, ?_, ?_⟩
  · rw [add_lit', cell_of (h3.has n4 (Cs (Evcs e) 35) (by simp [G6]))]; rfl
  refine bytes_st h3 e.a n fun b1 b2 w4 hb1 hb2 h4 => ⟨_, rfl, ?_⟩
  generalize hG : G6 D n72 n42 n4 n2 pb a e R0 F = G at h h1 h2 h3 h4
  have gm : ∀ y, y ∈ G6 D n72 n42 n4 n2 pb a e R0 F → y ∈ G := fun y hy => hG ▸ hy
  have gF : ∀ y, y ∈ F → y ∈ G := fun y hy => gm y (by simp [G6, hy])
  let G' : List (Nat × Obj) := (b1, Cs [I64 n] 3) :: (b2, Cs [.int .u32 e.a] 33) :: G
  have gm' : ∀ y, y ∈ G6 D n72 n42 n4 n2 pb a e R0 F → y ∈ G' := fun y hy => .tail _ (.tail _ (gm y hy))
  have h5 : St w0 w4 ((n6, Cs [nilS] 25) :: (n8, Cs [I64 0] 28) :: (n92, Cs [I64 0] 3) :: (n90, Cs [nilS] 25) :: ([] ++ G')) := by
    refine h4.perm (perm_by fun c => ?_)
    simp only [G', List.nil_append, List.map_cons, List.sum_cons]
    omega
  have hGF : GF G' D n2 n72 n42 pb a e q := by
    obtain ⟨o1, o2, o3, hpl⟩ := hF.pl
    exact ⟨gm' _ (by simp [G6]), gm' _ (by simp [G6]), gm' _ (by simp [G6]), .tail _ (.tail _ (gF _ hF.db)), ⟨o1, o2, o3, 138, .tail _ (.tail _ (gF _ hpl))⟩, hF.own⟩
  have hcs : ∀ x ∈ D.cs, ∀ y ∈ cbH x, y ∈ G' := fun x hx y hy => gm' y (by
    have : y ∈ cellsH D.cs := List.mem_flatMap.2 ⟨x, hx, hy⟩
    simp [G6, this])
  let I : Nat → List (Nat × Obj) → Prop := fun i H' => ∃ out fresh ov Lo, scan D.d a q.own (Mo.bytes e.a n) [] 0 = scan D.d a q.own ((Mo.bytes e.a n).drop i) out fresh ∧ out.length ≤ i ∧ SlO 11 47 ov out.length (racesCs out) Lo ∧ New w0 Lo ∧
    H' = (n6, Cs [nilS] 25) :: (n8, Cs [I64 0] 28) :: (n92, Cs [I64 fresh] 3) :: (n90, Cs [ov] 25) :: (Lo ++ G')
  let Jx : Code → List (Nat × Obj) → Prop := fun c H' => c = .ret ∧ scan D.d a q.own (Mo.bytes e.a n) [] 0 = none ∧ ∃ fresh ov Lo, New w0 Lo ∧ H' = (n6, Cs [nilS] 25) :: (n8, Cs [I64 2] 28) :: (n92, Cs [I64 fresh] 3) :: (n90, Cs [ov] 25) :: (Lo ++ G')
  have hn6 := hnew n6 (by simp)
  have hn8 := hnew n8 (by simp)
  have nns : ∀ l' : Nat, w0.heap.size ≤ l' → ∀ x ∈ [l', n6, n8, n92, n90, b1, b2, n72, n42, n4, n2], w0.heap.size ≤ x := fun l' hl' x hx => by
    simp only [List.mem_cons, List.not_mem_nil, or_false] at hx
    rcases hx with rfl | rfl | rfl | rfl | rfl | rfl | rfl | rfl | rfl | rfl | rfl
    · exact hl'
    · exact hn6
    · exact hn8
    · exact hn92
    · exact hn90
    · exact hb1
    · exact hb2
    all_goals exact hnew _ (by simp)
  refine range_bytes (b1 := b1) (b2 := b2) (n := n) (at_ := e.a) (t1 := 3) (t2 := 33) h5 (by simp [G']) (by omega) I Jx ⟨[], 0, nilS, [], rfl, by simp, SlO.nil 11 47, New.nil w0, rfl⟩ ?_ ?_ ?_ ?_
  · rintro i H' ⟨out, fresh, ov, Lo, _, _, _, _, rfl⟩
    simp [G']
  · rintro l l' Rr post i W H' hi ⟨out, fresh, ov, Lo, hscan, hol, hS, hN, rfl⟩ hs hl hl' hp hpx
    rw [f40_rd7_eq]
    refine ⟨rfl, ?_⟩
    refine scan_round (G := G') hGF hD (gm' _ (by simp [G6])) (gm' _ (by simp [G6])) hcs n hS hN (by omega) _ hs ?_ ?_
    · intro w' out' fresh' ov' Lo' hsc hol' hS' hN' h'
      refine hp w' ((n6, Cs [nilS] 25) :: (n8, Cs [I64 0] 28) :: (n92, Cs [I64 fresh'] 3) :: (n90, Cs [ov'] 25) :: (Lo' ++ G')) ⟨out', fresh', ov', Lo', ?_, by omega, hS', hN', rfl⟩ h'
      rw [hscan, drop_bytes _ _ (by omega)]
      exact hsc _
    · intro w' fresh' hsc h'
      refine hpx .ret w' ((n6, Cs [nilS] 25) :: (n8, Cs [I64 2] 28) :: (n92, Cs [I64 fresh'] 3) :: (n90, Cs [ov] 25) :: (Lo ++ G')) ⟨rfl, ?_, fresh', ov, Lo, hN, rfl⟩ h'
      rw [hscan, drop_bytes _ _ (by omega)]
      exact hsc _
  · rintro W H' l' hl' ⟨out, fresh, ov, Lo, hscan, hol, hS, hN, rfl⟩ hs
    show f40_rn7 (Addr.mk n8 0 none) (Addr.mk n6 0 none) (Addr.mk n92 0 none) (Addr.mk n2 0 none) (Addr.mk n90 0 none) (Addr.mk n72 0 none) (Addr.mk n42 0 none) (Addr.mk n4 0 none) n [mk l'] W K
    rw [f40_rn7_eq]
    have hdrop : (Mo.bytes e.a n).drop n.toNat = [] := List.drop_eq_nil_of_le (by rw [bytes_len]; exact Nat.le_refl _)
    rw [hdrop] at hscan
    have hscan : scan D.d a q.own (Mo.bytes e.a n) [] 0 = some out := hscan
    have hs' : St w0 W ((l', dfr) :: (n6, Cs [nilS] 25) :: (n8, Cs [I64 0] 28) :: (n92, Cs [I64 fresh] 3) :: (n90, Cs [ov] 25) :: (Lo ++ ((b1, Cs [I64 n] 3) :: (b2, Cs [.int .u32 e.a] 33) :: G))) := hs
    rw [← hG] at hs'
    refine feed_s13 (R0 := R0) hF hD (nns l' hl') ha hn hS hN (by omega) hmany ?_ hs' (fun hgt => herr (.inr ⟨out, hscan, hgt⟩)) fun hle w' D' cs h1 h2 h3 h4 h5 => hK out hscan hle w' D' cs ov Lo h1 h2 h3 h4 hS hN h5
    intro r hr
    obtain ⟨ext, hxe, _, hx⟩ := scan_mem hscan
    rw [List.nil_append] at hxe
    rw [hxe] at hr
    obtain ⟨_, _, c, hc, _⟩ := hx r hr
    rw [hc]; simp
  · rintro c W H' l' hl' ⟨rfl, hsc, fresh, ov, Lo, hN, rfl⟩ hs
    show f40_rr7 (Addr.mk n8 0 none) (Addr.mk n6 0 none) (Addr.mk n92 0 none) (Addr.mk n2 0 none) (Addr.mk n90 0 none) (Addr.mk n72 0 none) (Addr.mk n42 0 none) (Addr.mk n4 0 none) n [mk l'] W K
    rw [f40_rr7_eq]
    refine ⟨hs.get (k := 0) rfl, ?_⟩
    have hs' : St w0 (W.putObj l' (.deferred none)) ((l', .deferred none) :: (n6, Cs [nilS] 25) :: (n8, Cs [I64 2] 28) :: (n92, Cs [I64 fresh] 3) :: (n90, Cs [ov] 25) :: (Lo ++ ((b1, Cs [I64 n] 3) :: (b2, Cs [.int .u32 e.a] 33) :: G))) := hs.put (k := 0) rfl (.deferred none)
    rw [← hG] at hs'
    rw [leave_rr7]
    refine ⟨none, 0, 0, by rw [hs'.cell (k := 1) rfl]; rfl, 2, by rw [hs'.cell (k := 2) rfl]; rfl, ?_⟩
    refine herr (.inl hsc) _ (feed_back hF (X := (l', .deferred none) :: (n6, Cs [nilS] 25) :: (n8, Cs [I64 2] 28) :: (n92, Cs [I64 fresh] 3) :: (n90, Cs [ov] 25) :: (b1, Cs [I64 n] 3) :: (b2, Cs [.int .u32 e.a] 33) :: (n72, Cs (Acccs a) 45) :: (n42, Cs [ptr pb] 127) :: (n4, Cs (Evcs e) 35) :: (n2, Cs [ptr D.db] 76) :: Lo) (St.perm hs' (perm_back ..)) ?_)
    exact new_list (ns := [(l', .deferred none), (n6, Cs [nilS] 25), (n8, Cs [I64 2] 28), (n92, Cs [I64 fresh] 3), (n90, Cs [ov] 25), (b1, Cs [I64 n] 3), (b2, Cs [.int .u32 e.a] 33), (n72, Cs (Acccs a) 45), (n42, Cs [ptr pb] 127), (n4, Cs (Evcs e) 35), (n2, Cs [ptr D.db] 76)]) (nns l' hl') hN
end Go.Fx.Try
namespace Go.Fx.Try
open Go Go.Fx Go.Fx.Mo
open Go.Proofs
variable {w0 w : World} {H : List (Nat × Obj)} {K : Value → World → Prop}
set_option maxRecDepth 20000
variable {D : DB} {n2 n42 pb ob nb n4 n6 n8 : Nat} {e : Ev} {q : Pl} {F R0 : List (Nat × Obj)}
theorem z127 : zcells P 127 = #[.pointer none] := by kernel_rfl
abbrev locH (n8 n6 n4 n2 : Nat) (D : DB) (e : Ev) (R : List (Nat × Obj)) : List (Nat × Obj) := (n8, Cs [I64 0] 28) :: (n6, Cs [nilS] 25) :: (n4, Cs (Evcs e) 35) :: (n2, Cs [ptr D.db] 76) :: R
abbrev mapsH (D : DB) (R : List (Nat × Obj)) : List (Nat × Obj) := (D.cb, .map D.es5 D.c5) :: (D.lb, .map D.es6 D.c6) :: (cellsH D.cs ++ R)
/-- The numbers of an event's bytes. -/
def evN (e : Ev) : Int := if (accesses e).2.2 then e.n else 0
theorem bytes_evN (e : Ev) : (if (accesses e).2.2 then Mo.bytes e.a e.n else []) = Mo.bytes e.a (evN e) := by
  unfold evN
  split <;> rfl
theorem feed_eq {d : Det} {e : Ev} {q : Pl} (hm : d.many < 20000) (hp : plan d.th e = some q) : feed d e =
    match scan d (accOf d e) q.own (Mo.bytes e.a (evN e)) [] 0 with
    | none => (d, .inr 2)
    | some out => if w64 (d.told.length + out.length) > 1000 then (d, .inr 2) else
      ({ th := perform d.th e q, many := w64 (d.many + 1), cells := (tell out (keep (accOf d e) q.tk (at0 d.th.rels e.th) d.told (Mo.bytes e.a (evN e)) d.cells) d.told).1,
         told := (tell out (keep (accOf d e) q.tk (at0 d.th.rels e.th) d.told (Mo.bytes e.a (evN e)) d.cells) d.told).2 }, .inl out) := by
  unfold feed
  rw [if_neg (by omega), hp]
  simp only [bytes_evN]
  rfl
theorem feed_s4 (hF : Fr w0 D e q pb ob nb F) (hD : DBok w0 D) (hnew : ∀ x ∈ [n6, n8, n42, n4, n2], w0.heap.size ≤ x) (hmany : D.d.many < 20000)
    (h : St w0 w ((n42, Cs [ptr pb] 127) :: locH n8 n6 n4 n2 D e (mapsH D (R0 ++ F))))
    (herr : ∀ d' x, feed D.d e = (d', .inr x) → ∀ w', St w0 w' (detH D ++ R0) → K (.tuple [nilS, I64 x].toArray) w')
    (hok : ∀ d' out, feed D.d e = (d', .inl out) → ∀ w' D' ov Lo, D'.d = d' → DBok w0 D' → D'.db = D.db → SlO 11 47 ov out.length (racesCs out) Lo → New w0 Lo → St w0 w' (detH D' ++ (Lo ++ R0)) → K (.tuple [ov, I64 0].toArray) w') :
    f40_s4 (Addr.mk n8 0 none) (Addr.mk n6 0 none) (Addr.mk n2 0 none) (Addr.mk n42 0 none) (Addr.mk n4 0 none) w K := by
  rw [f40_s4_eq]
  refine h.ldA (k := 3) (i := 0) rfl (by simp [Evcs]) ?_
  refine accesses_ok h e fun w1 h1 => ⟨_, _, _, rfl, ?_⟩
  have hd := h1.drew
  refine ⟨some (Addr.mk D.db 0 none), by rw [hd.cell (k := 4) rfl]; rfl, D.d.many, ?_, e.th, by rw [add_lit', Nat.zero_add, hd.cell (k := 3) rfl]; rfl, e.pc, by rw [add_lit', Nat.zero_add, hd.cell (k := 3) rfl]; rfl, _, build45 _ _ _ _ _, ?_⟩
  · have hm : ∀ y, y ∈ F → y ∈ ((n42, Cs [ptr pb] 127) :: locH n8 n6 n4 n2 D e (mapsH D (R0 ++ F))) := fun y hy => by simp [hy]
    rw [add_lit', Nat.zero_add, cell_of (hd.has D.db _ (hm _ hF.db)), show (91 : Nat) = 90 + 1 from rfl, det_rest hD.th]; rfl
  rw [z45]
  refine hd.newC fun n72 w2 hn72 h2 => h2.stA (k := 0) rfl rfl (by simp) (Acccs_one (accOf D.d e)) fun w3 h3 => ?_
  have h3 : St w0 w3 ((n72, Cs (Acccs (accOf D.d e)) 45) :: (n42, Cs [ptr pb] 127) :: locH n8 n6 n4 n2 D e (mapsH D (R0 ++ F))) := h3
  have hn : evN e ≤ 65536 := by
    unfold evN
    split
    · rename_i hi; exact (refused_n (plan_refused hF.plan) hi).2
    · omega
  have hfeed := feed_eq (e := e) hmany hF.plan
  have h6 : f40_s6 (Addr.mk n8 0 none) (Addr.mk n6 0 none) (Addr.mk n2 0 none) (Addr.mk n72 0 none) (Addr.mk n42 0 none) (Addr.mk n4 0 none) (evN e) w3 K := by
    refine feed_s6 (R0 := R0) (a := accOf D.d e) hF hD ?_ rfl hn hmany (h3.perm (perm_by fun c => ?_)) ?_ ?_
    · intro x hx
      simp only [List.mem_cons, List.not_mem_nil, or_false] at hx
      rcases hx with rfl | rfl | rfl | rfl | rfl | rfl
      · exact hnew _ (by simp)
      · exact hnew _ (by simp)
      · exact hn72
      all_goals exact hnew _ (by simp)
    · simp only [G6, List.map_append, List.map_cons, List.sum_append, List.sum_cons]
      omega
    · rintro (hs | ⟨out, hs, hgt⟩) w' h'
      · rw [hs] at hfeed; exact herr _ _ hfeed w' h'
      · rw [hs] at hfeed; simp only [hgt, if_true] at hfeed; exact herr _ _ hfeed w' h'
    · intro out hs hle w' D' cs ov Lo hd' hcs hD' hdb hS hN h'
      rw [hs] at hfeed
      simp only [hle, if_false] at hfeed
      exact hok _ _ hfeed w' D' ov Lo (by rw [hd', hcs]) hD' hdb hS hN h'
  rw [f40_s5_eq, BIf_iff]
  constructor
  · intro hi
    have e1 : evN e = e.n := by unfold evN; rw [if_pos hi]
    rw [e1] at h6
    exact ⟨e.n, by rw [add_lit', Nat.zero_add, h3.cell (k := 4) rfl]; rfl, h6⟩
  · intro hi
    have e1 : evN e = 0 := by unfold evN; rw [if_neg (by rw [hi]; simp)]
    rw [e1] at h6
    exact h6
theorem feed_ok (h : St w0 w (detH D ++ R0)) (hD : DBok w0 D)
    (herr : ∀ d' x, feed D.d e = (d', .inr x) → ∀ w', St w0 w' (detH D ++ R0) → K (.tuple [nilS, I64 x].toArray) w')
    (hok : ∀ d' out, feed D.d e = (d', .inl out) → ∀ w' D' ov Lo, D'.d = d' → DBok w0 D' → D'.db = D.db → SlO 11 47 ov out.length (racesCs out) Lo → New w0 Lo → St w0 w' (detH D' ++ (Lo ++ R0)) → K (.tuple [ov, I64 0].toArray) w') :
    CallL P 40 [ptr D.db, .agg (Evcs e).toArray] w K := by
  refine f40_ok _ _ _ _ ?_
  rw [f40_eq, z25, z28]
  refine h.newC fun n2 w1 hn2 h1 => h1.newC fun n4 w2 hn4 h2 => h2.newC fun n6 w3 hn6 h3 => h3.newC fun n8 w4 hn8 h4 => ?_
  have h4 : St w0 w4 (locH n8 n6 n4 n2 D e (detH D ++ R0)) := h4
  have hdet : ∀ i, w4.cell? (Addr.mk D.db (90 + i) none) = (restCs D)[i]? := fun i => by
    rw [h4.cell (k := 4) (cs := thCs D.d.th D.tob D.tnb ++ restCs D) rfl, det_rest hD.th]
  have c2 : ∀ {w' : World} {X : List (Nat × Obj)}, St w0 w' (X ++ locH n8 n6 n4 n2 D e (detH D ++ R0)) → w'.cell? (Addr.mk n2 0 none) = some (ptr D.db) := fun h' => by rw [cell_of (h'.has n2 (Cs [ptr D.db] 76) (by simp))]; rfl
  refine ⟨some (Addr.mk D.db 0 none), c2 (X := []) h4, ?_⟩
  rw [Option.isNone_some, BIf_false]
  refine ⟨some (Addr.mk D.db 0 none), c2 (X := []) h4, true, by rw [add_lit', Nat.zero_add]; exact hdet 0, ?_⟩
  rw [f40_s0_eq, Bool.not_true, BIf_false, f40_s1_eq]
  refine ⟨some (Addr.mk D.db 0 none), c2 (X := []) h4, D.d.many, by rw [add_lit', Nat.zero_add]; exact hdet 1, ?_⟩
  rw [BIf_iff]
  constructor
  · intro hge
    have hge : D.d.many ≥ 20000 := by simpa using hge
    refine h4.st1 (k := 1) rfl (by simp) rfl fun w5 h5 => h5.st1 (k := 0) rfl (by simp) rfl fun w6 h6 => ?_
    refine ⟨none, 0, 0, by rw [h6.cell (k := 1) rfl]; rfl, 2, by rw [h6.cell (k := 0) rfl]; rfl, ?_⟩
    exact herr D.d 2 (by unfold feed; rw [if_pos hge]) w6 ((((h6.tail hn8).tail hn6).tail hn4).tail hn2)
  · intro hlt
    have hlt : D.d.many < 20000 := by simpa using hlt
    rw [f40_s2_eq]
    have hd := h4.drew
    refine ⟨some (Addr.mk D.db 0 none), c2 (X := []) hd, hd.ldA (k := 2) (i := 0) rfl (by simp [Evcs]) ?_⟩
    have s3n : ∀ w' n42 v, w0.heap.size ≤ n42 → plan D.d.th e = none → St w0 w' ((n42, Cs [.pointer v] 127) :: locH n8 n6 n4 n2 D e (detH D ++ R0)) → f40_s3 (Addr.mk n6 0 none) (Addr.mk n8 0 none) (Addr.mk n2 0 none) (Addr.mk n42 0 none) (Addr.mk n4 0 none) false w' K := by
      intro w' n42 v hn42 hp h'
      rw [f40_s3_eq, Bool.not_false, BIf_true]
      refine h'.st1 (k := 2) rfl (by simp) rfl fun w5 h5 => h5.st1 (k := 1) rfl (by simp) rfl fun w6 h6 => ?_
      refine ⟨none, 0, 0, by rw [h6.cell (k := 2) rfl]; rfl, 300, by rw [h6.cell (k := 1) rfl]; rfl, ?_⟩
      exact herr D.d 300 (by unfold feed; rw [if_neg (by omega), hp]) w6 (((((h6.tail hn42).tail hn8).tail hn6).tail hn4).tail hn2)
    have s3s : ∀ w' n42 pb ob nb q F, w0.heap.size ≤ n42 → Fr w0 D e q pb ob nb F → St w0 w' ((n42, Cs [ptr pb] 127) :: locH n8 n6 n4 n2 D e (mapsH D (R0 ++ F))) → f40_s3 (Addr.mk n6 0 none) (Addr.mk n8 0 none) (Addr.mk n2 0 none) (Addr.mk n42 0 none) (Addr.mk n4 0 none) true w' K := by
      intro w' n42 pb ob nb q F hn42 hF h'
      rw [f40_s3_eq, Bool.not_true, BIf_false]
      refine feed_s4 (R0 := R0) hF hD ?_ hlt h' herr hok
      intro x hx
      simp only [List.mem_cons, List.not_mem_nil, or_false] at hx
      rcases hx with rfl | rfl | rfl | rfl | rfl
      · exact hn6
      · exact hn8
      · exact hn42
      · exact hn4
      · exact hn2
    have toFr : ∀ {w' : World} {X : List (Nat × Obj)} {q pb ob nb}, plan D.d.th e = some q → w0.heap.size ≤ pb → w0.heap.size ≤ ob → w0.heap.size ≤ nb → PS w0 w' (planB D e pb ob nb) (X ++ locH n8 n6 n4 n2 D e (mapsH D R0)) q →
        ∃ F, Fr w0 D e q pb ob nb F ∧ St w0 w' (X ++ locH n8 n6 n4 n2 D e (mapsH D (R0 ++ F))) := by
      intro w' X q pb ob nb hp k1 k2 k3 hps
      have ho := hps.own
      obtain ⟨F, hs, hpl, hth, hback⟩ := hps.frame
      refine ⟨F, ⟨hp, hpl, hth, ho, hback, k1, k2, k3⟩, hs.perm (perm_by fun c => ?_)⟩
      simp only [List.map_append, List.map_cons, List.sum_append, List.sum_cons]
      omega
    constructor
    · refine plan_ok (T := D.d.th) (tb := D.db) (tob := D.tob) (tnb := D.tnb) (tt := 126) (rest := restCs D) (R := locH n8 n6 n4 n2 D e (mapsH D R0)) hD.th hD.m3 hD.m4 (hd.perm (perm_by fun c => ?_)) (fun hp w' v h' => ?_) (fun q hp w' pb ob nb k1 k2 k3 hps => ?_)
      · simp only [detH, List.map_append, List.map_cons, List.sum_append, List.sum_cons]
        omega
      · refine ⟨v, false, rfl, ?_⟩
        rw [z127]
        have h' : St w0 w' (locH n8 n6 n4 n2 D e (detH D ++ R0)) := h'.perm (perm_by fun c => by
          simp only [detH, List.map_append, List.map_cons, List.sum_append, List.sum_cons]; omega)
        exact h'.newC fun n42 w5 hn42 h5 => h5.st1 (k := 0) rfl (by simp) rfl fun w6 h6 => s3n w6 n42 v hn42 hp h6
      · refine ⟨some (Addr.mk pb 0 none), true, rfl, ?_⟩
        rw [z127]
        obtain ⟨F, hF, hs⟩ := toFr (X := []) hp k1 k2 k3 hps
        have hs : St w0 w' (locH n8 n6 n4 n2 D e (mapsH D (R0 ++ F))) := hs
        exact hs.newC fun n42 w5 hn42 h5 => h5.st1 (k := 0) rfl (by simp) rfl fun w6 h6 => s3s w6 n42 pb ob nb q F hn42 hF h6
    · rw [z127]
      refine hd.newC fun n350 w5 hn350 h5 => ?_
      refine plan_ok (T := D.d.th) (tb := D.db) (tob := D.tob) (tnb := D.tnb) (tt := 126) (rest := restCs D) (R := (n350, Cs [.pointer none] 127) :: locH n8 n6 n4 n2 D e (mapsH D R0)) hD.th hD.m3 hD.m4 (h5.perm (perm_by fun c => ?_)) (fun hp w' v h' => ?_) (fun q hp w' pb ob nb k1 k2 k3 hps => ?_)
      · simp only [detH, List.map_append, List.map_cons, List.sum_append, List.sum_cons]
        omega
      · refine ⟨v, false, rfl, ?_⟩
        have h' : St w0 w' ((n350, Cs [.pointer none] 127) :: locH n8 n6 n4 n2 D e (detH D ++ R0)) := h'.perm (perm_by fun c => by
          simp only [detH, List.map_append, List.map_cons, List.sum_append, List.sum_cons]; omega)
        exact h'.st1 (k := 0) rfl (by simp) rfl fun w6 h6 => s3n w6 n350 v hn350 hp h6
      · refine ⟨some (Addr.mk pb 0 none), true, rfl, ?_⟩
        obtain ⟨F, hF, hs⟩ := toFr (X := [(n350, Cs [.pointer none] 127)]) hp k1 k2 k3 hps
        have hs : St w0 w' ((n350, Cs [.pointer none] 127) :: locH n8 n6 n4 n2 D e (mapsH D (R0 ++ F))) := hs
        exact hs.st1 (k := 0) rfl (by simp) rfl fun w6 h6 => s3s w6 n350 pb ob nb q F hn350 hF h6
end Go.Fx.Try
namespace Go.Fx.Try
open Go Go.Fx Go.Fx.Mo
open Go.Proofs
variable {w0 w : World} {H : List (Nat × Obj)} {K : Value → World → Prop}
set_option maxRecDepth 20000
theorem build121 (a b : Nat) (wq : World) : (Instr.build 121 [(4, (Value.map (some a))), (5, (Value.map (some b)))].toArray).run P wq = .ok (.agg ((thCs begin' a b).set 64 (.bool false)).toArray) wq := by kernel_rfl
theorem z121 : ∃ cs : List Value, zcells P 121 = cs.toArray ∧ cs.length = 90 := ⟨(thCs begin' 0 0).set 64 (.bool false) |>.set 88 (.map none) |>.set 89 (.map none), by kernel_rfl, by kernel_rfl⟩
theorem th0_len (a b : Nat) : (thCs begin' a b).length = 90 := by kernel_rfl
theorem th0_one (a b : Nat) : ∀ v ∈ thCs begin' a b, v.oneCell' = true := by
  intro v hv
  simp [thCs, begin', zeroC, List.replicate] at hv
  rcases hv with rfl | rfl | rfl | rfl | rfl | rfl <;> rfl
theorem splice_whole {cs vs : List Value} (h : vs.length = cs.length) : splice cs 0 vs = vs := by
  rw [splice_eq _ _ _ (by omega)]
  simp [h]
theorem begin_ok (h : St w0 w H) (hK : ∀ w' a b, w0.heap.size ≤ a → w0.heap.size ≤ b → St w0 w' ((a, .map #[] 0) :: (b, .map #[] 0) :: H) → K (.agg (thCs begin' a b).toArray) w') : CallL P 62 [] w K := by
  refine f62_ok _ _ ?_
  obtain ⟨zs, hz, hzl⟩ := z121
  rw [f62_eq, hz]
  refine h.newC fun n0 w1 hn0 h1 => h1.newO fun a w2 ha h2 => h2.newO fun b w3 hb h3 => ?_
  refine ⟨_, build121 a b, h3.newC fun n7 w4 hn7 h4 => ?_⟩
  have hl : ((thCs begin' a b).set 64 (.bool false)).length = 90 := by rw [List.length_set, th0_len]
  have hone : ∀ v ∈ (thCs begin' a b).set 64 (.bool false), v.oneCell' = true := fun v hv => by
    rcases List.mem_or_eq_of_mem_set hv with hv | rfl
    · exact th0_one a b v hv
    · rfl
  refine h4.stA (k := 0) rfl (by simpa using hl) (by simp [hzl]) (by simpa using hone) fun w5 h5 => ⟨by omega, by omega, ?_⟩
  have h5 : St w0 w5 ((n7, Cs (splice zs 0 ((thCs begin' a b).set 64 (.bool false))) 121) :: (b, .map #[] 0) :: (a, .map #[] 0) :: (n0, Cs zs 121) :: H) := h5
  rw [splice_whole (by rw [hl, hzl])] at h5
  simp only [add_lit', Nat.zero_add]
  refine h5.st1 (k := 0) rfl (by rw [hl]; decide) rfl fun w6 h6 => ?_
  have h6 : St w0 w6 ((n7, Cs (((thCs begin' a b).set 64 (.bool false)).set 64 (.bool true)) 121) :: (b, .map #[] 0) :: (a, .map #[] 0) :: (n0, Cs zs 121) :: H) := h6
  have e : ((thCs begin' a b).set 64 (.bool false)).set 64 (.bool true) = thCs begin' a b := by
    rw [List.set_set]; kernel_rfl
  rw [e] at h6
  refine h6.ldA (k := 0) (i := 0) rfl (by rw [th0_len]; decide) ?_
  have e2 : ((thCs begin' a b).drop 0).take 90 = thCs begin' a b := List.take_of_length_le (by simp [th0_len])
  rw [e2]
  refine h6.stA (k := 3) rfl (by simp [th0_len]) (by simp [hzl]) (by simpa using th0_one a b) fun w7 h7 => ?_
  have h7 : St w0 w7 ((n7, Cs (thCs begin' a b) 121) :: (b, .map #[] 0) :: (a, .map #[] 0) :: (n0, Cs (splice zs 0 (thCs begin' a b)) 121) :: H) := h7
  rw [splice_whole (by rw [th0_len, hzl])] at h7
  refine h7.ldA (k := 3) (i := 0) rfl (by rw [th0_len]; decide) ?_
  rw [e2]
  refine hK w7 a b ha hb ?_
  refine St.sub (L := [(n7, Cs (thCs begin' a b) 121), (n0, Cs (thCs begin' a b) 121)]) (h7.perm (perm_by fun c => ?_)) ?_
  · simp only [List.map_append, List.map_cons, List.map_nil, List.sum_append, List.sum_cons, List.sum_nil]; omega
  · intro x hx
    simp only [List.mem_cons, List.not_mem_nil, or_false] at hx
    rcases hx with rfl | rfl
    · exact hn7
    · exact hn0
theorem th0_ok : ThOk begin' := ⟨rfl, by simp [begin', zeroC], rfl, rfl, rfl, by simp [begin']⟩
def D0 (db tob tnb cb lb : Nat) : DB := ⟨db, tob, tnb, cb, lb, #[], 0, #[], 0, #[], 0, #[], 0, det0, []⟩
theorem build126 (a b c d : Nat) (wq : World) : (Instr.build 126 [(0, (Value.agg (thCs begin' a b).toArray)), (1, (Value.bool true)), (3, (Value.map (some c))), (4, (Value.map (some d)))].toArray).run P wq = .ok (.agg (thCs begin' a b ++ restCs (D0 0 a b c d)).toArray) wq := by kernel_rfl
theorem D0_ok {db a b c d : Nat} (hn : w0.heap.size ≤ db ∧ w0.heap.size ≤ a ∧ w0.heap.size ≤ b ∧ w0.heap.size ≤ c ∧ w0.heap.size ≤ d) : DBok w0 (D0 db a b c d) :=
  ⟨th0_ok, MapIs.empty, MapIs.empty, MapIs.empty, MapIs.empty, rfl, by simp [D0], by simp [D0, det0], hn⟩
theorem new_ok (h : St w0 w H) (hK : ∀ w' D, D.d = det0 → DBok w0 D → St w0 w' (detH D ++ H) → K (ptr D.db) w') : CallL P 39 [] w K := by
  refine f39_ok _ _ ?_
  rw [f39_eq]
  refine begin_ok h fun w1 a b ha hb h1 => ⟨_, rfl, ?_⟩
  refine h1.newO fun c w2 hc h2 => h2.newO fun d w3 hd h3 => ⟨_, build126 a b c d, ?_⟩
  refine h3.newC fun n8 w4 hn8 h4 => hK w4 (D0 n8 a b c d) rfl (D0_ok ⟨hn8, ha, hb, hc, hd⟩) ?_
  have h4 : St w0 w4 ((n8, Cs (thCs begin' a b ++ restCs (D0 n8 a b c d)) 126) :: (d, .map #[] 0) :: (c, .map #[] 0) :: (a, .map #[] 0) :: (b, .map #[] 0) :: H) := h4
  have e : detH (D0 n8 a b c d) = [(n8, Cs (thCs begin' a b ++ restCs (D0 n8 a b c d)) 126), (a, .map #[] 0), (b, .map #[] 0), (c, .map #[] 0), (d, .map #[] 0)] := rfl
  rw [e]
  refine h4.perm (perm_by fun f => ?_)
  simp only [List.map_append, List.map_cons, List.map_nil, List.sum_append, List.sum_cons, List.sum_nil]
  omega
end Go.Fx.Try
namespace Go.Fx.Try
open Go Go.Fx Go.Fx.Mo
open Go.Proofs
variable {w0 w : World} {H : List (Nat × Obj)} {K : Value → World → Prop}
set_option maxRecDepth 20000
def evsCs (l : List Ev) : List Value := (l.map Evcs).flatten
theorem Evcs_len (e : Ev) : (Evcs e).length = 6 := rfl
theorem Evcs_one (e : Ev) : ∀ v ∈ (Evcs e).toArray.toList, v.oneCell' = true := by simp [Evcs, Value.oneCell']
theorem evs_at {l : List Ev} {i : Nat} (hi : i < l.length) : ((evsCs l).drop (i * 6)).take 6 = Evcs l[i] := flat_slice (f := Evcs) (fun x _ => Evcs_len x) hi
def madeCs (m : Made) : List Value := I64 m.first :: m.last.map I64
def mades (l : List Made) : List Value := (l.map madeCs).flatten
theorem mades_snoc (l : List Made) (m : Made) : mades (l ++ [m]) = mades l ++ madeCs m := by simp [mades]
theorem z89 : zcells P 89 = #[nilS, nilS, nilS] := by kernel_rfl
theorem z35 : ∃ cs : List Value, zcells P 35 = cs.toArray ∧ cs.length = 6 := ⟨_, rfl, by kernel_rfl⟩
theorem build89 (wq : World) : (Instr.build 89 [].toArray).run P wq = .ok (.agg #[nilS, nilS, nilS]) wq := by kernel_rfl
theorem build158 (x : Int) {c : Clk} (hc : c.length = 8) (wq : World) : (Instr.build 158 [(0, (Value.int .i64 x)), (1, (Value.agg (c.map I64).toArray))].toArray).run P wq = .ok (.agg (madeCs ⟨x, c⟩).toArray) wq := by
  obtain ⟨c0, c1, c2, c3, c4, c5, c6, c7, rfl⟩ := own8 hc
  kernel_rfl
theorem info158 : P.info? 158 = some Try.t158 := by kernel_rfl
theorem info3 : P.info? 3 = some Try.t3 := by kernel_rfl
theorem run_len_22 {p : Option Addr} {l c : Nat} (wq : World) : (Builtin.len_ #[22] 3 [Value.slice p l c].toArray).run P wq = .ok (.int .i64 l) wq := run_len_slice p l c Try.underlying22 3
theorem run_len_57 {p : Option Addr} {l c : Nat} (wq : World) : (Builtin.len_ #[57] 3 [Value.slice p l c].toArray).run P wq = .ok (.int .i64 l) wq := run_len_slice p l c Try.underlying57 3
theorem ords_one (l : List Ord) : ∀ v ∈ ords l, v.oneCell' = true := by
  intro v hv
  obtain ⟨x, hx, hv⟩ := List.mem_flatten.1 hv
  obtain ⟨r, _, rfl⟩ := List.mem_map.1 hx
  simp [Ordcs] at hv
  rcases hv with rfl | rfl | rfl | rfl <;> rfl
theorem act_orders (T : Th) (e : Ev) (p : Pl) : (act T e p).orders.length ≤ p.orders.length + (if e.kind = 4 then e.n.toNat else 1) := by
  unfold act
  by_cases h4 : e.kind = 4
  · rw [if_pos h4, if_pos h4]
    rw [← atomic_eq]
    exact aSt_orders T e p _
  · rw [if_neg h4, if_neg h4]
    have hn : ∀ x, (number T p x).2.orders = p.orders := fun x => number_orders T p x
    split
    · unfold spawn
      split
      · simp
      · simp [tick]
    · split
      · unfold Mo.join
        split
        · simp
        · simp [tick]
      · split
        · simp [Mo.lock, tick, acquire, hn]
        · split
          · simp [Mo.unlock, tick, release, hn]
          · simp [Mo.step, tick]
theorem plan_orders {T : Th} {e : Ev} {q : Pl} (h : plan T e = some q) : q.orders.length ≤ 16 := by
  obtain ⟨k1, k2, t1, t2, hn16⟩ := refused_kind (plan_refused h)
  unfold plan at h
  split at h
  · cases h
  · split at h
    · cases h
    · cases h
      have := act_orders T e (pl0 T e)
      have h0 : (pl0 T e).orders.length = 0 := rfl
      split at this
      · rename_i h4; have := hn16 h4; omega
      · omega

/-- The state of a history in the making. -/
structure HistOk (w0 : World) (h : Hist) (v1 v2 v3 : Value) (L1 L2 L3 : List (Nat × Obj)) : Prop where
  s1 : SlO 4 99 v1 h.orders.length (ords h.orders) L1
  s2 : SlO 1 3 v2 h.of.length (h.of.map I64) L2
  s3 : SlO 9 158 v3 h.events.length (mades h.events) L3
  n1 : New w0 L1
  n2 : New w0 L2
  n3 : New w0 L3
  each : ∀ m ∈ h.events, m.last.length = 8
abbrev runH (n3 : Nat) (v1 v2 v3 : Value) (L1 L2 L3 Y : List (Nat × Obj)) : List (Nat × Obj) := (n3, Cs [v1, v2, v3] 89) :: (L1 ++ (L2 ++ (L3 ++ Y)))
theorem runH_mem {n3 : Nat} {v1 v2 v3 : Value} {L1 L2 L3 Y : List (Nat × Obj)} {y : Nat × Obj} (h : y ∈ Y) : y ∈ runH n3 v1 v2 v3 L1 L2 L3 Y := by simp [h]
/-- What comes behind the event's plan: its operations, their indices, the event. -/
theorem run_s3 {p : Pl} {h0 : Hist} {n1 n3 n16 i len : Nat} {pbk : Nat} {sa : Option Addr} {sc : Nat} {v1 v2 v3 ov : Value} {L1 L2 L3 M Y : List (Nat × Obj)} {t : TypeId} {e : Ev} {ob nb : Nat} {Y1 : Env → World → Prop}
    (hw : St w0 w (runH n3 v1 v2 v3 L1 L2 L3 Y)) (hh : HistOk w0 h0 v1 v2 v3 L1 L2 L3) (hown : p.own.length = 8) (hpl : (pbk, Cs (planCs n16 e ov ob nb p) t) ∈ Y) (hov : SlO 4 99 ov p.orders.length (ords p.orders) M) (hM : ∀ y ∈ M, y ∈ Y)
    (hb : h0.orders.length ≤ 1000000 ∧ h0.of.length ≤ 1000000 ∧ h0.events.length ≤ 1000000 ∧ p.orders.length ≤ 1000 ∧ i < 1000000)
    (hK : ∀ w' v1' v2' v3' L1' L2' L3', HistOk w0 ⟨h0.orders ++ p.orders, h0.of ++ List.replicate p.orders.length (i : Int), h0.events ++ [⟨p.tk, p.own⟩]⟩ v1' v2' v3' L1' L2' L3' → St w0 w' (runH n3 v1' v2' v3' L1' L2' L3' Y) →
      Y1 (Env.mk 70 [(2, (ptr n1)), (4, (ptr n3)), (17, (Value.int .i64 (IntKind.wrap .i64 ((i : Int) + 1)))), (3, (Value.int .i64 0)), (5, (ptr n16)), (15, (Value.slice sa len sc)), (16, (Value.int .i64 len))] []) w') :
    ∃ (s59a : Option Addr) (s59l s59c : Nat), w.cell? (Addr.mk n3 0 none) = some (Value.slice s59a s59l s59c) ∧ ∃ (s60a : Option Addr) (s60l s60c : Nat), w.cell? ((Addr.mk pbk 0 none).add 7) = some (Value.slice s60a s60l s60c) ∧ ∃ (s61a : Option Addr) (s61l s61c : Nat), ∃ w62 : World,
      (Builtin.append_ #[57, 57] 57 [(Value.slice s59a s59l s59c), (Value.slice s60a s60l s60c)].toArray).run P w = .ok (Value.slice s61a s61l s61c) w62 ∧ St1 (Addr.mk n3 0 none) (Value.slice s61a s61l s61c) w62 (fun w63 => f47_s4 (Addr.mk n3 0 none) i (Addr.mk n1 0 none) 0 (Addr.mk n16 0 none) sa len sc len i (some (Addr.mk pbk 0 none)) w63 K Y1) := by
  obtain ⟨o1, o2, ho⟩ := hov.form
  obtain ⟨h1a, h1c, hv1⟩ := hh.s1.form
  have pl7 : ∀ {w' : World} {v1 L1 v2 L2 v3 L3} {X : List (Nat × Obj)}, St w0 w' (X ++ runH n3 v1 v2 v3 L1 L2 L3 Y) → w'.heap[pbk]? = some (Cs (planCs n16 e ov ob nb p) t) := fun h' => h'.has pbk _ (List.mem_append_right _ (runH_mem hpl))
  refine ⟨h1a, _, h1c, by rw [hw.cell (k := 0) rfl, ← hv1]; rfl, o1, _, o2, by rw [add_lit', Nat.zero_add, cell_of (pl7 (X := []) hw), ← ho]; rfl, ?_⟩
  obtain ⟨b1, b2, b3, b4, b5⟩ := hb
  obtain ⟨v', w1, L1', hr, hS1, hs1, hN1⟩ := St.appendN (P := P) 57 57 99 Try.t99 (.agg #[I64 0, I64 0, I64 0, I64 0]) 4 32 Try.underlying57 info99 rfl rfl rfl rfl (by omega)
    (A := [(n3, Cs [v1, v2, v3] 89)]) (L := L1) (H := L2 ++ (L3 ++ Y)) hw hh.s1 hh.n1 hov (fun y hy => hw.has _ _ (runH_mem (hM y hy))) (ords_one _) (by simp [maxLen]; omega) (by omega)
  rw [hv1, ho] at hr
  obtain ⟨q1, q2, hq⟩ := hS1.form
  subst hq
  refine ⟨_, _, _, w1, hr, ?_⟩
  have hs1 : St w0 w1 (runH n3 v1 v2 v3 L1' L2 L3 Y) := hs1
  refine hs1.st1 (k := 0) rfl (by simp) rfl fun w2 h2 => ?_
  have h2 : St w0 w2 (runH n3 (.slice q1 (h0.orders.length + p.orders.length) q2) v2 v3 L1' L2 L3 Y) := h2
  rw [f47_s4_eq]
  refine ⟨o1, _, o2, by rw [add_lit', Nat.zero_add, cell_of (pl7 (X := []) h2), ← ho]; rfl, p.orders.length, fun wq _ => run_len_57 wq, ?_⟩
  -- the indices
  refine ⟨fun m ee w => ∃ (k : Nat) (v2' : Value) (L2' : List (Nat × Obj)), k ≤ p.orders.length ∧ m = p.orders.length - k ∧
    ee = Env.mk 70 [(45, (Value.int .i64 k)), (4, (ptr n3)), (6, (Value.int .i64 i)), (2, (ptr n1)), (3, (Value.int .i64 0)), (5, (ptr n16)), (15, (Value.slice sa len sc)), (16, (Value.int .i64 len)), (17, (Value.int .i64 i)), (8, (ptr pbk)), (44, (Value.int .i64 p.orders.length))] [] ∧
    SlO 1 3 v2' (h0.of.length + k) ((h0.of ++ List.replicate k (i : Int)).map I64) L2' ∧ New w0 L2' ∧ St w0 w (runH n3 (.slice q1 (h0.orders.length + p.orders.length) q2) v2' v3 L1' L2' L3 Y),
    ⟨p.orders.length, 0, v2, L2, by omega, rfl, rfl, by simpa using hh.s2, hh.n2, h2⟩, ?_⟩
  rintro m ee w3 ⟨k, v2', L2', hk, rfl, rfl, hS2, hN2, h3⟩
  show f47_lb5 _ _ _ _ _ _ _ _ _ _ _ _ _ _ _ _ _
  rw [f47_lb5_eq, BIf_iff]
  constructor
  · intro hlt
    have hlt : k < p.orders.length := by simpa using hlt
    rw [f47_s6_eq]
    obtain ⟨r1, r2, hr2⟩ := hS2.form
    refine ⟨r1, _, r2, by rw [add_lit', Nat.zero_add, h3.cell (k := 0) rfl, ← hr2]; rfl, ⟨rfl, trivial⟩, ?_⟩
    refine h3.newC fun n102 w4 hn102 h4 => ?_
    obtain ⟨g, cap, w5, L2'', hr', hS2', hs5, hN2'⟩ := St.append (P := P) 39 39 3 Try.t3 (I64 0) 1 8 Try.underlying39 info3 rfl rfl rfl rfl (by omega)
      (A := (n102, Cs [I64 i] 3) :: (n3, Cs [.slice q1 (h0.orders.length + p.orders.length) q2, v2', v3] 89) :: L1') (L := L2') (H := L3 ++ Y) (by exact h4) hS2 hN2 (j := 0) rfl rfl (by simp [Value.oneCell']) (by simp [maxLen]; omega) (by omega)
    rw [hr2] at hr'
    refine ⟨_, _, _, w5, hr', ?_⟩
    have hs5 : St w0 w5 ((n102, Cs [I64 i] 3) :: runH n3 (.slice q1 (h0.orders.length + p.orders.length) q2) v2' v3 L1' L2'' L3 Y) := hs5
    simp only [add_lit', Nat.zero_add]
    refine hs5.st1 (k := 1) rfl (by simp) rfl fun w6 h6 => ?_
    rw [f47_s7_eq]
    refine ⟨p.orders.length - (k + 1), by omega, k + 1, _, L2'', by omega, rfl, ?_, ?_, hN2', h6.tail hn102⟩
    · rw [wrap_i64 (by omega) (by omega)]; rfl
    · have e : (h0.of ++ List.replicate (k + 1) (i : Int)).map I64 = (h0.of ++ List.replicate k (i : Int)).map I64 ++ [I64 i] := by
        rw [List.replicate_succ', ← List.append_assoc, List.map_append]; rfl
      rw [e]
      exact hS2'
  · intro hge
    have : k = p.orders.length := by simp at hge; omega
    subst this
    rw [f47_s8_eq]
    have hd := h3.drew
    refine ⟨p.tk, by rw [add_lit', Nat.zero_add, cell_of (pl7 (X := []) hd)]; exact planCs_rest hown 0, ?_⟩
    rw [add_lit', Nat.zero_add]
    have hown8 : ((planCs n16 e ov ob nb p).drop 8).take 8 = p.own.map I64 := by
      obtain ⟨a, b, c, d, f, g, h, j, hl⟩ := own8 hown
      simp only [planCs, Evcs, hl]
      rfl
    refine LdA_of (pl7 (X := []) hd) (by rw [planCs_len hown]; omega) ?_
    rw [hown8]
    refine ⟨_, build158 p.tk hown, ?_⟩
    obtain ⟨r1, r2, hr3⟩ := hh.s3.form
    have hml : (madeCs ⟨p.tk, p.own⟩).length = 9 := by simp [madeCs, hown]
    have fin : ∀ n134 w132, w0.heap.size ≤ n134 → St w0 w132 ((n134, Cs (madeCs ⟨p.tk, p.own⟩) 158) :: runH n3 (.slice q1 (h0.orders.length + p.orders.length) q2) v2' v3 L1' L2' L3 Y) →
        ∃ g cap w136, (Builtin.append_ #[87, 87] 87 [v3, .slice (some ⟨n134, 0, none⟩) 1 1].toArray).run P w132 = .ok (.slice (some ⟨g, 0, none⟩) (h0.events.length + 1) cap) w136 ∧
          St1 (Addr.mk n3 2 none) (.slice (some ⟨g, 0, none⟩) (h0.events.length + 1) cap) w136 fun w137 => f47_s9 (Addr.mk n1 0 none) (Addr.mk n3 0 none) 0 (Addr.mk n16 0 none) sa len sc len i w137 K Y1 := by
      intro n134 w132 hn134 h132
      obtain ⟨g, cap, w5, L3', hr', hS3', hs5, hN3'⟩ := St.append (P := P) 87 87 158 Try.t158 (.agg #[I64 0, I64 0, I64 0, I64 0, I64 0, I64 0, I64 0, I64 0, I64 0]) 9 72 Try.underlying87 info158 rfl rfl rfl rfl (by omega)
        (A := (n134, Cs (madeCs ⟨p.tk, p.own⟩) 158) :: (n3, Cs [.slice q1 (h0.orders.length + p.orders.length) q2, v2', v3] 89) :: (L1' ++ L2')) (L := L3) (H := Y) (by
          have : (n134, Cs (madeCs ⟨p.tk, p.own⟩) 158) :: (n3, Cs [.slice q1 (h0.orders.length + p.orders.length) q2, v2', v3] 89) :: (L1' ++ L2') ++ (L3 ++ Y) = (n134, Cs (madeCs ⟨p.tk, p.own⟩) 158) :: runH n3 (.slice q1 (h0.orders.length + p.orders.length) q2) v2' v3 L1' L2' L3 Y := by simp
          rw [this]; exact h132) hh.s3 hh.n3 (j := 0) rfl hml (by
          intro u hu
          simp only [madeCs, List.mem_cons, List.mem_map] at hu
          rcases hu with rfl | ⟨x, _, rfl⟩ <;> rfl) (by simp [maxLen]; omega) (by omega)
      refine ⟨g, cap, w5, hr', ?_⟩
      have hs5 : St w0 w5 ((n134, Cs (madeCs ⟨p.tk, p.own⟩) 158) :: runH n3 (.slice q1 (h0.orders.length + p.orders.length) q2) v2' v3 L1' L2' L3' Y) := by
        have : (n134, Cs (madeCs ⟨p.tk, p.own⟩) 158) :: (n3, Cs [.slice q1 (h0.orders.length + p.orders.length) q2, v2', v3] 89) :: (L1' ++ L2') ++ (L3' ++ Y) = (n134, Cs (madeCs ⟨p.tk, p.own⟩) 158) :: runH n3 (.slice q1 (h0.orders.length + p.orders.length) q2) v2' v3 L1' L2' L3' Y := by simp
        rw [this] at hs5; exact hs5
      refine hs5.st1 (k := 1) rfl (by simp) rfl fun w6 h6 => ?_
      rw [f47_s9_eq]
      refine hK w6 _ v2' _ L1' L2' L3' ⟨?_, ?_, ?_, hN1, hN2, hN3', fun m hm => by
        rcases List.mem_append.1 hm with hm | hm
        · exact hh.each m hm
        · simp at hm; rw [hm]; exact hown⟩ (h6.tail hn134)
      · simp only [List.length_append]
        have : ords (h0.orders ++ p.orders) = ords h0.orders ++ ords p.orders := by simp [ords]
        rw [this]
        exact hS1
      · simp only [List.length_append, List.length_replicate]
        exact hS2
      · simp only [List.length_append, List.length_singleton]
        rw [mades_snoc]
        exact hS3'
    have rd : ∀ {w' : World} {X : List (Nat × Obj)}, St w0 w' (X ++ runH n3 (.slice q1 (h0.orders.length + p.orders.length) q2) v2' v3 L1' L2' L3 Y) → w'.cell? ((Addr.mk n3 0 none).add 2) = some (Value.slice r1 h0.events.length r2) := fun h' => by
      rw [add_lit', Nat.zero_add, cell_of (h'.has n3 (Cs [.slice q1 (h0.orders.length + p.orders.length) q2, v2', v3] 89) (by simp)), ← hr3]; rfl
    constructor
    · refine ⟨r1, _, r2, rd (X := []) hd, ⟨by show (madeCs ⟨p.tk, p.own⟩).toArray.size = 9; simpa using hml, trivial⟩, ?_⟩
      refine hd.newC fun n134 w132 hn134 h132 => ?_
      have e0 : (([(Value.agg (madeCs ⟨p.tk, p.own⟩).toArray)].map fun (v : Value) => v.cells.toList).flatten.toArray).toList = madeCs ⟨p.tk, p.own⟩ := by simp [Value.cells]
      rw [e0] at h132
      obtain ⟨g, cap, w136, hr', hst⟩ := fin n134 w132 hn134 h132
      rw [hr3] at hr'
      rw [add_lit', Nat.zero_add]
      exact ⟨_, _, _, w136, hr', hst⟩
    · refine ⟨⟨by show (madeCs ⟨p.tk, p.own⟩).toArray.size = 9; simpa using hml, trivial⟩, ?_⟩
      refine hd.newC fun n134 w132 hn134 h132 => ?_
      have e0 : (([(Value.agg (madeCs ⟨p.tk, p.own⟩).toArray)].map fun (v : Value) => v.cells.toList).flatten.toArray).toList = madeCs ⟨p.tk, p.own⟩ := by simp [Value.cells]
      rw [e0] at h132
      obtain ⟨g, cap, w136, hr', hst⟩ := fin n134 w132 hn134 h132
      rw [hr3] at hr'
      refine ⟨r1, _, r2, rd (X := [_]) h132, ?_⟩
      rw [add_lit', Nat.zero_add]
      exact ⟨_, _, _, w136, hr', hst⟩

theorem splice3 (v1 v2 v3 : Value) (l : List Value) (h : l.length = 3) : splice l 0 [v1, v2, v3] = [v1, v2, v3] := splice_whole (by simp [h])
theorem run_ok {l : List Ev} {ov : Value} (h : St w0 w H) (hrow : ∀ w', St w0 w' H → Row w' 6 ov l.length (evsCs l)) (hl63 : l.length < 9223372036854775808)
    (herr : ∀ x, Mo.run l = .inr x → ∀ w', St w0 w' H → K (.tuple [.agg #[nilS, nilS, nilS], I64 x].toArray) w')
    (hok : ∀ hh, Mo.run l = .inl hh → ∀ w' v1 v2 v3 L1 L2 L3, HistOk w0 hh v1 v2 v3 L1 L2 L3 → St w0 w' (L1 ++ (L2 ++ (L3 ++ H))) → K (.tuple [.agg #[v1, v2, v3], I64 0].toArray) w') :
    CallL P 47 [ov] w K := by
  obtain ⟨sa, sc, hov⟩ := (hrow w h).form
  rw [hov]
  refine f47_ok _ _ _ _ _ ?_
  rw [f47_eq, z89]
  refine h.newC fun n1 w1 hn1 h1 => h1.newC fun n3 w2 hn3 h2 => ⟨l.length, fun wq _ => run_len_22 wq, ?_⟩
  rw [BIf_iff]
  constructor
  · intro hgt
    have hgt : l.length > 20000 := by simp at hgt; omega
    refine h2.ldA (k := 0) (i := 0) rfl (by simp) (h2.stA (k := 1) rfl rfl (by simp) (by simp [Value.oneCell']) fun w3 h3 => ?_)
    refine h3.ldA (k := 1) (i := 0) rfl (by simp [splice_length]) ?_
    exact herr 2 (by unfold Mo.run; rw [if_pos hgt]) w3 ((h3.tail hn3).tail hn1)
  · intro hle
    have hle : ¬ l.length > 20000 := by simp at hle; omega
    have hrunl : Mo.run l = match runL l 0 begin' ⟨[], [], []⟩ with
      | some h => .inl h
      | none => .inr 300 := by unfold Mo.run; rw [if_neg hle]; cases runL l 0 begin' ⟨[], [], []⟩ <;> rfl
    rw [f47_s0_eq]
    refine begin_ok h2 fun w3 ta tb hta htb h3 => ⟨_, rfl, ?_⟩
    obtain ⟨zs, hz, hzl⟩ := z121
    rw [hz]
    refine h3.newC fun n16 w4 hn16 h4 => ?_
    refine h4.stA (k := 0) rfl (by simp [th0_len]) (by simp [hzl]) (by simpa using th0_one ta tb) fun w5 h5 => ?_
    have h5 : St w0 w5 ((n16, Cs (splice zs 0 (thCs begin' ta tb)) 121) :: (ta, .map #[] 0) :: (tb, .map #[] 0) :: (n3, Cs [nilS, nilS, nilS] 89) :: (n1, Cs [nilS, nilS, nilS] 89) :: H) := h5
    rw [splice_whole (by rw [th0_len, hzl]), ← List.append_nil (thCs begin' ta tb)] at h5
    refine ⟨l.length, fun wq _ => run_len_22 wq, ?_⟩
    let TH : Th → Array MapEntry → Nat → Array MapEntry → Nat → List (Nat × Obj) → List (Nat × Obj) := fun T es3 c3 es4 c4 R => (n16, Cs (thCs T ta tb ++ []) 121) :: (ta, .map es3 c3) :: (tb, .map es4 c4) :: R
    refine ⟨fun m ee w => ∃ (i : Nat) (T : Th) (es3 : Array MapEntry) (c3 : Nat) (es4 : Array MapEntry) (c4 : Nat) (h0 : Hist) (v1 v2 v3 : Value) (L1 L2 L3 : List (Nat × Obj)), i ≤ l.length ∧ m = l.length - i ∧
      ee = Env.mk 70 [(2, (ptr n1)), (4, (ptr n3)), (17, (Value.int .i64 i)), (3, (Value.int .i64 0)), (5, (ptr n16)), (15, (Value.slice sa l.length sc)), (16, (Value.int .i64 l.length))] [] ∧
      ThOk T ∧ MapIs encO es3 c3 (encM encC T.objs) ∧ MapIs encO es4 c4 (encM encI T.names) ∧ runL l 0 begin' ⟨[], [], []⟩ = runL (l.drop i) i T h0 ∧
      HistOk w0 h0 v1 v2 v3 L1 L2 L3 ∧ h0.orders.length ≤ 16 * i ∧ h0.of.length = h0.orders.length ∧ h0.events.length = i ∧
      St w0 w ((n16, Cs (thCs T ta tb ++ []) 121) :: (ta, .map es3 c3) :: (tb, .map es4 c4) :: (n1, Cs [nilS, nilS, nilS] 89) :: runH n3 v1 v2 v3 L1 L2 L3 H),
      ⟨l.length, 0, begin', #[], 0, #[], 0, ⟨[], [], []⟩, nilS, nilS, nilS, [], [], [], by omega, rfl, rfl, th0_ok, MapIs.empty, MapIs.empty, rfl, ⟨SlO.nil 4 99, SlO.nil 1 3, SlO.nil 9 158, New.nil w0, New.nil w0, New.nil w0, by simp⟩, by simp, rfl, rfl, h5.perm (perm_by fun c => ?_)⟩, ?_⟩
    · simp only [runH, List.nil_append, List.map_cons, List.sum_cons]; omega
    rintro m ee w6 ⟨i, T, es3, c3, es4, c4, h0, v1, v2, v3, L1, L2, L3, hi, rfl, rfl, hT, hm3, hm4, hrun, hh, hb1, hb2, hb3, h6⟩
    show f47_lb1 _ _ _ _ _ _ _ _ _ _ _ _
    have hrow6 : ∀ {w' : World} {X : List (Nat × Obj)}, New w0 X → St w0 w' (X ++ H) → Row w' 6 ov l.length (evsCs l) := fun hX h' => hrow _ (h'.sub hX)
    have hnewX : ∀ {L1 L2 L3 : List (Nat × Obj)} {v1 v2 v3 : Value} {T : Th} {es3 c3 es4 c4} , New w0 L1 → New w0 L2 → New w0 L3 → New w0 ((n16, Cs (thCs T ta tb ++ []) 121) :: (ta, Obj.map es3 c3) :: (tb, Obj.map es4 c4) :: (n1, Cs [nilS, nilS, nilS] 89) :: (n3, Cs [v1, v2, v3] 89) :: (L1 ++ (L2 ++ L3))) := by
      intro L1 L2 L3 v1 v2 v3 T es3 c3 es4 c4 k1 k2 k3 x hx
      simp only [List.mem_cons, List.mem_append] at hx
      rcases hx with rfl | rfl | rfl | rfl | rfl | hx | hx | hx
      · exact hn16
      · exact hta
      · exact htb
      · exact hn1
      · exact hn3
      · exact k1 x hx
      · exact k2 x hx
      · exact k3 x hx
    have hassoc : ∀ {L1 L2 L3 : List (Nat × Obj)} {v1 v2 v3 : Value} {T : Th} {es3 c3 es4 c4}, ((n16, Cs (thCs T ta tb ++ []) 121) :: (ta, Obj.map es3 c3) :: (tb, Obj.map es4 c4) :: (n1, Cs [nilS, nilS, nilS] 89) :: runH n3 v1 v2 v3 L1 L2 L3 H) =
        ((n16, Cs (thCs T ta tb ++ []) 121) :: (ta, Obj.map es3 c3) :: (tb, Obj.map es4 c4) :: (n1, Cs [nilS, nilS, nilS] 89) :: (n3, Cs [v1, v2, v3] 89) :: (L1 ++ (L2 ++ L3))) ++ H := by simp
    rw [f47_lb1_eq, BIf_iff]
    constructor
    · intro hlt
      have hlt : i < l.length := by simpa using hlt
      rw [f47_s2_eq]
      have hr := hrow6 (hnewX hh.n1 hh.n2 hh.n3) (hassoc ▸ h6)
      obtain ⟨a, c, hac, hld⟩ := hr.ldA hlt
      rw [hov] at hac
      obtain ⟨hsa, -⟩ : sa = some a ∧ sc = c := by simpa using hac
      subst hsa
      refine ⟨by omega, by omega, hld _ ?_⟩
      rw [evs_at hlt]
      obtain ⟨ze, hze, hzel⟩ := z35
      rw [hze]
      refine h6.newC fun n36 w7 hn36 h7 => h7.stA (k := 0) rfl (by simp [Evcs_len]) (by simp [hzel]) (Evcs_one _) fun w8 h8 => ?_
      have h8 : St w0 w8 ((n36, Cs (splice ze 0 (Evcs l[i])) 35) :: (n16, Cs (thCs T ta tb ++ []) 121) :: (ta, .map es3 c3) :: (tb, .map es4 c4) :: (n1, Cs [nilS, nilS, nilS] 89) :: runH n3 v1 v2 v3 L1 L2 L3 H) := h8
      rw [splice_whole (by rw [Evcs_len, hzel])] at h8
      refine h8.ldA (k := 0) (i := 0) rfl (by simp [Evcs_len]) ?_
      have hdrop : l.drop i = l[i] :: l.drop (i + 1) := List.drop_eq_getElem_cons hlt
      refine plan_ok (T := T) (tb := n16) (tob := ta) (tnb := tb) (tt := 121) (rest := []) (R := (n36, Cs (Evcs l[i]) 35) :: (n1, Cs [nilS, nilS, nilS] 89) :: runH n3 v1 v2 v3 L1 L2 L3 H) hT hm3 hm4 (h8.perm (perm_by fun c => ?_)) (fun hp w' v h' => ?_) (fun q hp w' pb ob nb k1 k2 k3 hps => ?_)
      · simp only [List.map_cons, List.sum_cons]; omega
      · refine ⟨v, false, rfl, ?_⟩
        rw [Bool.not_false, BIf_true]
        refine ⟨_, build89, h'.stA (k := 4) rfl rfl (by simp) (by simp [Value.oneCell']) fun w9 h9 => ?_⟩
        refine h9.ldA (k := 4) (i := 0) rfl (by simp [splice_length]) ?_
        refine herr 300 (by rw [hrunl, hrun, hdrop, runL, hp]) w9 ?_
        have h9 : St w0 w9 ((n16, Cs (thCs T ta tb ++ []) 121) :: (ta, .map es3 c3) :: (tb, .map es4 c4) :: (n36, Cs (Evcs l[i]) 35) :: (n1, Cs [nilS, nilS, nilS] 89) :: runH n3 v1 v2 v3 L1 L2 L3 H) := h9
        refine St.sub (L := (n36, Cs (Evcs l[i]) 35) :: (n16, Cs (thCs T ta tb ++ []) 121) :: (ta, Obj.map es3 c3) :: (tb, Obj.map es4 c4) :: (n1, Cs [nilS, nilS, nilS] 89) :: (n3, Cs [v1, v2, v3] 89) :: (L1 ++ (L2 ++ L3))) (h9.perm (perm_by fun c => ?_)) ?_
        · simp only [runH, List.map_cons, List.sum_cons, List.map_append, List.sum_append]; omega
        · intro x hx
          rcases List.mem_cons.1 hx with rfl | hx
          · exact hn36
          · exact hnewX hh.n1 hh.n2 hh.n3 x hx
      · refine ⟨some (Addr.mk pb 0 none), true, rfl, ?_⟩
        rw [Bool.not_true, BIf_false, f47_s3_eq]
        obtain ⟨_, _, t1, t2, _⟩ := refused_kind (plan_refused hp)
        have hfe := plan_fork hp
        refine perform_ps (B := ⟨pb, ob, nb, n16, ta, tb, 138, 121, l[i], T, [], es3, c3, es4, c4⟩) hps ⟨hT, hm3, hm4, ⟨t1, t2⟩⟩ hfe.1 hfe.2 fun w9 es3' c3' es4' c4' h9 hB9 => ⟨rfl, ?_⟩
        have h9d := h9.drew
        obtain ⟨DD, LL, rfl, hs9, k4, k5, k6⟩ := h9d
        have hoq := plan_orders hp
        refine run_s3 (p := DD.p) (h0 := h0) (e := l[i]) (ov := DD.ov) (ob := ob) (nb := nb) (t := 138) (M := LL) (L1 := L1) (L2 := L2) (L3 := L3) (v1 := v1) (v2 := v2) (v3 := v3)
          (Y := (pb, Cs (planCs n16 l[i] DD.ov ob nb DD.p) 138) :: (ob, .map DD.es1 DD.c1) :: (nb, .map DD.es2 DD.c2) :: (n36, Cs (Evcs l[i]) 35) :: (LL ++ ((n16, Cs (thCs (perform T l[i] DD.p) ta tb ++ []) 121) :: (ta, .map es3' c3') :: (tb, .map es4' c4') :: (n1, Cs [nilS, nilS, nilS] 89) :: H)))
          (hs9.perm (perm_by fun c => ?_)) hh k4.own (by simp) k5 (fun y hy => by simp [hy]) ⟨by omega, by omega, by omega, by omega, by omega⟩ fun w10 v1' v2' v3' L1' L2' L3' hh' h10 => ?_
        · simp only [plH, withT, runH, List.map_cons, List.sum_cons, List.map_append, List.sum_append]; omega
        refine ⟨l.length - (i + 1), by omega, i + 1, perform T l[i] DD.p, es3', c3', es4', c4', _, v1', v2', v3', L1', L2', L3', by omega, rfl, ?_, hB9.th, hB9.m3, hB9.m4, ?_, hh', ?_, ?_, ?_, ?_⟩
        · rw [wrap_i64 (by omega) (by omega)]; rfl
        · rw [hrun, hdrop, runL, hp]; rfl
        · simp only [List.length_append]; omega
        · simp only [List.length_append, List.length_replicate]; omega
        · simp only [List.length_append, List.length_singleton]; omega
        · refine St.sub (L := (pb, Cs (planCs n16 l[i] DD.ov ob nb DD.p) 138) :: (ob, .map DD.es1 DD.c1) :: (nb, .map DD.es2 DD.c2) :: (n36, Cs (Evcs l[i]) 35) :: LL) (h10.perm (perm_by fun c => ?_)) ?_
          · simp only [runH, List.map_cons, List.sum_cons, List.map_append, List.sum_append]; omega
          · intro x hx
            simp only [List.mem_cons] at hx
            rcases hx with rfl | rfl | rfl | rfl | hx
            · exact k1
            · exact k2
            · exact k3
            · exact hn36
            · exact k6 x hx
    · intro hge
      have : i = l.length := by simp at hge; omega
      subst this
      rw [List.drop_length] at hrun
      rw [f47_s10_eq]
      refine h6.ldA (k := 4) (i := 0) rfl (by simp) (h6.stA (k := 3) rfl rfl (by simp) (by
        obtain ⟨a1, c1, e1⟩ := hh.s1.form
        obtain ⟨a2, c2, e2⟩ := hh.s2.form
        obtain ⟨a3, c3, e3⟩ := hh.s3.form
        simp [e1, e2, e3, Value.oneCell']) fun w7 h7 => ?_)
      refine h7.ldA (k := 3) (i := 0) rfl (by simp [splice_length]) ?_
      refine hok h0 (by rw [hrunl, hrun]; rfl) w7 v1 v2 v3 L1 L2 L3 hh ?_
      have h7 : St w0 w7 ((n16, Cs (thCs T ta tb ++ []) 121) :: (ta, .map es3 c3) :: (tb, .map es4 c4) :: (n1, Cs [v1, v2, v3] 89) :: runH n3 v1 v2 v3 L1 L2 L3 H) := h7
      exact ((((h7.tail hn16).tail hta).tail htb).tail hn1).tail hn3
end Go.Fx.Try
namespace Go.Fx.Try
open Go Go.Fx Go.Fx.Mo
open Go.Proofs
variable {w0 w : World} {H : List (Nat × Obj)} {K : Value → World → Prop}
set_option maxRecDepth 20000
/-- What the sort of races does (function g compares). -/
def SortOk (w0 : World) (g : Nat) : Prop := ∀ {w : World} {H : List (Nat × Obj)} {K : Value → World → Prop} {out : List Mo.Race} {ov : Value} {Lo : List (Nat × Obj)}, St w0 w (Lo ++ H) → SlO 11 47 ov out.length (racesCs out) Lo → (out.map (·.byte)).Nodup → out.length < 2000000000 →
  (∀ w' Lo', SlO 11 47 ov out.length (racesCs (out.mergeSort raceLe)) Lo' → (New w0 Lo → New w0 Lo') → St w0 w' (Lo' ++ H) → K (.tuple [].toArray) w') → CallL P 21 [ov, .func (.func g) #[] #[]] w K
theorem feed_err {d d' : Det} {e : Ev} {x : Int} (h : feed d e = (d', .inr x)) : x = 2 ∨ x = 300 := by
  unfold feed at h
  split at h
  · simp at h; exact .inl h.2.symm
  · split at h
    · simp at h; exact .inr h.2.symm
    · simp only at h
      split at h
      · simp at h; exact .inl h.2.symm
      · split at h
        · simp at h; exact .inl h.2.symm
        · simp at h
theorem feed_len {d d' : Det} {e : Ev} {out : List Mo.Race} (h : feed d e = (d', .inl out)) : out.length ≤ 65536 := by
  obtain ⟨p, hp, _, hs, _, _⟩ := feed_inl h
  obtain ⟨ext, rfl, hsub, _⟩ := scan_mem hs
  have h1 := hsub.length_le
  rw [bytes_evN, List.length_map, bytes_len] at h1
  have hn : evN e ≤ 65536 := by
    unfold evN
    split
    · rename_i hi; exact (refused_n (plan_refused hp) hi).2
    · omega
  omega
theorem racesCs_append (a b : List Mo.Race) : racesCs (a ++ b) = racesCs a ++ racesCs b := by simp [racesCs]
/-- The races of an event, behind those that there are. -/
theorem out_append {A Y : List (Nat × Obj)} {out x : List Mo.Race} {ov xv : Value} {Lo Lx : List (Nat × Obj)} (h : St w0 w (A ++ (Lo ++ (Lx ++ Y)))) (hLo : SlO 11 47 ov out.length (racesCs out) Lo) (hN : New w0 Lo) (hx : SlO 11 47 xv x.length (racesCs x) Lx) (hNx : New w0 Lx)
    (hb : out.length < 1500000000 ∧ x.length ≤ 65536) :
    ∃ v' w' L', (Builtin.append_ #[25, 25] 25 [ov, xv].toArray).run P w = .ok v' w' ∧ SlO 11 47 v' (out ++ x).length (racesCs (out ++ x)) L' ∧ New w0 L' ∧ St w0 w' (A ++ (L' ++ Y)) := by
  obtain ⟨v', w', L', hr, hS, hs, hN'⟩ := St.appendN (P := P) 25 25 47 Try.t47 (.agg #[.int .u32 0, I64 0, I64 0, .int .u32 0, .bool false, .bool false, I64 0, I64 0, .int .u32 0, .bool false, .bool false]) 11 56 Try.underlying25 info47 rfl rfl rfl rfl (by omega)
    (A := A) (L := Lo) (H := Lx ++ Y) (M := Lx) h hLo hN hx (fun y hy => h.has _ _ (by simp [hy])) (racesCs_one _) (by simp [maxLen]; omega) (by omega)
  refine ⟨v', w', L', hr, ?_, hN', ?_⟩
  · rw [List.length_append, racesCs_append]; exact hS
  · refine St.sub (L := Lx) (hs.perm (perm_by fun c => ?_)) hNx
    simp only [List.map_append, List.sum_append]
    omega
theorem races_ok (hsort : SortOk w0 48) {l : List Ev} {ov : Value} (h : St w0 w H) (hrow : ∀ w', St w0 w' H → Row w' 6 ov l.length (evsCs l)) (hl63 : l.length < 9223372036854775808)
    (herr : ∀ x, Mo.races l = .inr x → x ≠ 0 → ∀ w', St w0 w' H → K (.tuple [nilS, I64 x].toArray) w')
    (hok : ∀ out, Mo.races l = .inl out → out.length < 2000000000 → ∀ w' rv Lo, SlO 11 47 rv out.length (racesCs out) Lo → New w0 Lo → St w0 w' (Lo ++ H) → K (.tuple [rv, I64 0].toArray) w') :
    CallL P 16 [ov] w K := by
  obtain ⟨sa, sc, hov⟩ := (hrow w h).form
  rw [hov]
  refine f16_ok _ _ _ _ _ ?_
  rw [f16_eq, z89, ← hov]
  refine run_ok h hrow hl63 (fun x hx w1 h1 => ⟨_, x, rfl, ?_⟩) (fun hh hrun w1 v1 v2 v3 L1 L2 L3 hho h1 => ⟨_, 0, rfl, ?_⟩)
  · refine h1.newC fun n5 w2 hn5 h2 => h2.stA (k := 0) rfl rfl (by simp) (by simp [Value.oneCell']) fun w3 h3 => ?_
    have hx0 : x ≠ 0 := by
      unfold Mo.run at hx
      split at hx
      · cases hx; omega
      · split at hx
        · cases hx
        · cases hx; omega
    rw [show (x != 0) = true by simpa using hx0, BIf_true]
    exact herr x (by unfold Mo.races; rw [hx]) hx0 w3 (h3.tail hn5)
  · refine h1.newC fun n5 w2 hn5 h2 => h2.stA (k := 0) rfl rfl (by simp) (by
        obtain ⟨a1, c1, e1⟩ := hho.s1.form
        obtain ⟨a2, c2, e2⟩ := hho.s2.form
        obtain ⟨a3, c3, e3⟩ := hho.s3.form
        simp [e1, e2, e3, Value.oneCell']) fun w3 h3 => ?_
    rw [show ((0 : Int) != 0) = false by decide, BIf_false]
    have h3 := ((((h3.tail hn5).sub hho.n1).sub hho.n2).sub hho.n3)
    have hraces : Mo.races l = match feeds l det0 [] with
      | .inr x => .inr x
      | .inl out => .inl (out.mergeSort raceLe) := by
      unfold Mo.races
      rw [hrun]
      simp only
      cases feeds l det0 [] <;> rfl
    have hlen : l.length ≤ 20000 := by
      unfold Mo.run at hrun
      split at hrun
      · cases hrun
      · omega
    rw [f16_s0_eq]
    refine new_ok h3 fun w4 D hD0 hD h4 => ⟨_, rfl, l.length, fun wq _ => run_len_22 wq, ?_⟩
    refine ⟨fun m ee w => ∃ (i : Nat) (D' : DB) (out : List Mo.Race) (oa : Option Addr) (oc : Nat) (Lo : List (Nat × Obj)), i ≤ l.length ∧ m = l.length - i ∧
      ee = Env.mk 43 [(7, (Value.slice oa out.length oc)), (23, (Value.int .i64 i)), (6, (ptr D.db)), (21, (Value.slice sa l.length sc)), (2, nilS), (3, (Value.int .i64 0)), (22, (Value.int .i64 l.length))] [] ∧
      D'.db = D.db ∧ DBok w0 D' ∧ feeds l det0 [] = feeds (l.drop i) D'.d out ∧ out.length ≤ 65536 * i ∧ SlO 11 47 (.slice oa out.length oc) out.length (racesCs out) Lo ∧ New w0 Lo ∧ St w0 w (detH D' ++ (Lo ++ H)),
      ⟨l.length, 0, D, [], none, 0, [], by omega, rfl, rfl, rfl, hD, by rw [hD0]; rfl, by simp, SlO.nil 11 47, New.nil w0, h4⟩, ?_⟩
    rintro m ee w5 ⟨i, D', out, oa, oc, Lo, hi, rfl, rfl, hdb, hD', hfeeds, hol, hLo, hLn, h5⟩
    show f16_lb1 _ _ _ _ _ _ _ _ _ _ _ _ _ _ _ _
    rw [f16_lb1_eq, BIf_iff]
    constructor
    · intro hlt
      have hlt : i < l.length := by simpa using hlt
      rw [f16_s2_eq]
      obtain ⟨a, c, hac, hld⟩ := (hrow w5 ((h5.sub hD'.newH).sub hLn)).ldA hlt
      rw [hov] at hac
      obtain ⟨hsa, -⟩ : sa = some a ∧ sc = c := by simpa using hac
      subst hsa
      refine ⟨by omega, by omega, hld _ ?_⟩
      rw [evs_at hlt]
      obtain ⟨ze, hze, hzel⟩ := z35
      rw [hze]
      refine h5.newC fun n31 w6 hn31 h6 => h6.stA (k := 0) rfl (by simp [Evcs_len]) (by simp [hzel]) (Evcs_one _) fun w7 h7 => ?_
      have h7 : St w0 w7 ((n31, Cs (splice ze 0 (Evcs l[i])) 35) :: (detH D' ++ (Lo ++ H))) := h7
      rw [splice_whole (by rw [Evcs_len, hzel])] at h7
      refine h7.ldA (k := 0) (i := 0) rfl (by simp [Evcs_len]) ?_
      have hdrop : l.drop i = l[i] :: l.drop (i + 1) := List.drop_eq_getElem_cons hlt
      rw [← hdb]
      refine feed_ok (R0 := (n31, Cs (Evcs l[i]) 35) :: (Lo ++ H)) (h7.perm List.perm_middle.symm) hD' (fun d' x hf w8 h8 => ⟨none, 0, 0, x, rfl, ?_⟩) (fun d' xs hf w8 D'' xv Lx hd'' hD'' hdb'' hS hN h8 => ?_)
      · have hx0 : x ≠ 0 := by rcases feed_err hf with rfl | rfl <;> omega
        rw [show (x != 0) = true by simpa using hx0, BIf_true]
        refine herr x ?_ hx0 w8 ((((h8.sub hD'.newH).tail hn31)).sub hLn)
        rw [hraces, hfeeds, hdrop, feeds, hf]
      · obtain ⟨xa, xc, hxv⟩ := hS.form
        refine ⟨xa, xs.length, xc, 0, by rw [hxv], ?_⟩
        rw [show ((0 : Int) != 0) = false by decide, BIf_false, f16_s3_eq]
        have h8' : St w0 w8 (detH D'' ++ (Lo ++ (Lx ++ H))) := by
          refine St.sub (L := [(n31, Cs (Evcs l[i]) 35)]) (h8.perm (perm_by fun c => ?_)) (by simpa [New] using hn31)
          simp only [List.map_append, List.map_cons, List.map_nil, List.sum_append, List.sum_cons, List.sum_nil]
          omega
        obtain ⟨v', w9, Lo', hr, hS', hN', h9⟩ := out_append h8' hLo hLn hS hN ⟨by omega, feed_len hf⟩
        obtain ⟨va, vc, hv'⟩ := hS'.form
        rw [hv'] at hS'
        rw [hxv, hv'] at hr
        refine ⟨va, _, vc, w9, hr, ?_⟩
        rw [f16_s4_eq]
        refine ⟨l.length - (i + 1), by omega, i + 1, D'', out ++ xs, va, vc, Lo', by omega, rfl, ?_, by rw [hdb'', hdb], hD'', ?_, ?_, hS', hN', h9⟩
        · rw [wrap_i64 (by omega) (by omega), hdb]; rfl
        · rw [hfeeds, hdrop, feeds, hf, hd'']
        · have := feed_len hf
          simp only [List.length_append]; omega
    · intro hge
      have : i = l.length := by simp at hge; omega
      subst this
      rw [List.drop_length] at hfeeds
      have hfeeds : feeds l det0 [] = .inl out := hfeeds
      rw [f16_s5_eq]
      refine hsort (h5.sub hD'.newH) hLo (feeds_nodup hfeeds) (by omega) fun w6 Lo' hS' hN' h6 => ⟨rfl, ?_⟩
      refine hok (out.mergeSort raceLe) (by rw [hraces, hfeeds]) (by rw [List.length_mergeSort]; omega) w6 _ Lo' ?_ (hN' hLn) h6
      rw [List.length_mergeSort]
      exact hS'
theorem fed_ok (hsort : SortOk w0 46) {l : List Ev} {ov : Value} (h : St w0 w H) (hrow : ∀ w', St w0 w' H → Row w' 6 ov l.length (evsCs l)) (hl : l.length ≤ 20000)
    (herr : Mo.fed l = none → ∀ w', St w0 w' H → K (.tuple [nilS, .bool false].toArray) w')
    (hok : ∀ out, Mo.fed l = some out → out.length < 2000000000 → ∀ w' rv Lo, SlO 11 47 rv out.length (racesCs out) Lo → New w0 Lo → St w0 w' (Lo ++ H) → K (.tuple [rv, .bool true].toArray) w') :
    CallL P 15 [ov] w K := by
  obtain ⟨sa, sc, hov⟩ := (hrow w h).form
  rw [hov]
  refine f15_ok _ _ _ _ _ ?_
  rw [f15_eq]
  refine new_ok h fun w4 D hD0 hD h4 => ⟨_, rfl, l.length, fun wq _ => run_len_22 wq, ?_⟩
  refine ⟨fun m ee w => ∃ (i : Nat) (D' : DB) (out : List Mo.Race) (oa : Option Addr) (oc : Nat) (Lo : List (Nat × Obj)), i ≤ l.length ∧ m = l.length - i ∧
    ee = Env.mk 32 [(5, (Value.slice oa out.length oc)), (13, (Value.int .i64 i)), (4, (ptr D.db)), (11, (Value.slice sa l.length sc)), (2, nilS), (3, (Value.bool false)), (12, (Value.int .i64 l.length))] [] ∧
    D'.db = D.db ∧ DBok w0 D' ∧ feeds l det0 [] = feeds (l.drop i) D'.d out ∧ out.length ≤ 65536 * i ∧ SlO 11 47 (.slice oa out.length oc) out.length (racesCs out) Lo ∧ New w0 Lo ∧ St w0 w (detH D' ++ (Lo ++ H)),
    ⟨l.length, 0, D, [], none, 0, [], by omega, rfl, rfl, rfl, hD, by rw [hD0]; rfl, by simp, SlO.nil 11 47, New.nil w0, h4⟩, ?_⟩
  rintro m ee w5 ⟨i, D', out, oa, oc, Lo, hi, rfl, rfl, hdb, hD', hfeeds, hol, hLo, hLn, h5⟩
  show f15_lb0 _ _ _ _ _ _ _ _ _ _ _ _ _ _ _ _
  rw [f15_lb0_eq, BIf_iff]
  constructor
  · intro hlt
    have hlt : i < l.length := by simpa using hlt
    rw [f15_s1_eq]
    obtain ⟨a, c, hac, hld⟩ := (hrow w5 ((h5.sub hD'.newH).sub hLn)).ldA hlt
    rw [hov] at hac
    obtain ⟨hsa, -⟩ : sa = some a ∧ sc = c := by simpa using hac
    subst hsa
    refine ⟨by omega, by omega, hld _ ?_⟩
    rw [evs_at hlt]
    obtain ⟨ze, hze, hzel⟩ := z35
    rw [hze]
    refine h5.newC fun n31 w6 hn31 h6 => h6.stA (k := 0) rfl (by simp [Evcs_len]) (by simp [hzel]) (Evcs_one _) fun w7 h7 => ?_
    have h7 : St w0 w7 ((n31, Cs (splice ze 0 (Evcs l[i])) 35) :: (detH D' ++ (Lo ++ H))) := h7
    rw [splice_whole (by rw [Evcs_len, hzel])] at h7
    refine h7.ldA (k := 0) (i := 0) rfl (by simp [Evcs_len]) ?_
    have hdrop : l.drop i = l[i] :: l.drop (i + 1) := List.drop_eq_getElem_cons hlt
    rw [← hdb]
    refine feed_ok (R0 := (n31, Cs (Evcs l[i]) 35) :: (Lo ++ H)) (h7.perm List.perm_middle.symm) hD' (fun d' x hf w8 h8 => ⟨none, 0, 0, x, rfl, ?_⟩) (fun d' xs hf w8 D'' xv Lx hd'' hD'' hdb'' hS hN h8 => ?_)
    · have hx0 : x ≠ 0 := by rcases feed_err hf with rfl | rfl <;> omega
      rw [show (x != 0) = true by simpa using hx0, BIf_true]
      refine herr ?_ w8 ((((h8.sub hD'.newH).tail hn31)).sub hLn)
      unfold Mo.fed
      rw [hfeeds, hdrop, feeds, hf]
    · obtain ⟨xa, xc, hxv⟩ := hS.form
      refine ⟨xa, xs.length, xc, 0, by rw [hxv], ?_⟩
      rw [show ((0 : Int) != 0) = false by decide, BIf_false, f15_s2_eq]
      have h8' : St w0 w8 (detH D'' ++ (Lo ++ (Lx ++ H))) := by
        refine St.sub (L := [(n31, Cs (Evcs l[i]) 35)]) (h8.perm (perm_by fun c => ?_)) (by simpa [New] using hn31)
        simp only [List.map_append, List.map_cons, List.map_nil, List.sum_append, List.sum_cons, List.sum_nil]
        omega
      obtain ⟨v', w9, Lo', hr, hS', hN', h9⟩ := out_append h8' hLo hLn hS hN ⟨by omega, feed_len hf⟩
      obtain ⟨va, vc, hv'⟩ := hS'.form
      rw [hv'] at hS'
      rw [hxv, hv'] at hr
      refine ⟨va, _, vc, w9, hr, ?_⟩
      rw [f15_s3_eq]
      refine ⟨l.length - (i + 1), by omega, i + 1, D'', out ++ xs, va, vc, Lo', by omega, rfl, ?_, by rw [hdb'', hdb], hD'', ?_, ?_, hS', hN', h9⟩
      · rw [wrap_i64 (by omega) (by omega), hdb]; rfl
      · rw [hfeeds, hdrop, feeds, hf, hd'']
      · have := feed_len hf
        simp only [List.length_append]; omega
  · intro hge
    have : i = l.length := by simp at hge; omega
    subst this
    rw [List.drop_length] at hfeeds
    have hfeeds : feeds l det0 [] = .inl out := hfeeds
    rw [f15_s4_eq]
    refine hsort (h5.sub hD'.newH) hLo (feeds_nodup hfeeds) (by omega) fun w6 Lo' hS' hN' h6 => ⟨rfl, ?_⟩
    refine hok (out.mergeSort raceLe) (by unfold Mo.fed; rw [hfeeds]) (by rw [List.length_mergeSort]; omega) w6 _ Lo' ?_ (hN' hLn) h6
    rw [List.length_mergeSort]
    exact hS'
end Go.Fx.Try
