/- The model of package race in plain Lean, and its laws. -/
import GoSem.Core.View
import Derived.Test.YtamciedmojpjaaaGf
import Derived.KernelRfl
namespace Go.Fx.Mo

structure Acc where
  ev : Int
  th : Int
  pc : Int
  st : Bool
  at' : Bool
  deriving DecidableEq, Inhabited
structure Ev where
  kind : Int
  th : Int
  pc : Int
  a : Int
  b : Int
  n : Int
  deriving DecidableEq, Inhabited
structure Race where
  byte : Int
  first : Acc
  second : Acc
  deriving DecidableEq, Inhabited
structure Ord where
  kind : Int
  th : Int
  other : Int
  obj : Int
  deriving DecidableEq, Inhabited
abbrev Clk := List Int
abbrev Ob := Bool × Int
def w64 (x : Int) : Int := IntKind.wrap .i64 x
def w32 (x : Int) : Int := IntKind.wrap .u32 x

section assoc
variable {K V : Type} [DecidableEq K]
def look (m : List (K × V)) (k : K) : Option V := (m.find? fun p => p.1 == k).map (·.2)
def put (m : List (K × V)) (k : K) (v : V) : List (K × V) := match look m k with
  | some _ => m.map fun p => if p.1 = k then (p.1, v) else p
  | none => m ++ [(k, v)]
def putAll (m : List (K × V)) : List (K × V) → List (K × V)
  | [] => m
  | p :: r => putAll (put m p.1 p.2) r
end assoc

def conflict (a b : Acc) : Bool := a.th != b.th && (a.st || b.st) && !(a.at' && b.at')
def kind (a : Acc) : Int := if a.at' then 2 else if a.st then 1 else 0
/-- store, atomic, is -/
def accesses (e : Ev) : Bool × Bool × Bool :=
  if e.kind = 2 ∨ e.kind = 23 then (false, false, true) else if e.kind = 3 ∨ e.kind = 22 then (true, false, true) else if e.kind = 4 then (true, true, true) else (false, false, false)
def joinC (c d : Clk) : Clk := List.zipWith (fun x y => if y > x then y else x) c d
def zeroC : Clk := List.replicate 8 0
/-- The addresses of a range. -/
def bytes (a n : Int) : List Int := (List.range n.toNat).map fun i : Nat => w32 (a + w32 (i : Int))

structure Th where
  clocks : List Clk
  begun : List Bool
  ended : List Bool
  rels : List Int
  objs : List (Ob × Clk)
  names : List (Ob × Int)
  deriving DecidableEq, Inhabited
def begin' : Th := { clocks := List.replicate 8 zeroC, begun := true :: List.replicate 7 false, ended := List.replicate 8 false, rels := List.replicate 8 0, objs := [], names := [] }
structure Pl where
  orders : List Ord
  own : Clk
  tk : Int
  objs : List (Ob × Clk)
  names : List (Ob × Int)
  fork : Int
  ends : Int
  rel : Bool
  bad : Bool
  deriving DecidableEq, Inhabited

def at0 (l : List Int) (i : Int) : Int := l.getD i.toNat 0
def tick (e : Ev) (p : Pl) (o : Ord) : Pl :=
  let own := p.own.set e.th.toNat (w64 (at0 p.own e.th + 1))
  { p with orders := p.orders ++ [{ o with th := e.th }], own, tk := if p.tk = 0 then at0 own e.th else p.tk }
def number (T : Th) (p : Pl) (x : Ob) : Int × Pl := match look T.names x with
  | some n => (n, p)
  | none => match look p.names x with
    | some n => (n, p)
    | none =>
      let n := w64 (T.names.length + p.names.length)
      (n, { p with names := put p.names x n, bad := p.bad || decide (n ≥ 65536) })
def clockOf (T : Th) (p : Pl) (x : Ob) : Clk := match look p.objs x with
  | some c => c
  | none => (look T.objs x).getD zeroC
def acquire (T : Th) (p : Pl) (x : Ob) : Pl := { p with own := joinC p.own (clockOf T p x) }
def release (T : Th) (p : Pl) (x : Ob) : Pl := { p with objs := put p.objs x (joinC (clockOf T p x) p.own), rel := true }
def step (e : Ev) (p : Pl) : Pl := tick e p ⟨1, 0, 0, 0⟩
def atomic1 (T : Th) (e : Ev) (x : Ob) (p : Pl) : Pl :=
  let (n, p) := number T p x
  release T (tick e (acquire T p x) ⟨4, 0, 0, n⟩) x
def atomicL (T : Th) (e : Ev) : List Int → Ob → Pl → Pl
  | [], _, p => p
  | a :: r, last, p =>
    let x : Ob := (true, w32 (a.tdiv 4))
    if x = last then atomicL T e r last p else atomicL T e r x (atomic1 T e x p)
def atomic (T : Th) (e : Ev) (p : Pl) : Pl := atomicL T e (bytes e.a e.n) (false, 0) p
def getB (l : List Bool) (i : Int) : Bool := l.getD i.toNat false
def getC (l : List Clk) (i : Int) : Clk := l.getD i.toNat zeroC
def otherIs (e : Ev) : Bool := decide (e.n ≥ 0) && decide (e.n < 8)
def spawn (T : Th) (e : Ev) (p : Pl) : Pl :=
  if !otherIs e || getB T.begun e.n then { p with bad := true } else
  { tick e p ⟨5, 0, e.n, 0⟩ with fork := e.n, rel := true }
def join (T : Th) (e : Ev) (p : Pl) : Pl :=
  if !otherIs e || !getB T.begun e.n || getB T.ended e.n || e.n == e.th then { p with bad := true } else
  { tick e { p with own := joinC p.own (getC T.clocks e.n) } ⟨6, 0, e.n, 0⟩ with ends := e.n }
def lock (T : Th) (e : Ev) (p : Pl) : Pl :=
  let x : Ob := (false, e.a)
  let (n, p) := number T p x
  tick e (acquire T p x) ⟨3, 0, 0, n⟩
def unlock (T : Th) (e : Ev) (p : Pl) : Pl :=
  let x : Ob := (false, e.a)
  let (n, p) := number T p x
  release T (tick e p ⟨2, 0, 0, n⟩) x
def act (T : Th) (e : Ev) (p : Pl) : Pl :=
  if e.kind = 4 then atomic T e p else if e.kind = 11 then spawn T e p else if e.kind = 13 then join T e p else if e.kind = 14 then lock T e p else if e.kind = 15 then unlock T e p else step e p
def refused (T : Th) (e : Ev) : Bool :=
  decide (e.kind < 1) || decide (e.kind > 24) || decide (e.th < 0) || decide (e.th ≥ 8) || !getB T.begun e.th || getB T.ended e.th ||
  (accesses e).2.2 && (decide (e.n < 0) || decide (e.n > 65536)) || (accesses e).2.1 && (decide (e.n < 1) || decide (e.n > 16))
def pl0 (T : Th) (e : Ev) : Pl := { orders := [], own := getC T.clocks e.th, tk := 0, objs := [], names := [], fork := -1, ends := -1, rel := false, bad := false }
def plan (T : Th) (e : Ev) : Option Pl :=
  if refused T e then none else if (act T e (pl0 T e)).bad then none else some (act T e (pl0 T e))
def perform (T : Th) (e : Ev) (p : Pl) : Th :=
  let T := { T with clocks := T.clocks.set e.th.toNat p.own, objs := putAll T.objs p.objs, names := putAll T.names p.names }
  let T := if p.fork ≥ 0 then { T with begun := T.begun.set p.fork.toNat true, clocks := T.clocks.set p.fork.toNat (joinC (getC T.clocks p.fork) p.own) } else T
  let T := if p.ends ≥ 0 then { T with ended := T.ended.set p.ends.toNat true } else T
  if p.rel then { T with rels := T.rels.set e.th.toNat (w64 (at0 T.rels e.th + 1)) } else T

structure Past where
  acc : Acc
  tick : Int
  deriving DecidableEq, Inhabited
structure Cell where
  l : List Past
  last : List Int
  deriving DecidableEq, Inhabited
def cell0 : Cell := ⟨[], List.replicate 24 0⟩
def Cell.race (c : Cell) (a : Acc) (own : Clk) : Option Acc := (c.l.find? fun p => conflict p.acc a && decide (at0 own p.acc.th < p.tick)).map (·.acc)
def Cell.remember (c : Cell) (a : Acc) (tick rel : Int) : Cell :=
  let i := a.th.toNat * 3 + (kind a).toNat
  if c.last.getD i 0 = w64 (rel + 1) then c else { l := c.l ++ [⟨a, tick⟩], last := c.last.set i (w64 (rel + 1)) }
structure Det where
  th : Th
  many : Int
  cells : List (Int × Cell)
  told : List (Int × Bool)
  deriving DecidableEq, Inhabited
def det0 : Det := ⟨begin', 0, [], []⟩
/-- The first pass: races and how many bytes are new; none: too many. -/
def scan (d : Det) (a : Acc) (own : Clk) : List Int → List Race → Int → Option (List Race)
  | [], out, _ => some out
  | b :: r, out, fresh => match look d.cells b with
    | none => if w64 (d.cells.length + w64 (fresh + 1)) > 20000 then none else scan d a own r out (w64 (fresh + 1))
    | some c => if (look d.told b).getD false then scan d a own r out fresh else
      match c.race a own with
      | some x => scan d a own r (out ++ [⟨b, x, a⟩]) fresh
      | none => scan d a own r out fresh
def keep (a : Acc) (tick rel : Int) (told : List (Int × Bool)) : List Int → List (Int × Cell) → List (Int × Cell)
  | [], cs => cs
  | b :: r, cs =>
    let c := (look cs b).getD cell0
    keep a tick rel told r (if (look told b).getD false then (match look cs b with
      | none => put cs b cell0
      | some _ => cs) else put cs b (c.remember a tick rel))
def tell : List Race → List (Int × Cell) → List (Int × Bool) → List (Int × Cell) × List (Int × Bool)
  | [], cs, ts => (cs, ts)
  | x :: r, cs, ts => tell r (put cs x.byte { (look cs x.byte).getD cell0 with l := [] }) (put ts x.byte true)
def accOf (d : Det) (e : Ev) : Acc := ⟨d.many, e.th, e.pc, (accesses e).1, (accesses e).2.1⟩
/-- What Feed does: the detector behind it, the races; or an error's number. -/
def feed (d : Det) (e : Ev) : Det × (List Race ⊕ Int) :=
  if d.many ≥ 20000 then (d, .inr 2) else
  match plan d.th e with
  | none => (d, .inr 300)
  | some p =>
    let a := accOf d e
    let bs := if (accesses e).2.2 then bytes e.a e.n else []
    match scan d a p.own bs [] 0 with
    | none => (d, .inr 2)
    | some out =>
      if w64 (d.told.length + out.length) > 1000 then (d, .inr 2) else
      let cs := keep a p.tk (at0 d.th.rels e.th) d.told bs d.cells
      let (cs, ts) := tell out cs d.told
      ({ th := perform d.th e p, many := w64 (d.many + 1), cells := cs, told := ts }, .inl out)

structure Made where
  first : Int
  last : Clk
  deriving DecidableEq, Inhabited
structure Hist where
  orders : List Ord
  of : List Int
  events : List Made
  deriving DecidableEq, Inhabited
def runL : List Ev → Int → Th → Hist → Option Hist
  | [], _, _, h => some h
  | e :: r, i, T, h => match plan T e with
    | none => none
    | some p => runL r (i + 1) (perform T e p) ⟨h.orders ++ p.orders, h.of ++ List.replicate p.orders.length i, h.events ++ [⟨p.tk, p.own⟩]⟩
/-- The history of events, or an error's number. -/
def run (l : List Ev) : Hist ⊕ Int := if l.length > 20000 then .inr 2 else match runL l 0 begin' ⟨[], [], []⟩ with
  | some h => .inl h
  | none => .inr 300
def feeds : List Ev → Det → List Race → List Race ⊕ Int
  | [], _, out => .inl out
  | e :: r, d, out => match feed d e with
    | (_, .inr x) => .inr x
    | (d, .inl x) => feeds r d (out ++ x)
def raceLe (a b : Race) : Bool := decide (a.second.ev < b.second.ev) || a.second.ev == b.second.ev && decide (a.byte ≤ b.byte)
def races (l : List Ev) : List Race ⊕ Int := match run l with
  | .inr x => .inr x
  | .inl _ => match feeds l det0 [] with
    | .inr x => .inr x
    | .inl out => .inl (out.mergeSort raceLe)

/-! The chapter's examples, by the model. -/
def ev (k t a n : Int) : Ev := ⟨k, t, 0, a, 0, n⟩
def firsts (l : List Ev) : Option (List (Int × Int × Int)) := match races l with
  | .inl x => some (x.map fun r => (r.byte, r.first.ev, r.second.ev))
  | .inr _ => none
end Go.Fx.Mo
namespace Go.Fx.Mo
variable {K V : Type} [DecidableEq K]
theorem look_none {m : List (K × V)} {k : K} : look m k = none ↔ ∀ p ∈ m, p.1 ≠ k := by simp [look]
theorem put_keys_mem {m : List (K × V)} {k : K} {v : V} {x : K} : x ∈ (put m k v).map (·.1) ↔ x ∈ m.map (·.1) ∨ x = k := by
  unfold put
  split
  · rename_i u hu
    have e : (m.map fun p => if p.1 = k then (p.1, v) else p).map (·.1) = m.map (·.1) := by
      rw [List.map_map]; apply List.map_congr_left; intro p _; simp only [Function.comp_def]; split <;> rfl
    rw [e]
    have hk : k ∈ m.map (·.1) := by
      cases hn : look m k with
      | none => rw [hn] at hu; cases hu
      | some u' =>
        unfold look at hn
        obtain ⟨q, hq, _⟩ := Option.map_eq_some_iff.1 hn
        have h1 := List.mem_of_find?_eq_some hq
        have h2 := List.find?_some hq
        exact List.mem_map.2 ⟨q, h1, by simpa using h2⟩
    constructor
    · exact .inl
    · rintro (h | h)
      · exact h
      · rw [h]; exact hk
  · simp
theorem look_map_if (m : List (K × V)) (a : K) (v : V) (k : K) : look (m.map fun p => if p.1 = a then (p.1, v) else p) k = if k = a then (look m k).map (fun _ => v) else look m k := by
  induction m with
  | nil => simp [look]
  | cons p r ih =>
    unfold look at *
    simp only [List.map_cons, List.find?_cons]
    by_cases hp : p.1 = a
    · by_cases hk : p.1 = k
      · simp [hp, hk ▸ hp]
      · have : (p.1 == k) = false := by simpa using hk
        simp only [hp, if_true]
        rw [← hp, this]
        simpa [hp] using ih
    · simp only [hp, if_false]
      by_cases hk : p.1 = k
      · have : ¬ k = a := fun h => hp (hk.trans h)
        simp [hk, this]
      · have : (p.1 == k) = false := by simpa using hk
        rw [this]
        exact ih
theorem look_append (m : List (K × V)) (a : K) (v : V) (k : K) : look (m ++ [(a, v)]) k = (look m k).or (if a = k then some v else none) := by
  unfold look
  rw [List.find?_append]
  cases List.find? (fun p => p.1 == k) m with
  | some q => simp
  | none => by_cases h : a = k <;> simp [h]
theorem put_comm (m : List (K × V)) {a b : K} (hab : a ≠ b) (u v : V) : (put (put m a u) b v).Perm (put (put m b v) a u) := by
  have key : ∀ (a b : K) (u v : V), a ≠ b → ∀ x, look m a = some x → look m b = none → put (put m a u) b v = put (put m b v) a u := by
    intro a b u v hab x ha hb
    have e1 : put m a u = m.map fun p => if p.1 = a then (p.1, u) else p := by simp [put, ha]
    have e2 : put m b v = m ++ [(b, v)] := by simp [put, hb]
    rw [e1, e2]
    have l1 : look (m.map fun p => if p.1 = a then (p.1, u) else p) b = none := by rw [look_map_if, if_neg (Ne.symm hab), hb]
    have l2 : look (m ++ [(b, v)]) a = some x := by rw [look_append, ha]; rfl
    simp [put, l1, l2, Ne.symm hab]
  cases ha : look m a with
  | some x =>
    cases hb : look m b with
    | some y =>
      have e1 : put m a u = m.map fun p => if p.1 = a then (p.1, u) else p := by simp [put, ha]
      have e2 : put m b v = m.map fun p => if p.1 = b then (p.1, v) else p := by simp [put, hb]
      rw [e1, e2]
      have l1 : look (m.map fun p => if p.1 = a then (p.1, u) else p) b = some y := by rw [look_map_if, if_neg (Ne.symm hab), hb]
      have l2 : look (m.map fun p => if p.1 = b then (p.1, v) else p) a = some x := by rw [look_map_if, if_neg hab, ha]
      have : put (m.map fun p => if p.1 = a then (p.1, u) else p) b v = put (m.map fun p => if p.1 = b then (p.1, v) else p) a u := by
        simp only [put, l1, l2, List.map_map]
        apply List.map_congr_left
        intro p _
        simp only [Function.comp_def]
        by_cases h1 : p.1 = a
        · have : ¬ p.1 = b := fun h => hab (h1.symm.trans h)
          simp [h1, hab]
        · by_cases h2 : p.1 = b <;> simp [h1, h2, Ne.symm hab]
      rw [this]
    | none => rw [key a b u v hab x ha hb]
  | none =>
    cases hb : look m b with
    | some y => rw [key b a v u (Ne.symm hab) y hb ha]
    | none =>
      have e1 : put m a u = m ++ [(a, u)] := by simp [put, ha]
      have e2 : put m b v = m ++ [(b, v)] := by simp [put, hb]
      rw [e1, e2]
      have l1 : look (m ++ [(a, u)]) b = none := by rw [look_append, hb]; simp [hab]
      have l2 : look (m ++ [(b, v)]) a = none := by rw [look_append, ha]; simp [Ne.symm hab]
      simp only [put, l1, l2, List.append_assoc]
      exact List.Perm.append_left m (List.Perm.swap _ _ _)
theorem put_perm {m m' : List (K × V)} (h : m.Perm m') (k : K) (v : V) : (put m k v).Perm (put m' k v) := by
  have hiff : look m k = none ↔ look m' k = none := by
    rw [look_none, look_none]
    exact ⟨fun hh p hp => hh p (h.mem_iff.2 hp), fun hh p hp => hh p (h.mem_iff.1 hp)⟩
  cases h1 : look m k with
  | none =>
    have h2 := hiff.1 h1
    simp only [put, h1, h2]
    exact h.append_right _
  | some x =>
    cases h2 : look m' k with
    | none => rw [hiff.2 h2] at h1; cases h1
    | some y =>
      simp only [put, h1, h2]
      exact h.map _
theorem putAll_perm {m m' : List (K × V)} (u : List (K × V)) (h : m.Perm m') : (putAll m u).Perm (putAll m' u) := by
  induction u generalizing m m' with
  | nil => exact h
  | cons p r ih => exact ih (put_perm h p.1 p.2)
theorem putAll_append (m u u' : List (K × V)) : putAll m (u ++ u') = putAll (putAll m u) u' := by
  induction u generalizing m with
  | nil => rfl
  | cons p r ih => exact ih _
theorem putAll_order {u u' : List (K × V)} (h : u.Perm u') : (u.map (·.1)).Nodup → ∀ m : List (K × V), (putAll m u).Perm (putAll m u') := by
  induction h with
  | nil => intro _ m; exact .refl _
  | cons p _ ih => intro hn m; exact ih (by simp at hn; exact hn.2) _
  | swap p q l =>
    intro hn m
    simp only [List.map_cons, List.nodup_cons, List.mem_cons, not_or] at hn
    exact putAll_perm l (put_comm m (fun e => hn.1.1 e) q.2 p.2)
  | trans h1 _ ih1 ih2 => intro hn m; exact (ih1 hn m).trans (ih2 ((h1.map _).nodup_iff.1 hn) m)
end Go.Fx.Mo
namespace Go.Fx.Mo
theorem put_look {K V : Type} [DecidableEq K] (m : List (K × V)) (a : K) (v : V) (k : K) : look (put m a v) k = if k = a then some v else look m k := by
  unfold put
  split
  · rename_i u hu
    rw [look_map_if]
    by_cases hk : k = a
    · subst hk; simp [hu]
    · simp [hk]
  · rename_i hu
    rw [look_append]
    by_cases hk : k = a
    · subst hk; simp [hu]
    · simp [hk, Ne.symm hk]
theorem scan_mem {d : Det} {a : Acc} {own : Clk} : ∀ {bs : List Int} {out out' : List Race} {n : Int}, scan d a own bs out n = some out' →
    ∃ ext, out' = out ++ ext ∧ (ext.map (·.byte)).Sublist bs ∧ ∀ r ∈ ext, r.second = a ∧ (look d.told r.byte).getD false = false ∧ ∃ c, look d.cells r.byte = some c ∧ c.race a own = some r.first
  | [], out, out', n, h => by
    simp [scan] at h
    exact ⟨[], by simp [h], by simp, by simp⟩
  | b :: r, out, out', n, h => by
    unfold scan at h
    split at h
    · split at h
      · cases h
      · obtain ⟨ext, h1, h2, h3⟩ := scan_mem h
        exact ⟨ext, h1, h2.cons _, h3⟩
    · rename_i c hc
      split at h
      · obtain ⟨ext, h1, h2, h3⟩ := scan_mem h
        exact ⟨ext, h1, h2.cons _, h3⟩
      · rename_i ht
        split at h
        · rename_i x hx
          obtain ⟨ext, h1, h2, h3⟩ := scan_mem h
          refine ⟨⟨b, x, a⟩ :: ext, by simp [h1], by simpa using h2, fun q hq => ?_⟩
          rcases List.mem_cons.1 hq with rfl | hq
          · exact ⟨rfl, by simpa using ht, c, hc, hx⟩
          · exact h3 q hq
        · obtain ⟨ext, h1, h2, h3⟩ := scan_mem h
          exact ⟨ext, h1, h2.cons _, h3⟩
theorem tell_told : ∀ (out : List Race) (cs : List (Int × Cell)) (ts : List (Int × Bool)) (b : Int), (look (tell out cs ts).2 b).getD false = ((look ts b).getD false || out.any fun r => r.byte == b)
  | [], cs, ts, b => by simp [tell]
  | x :: r, cs, ts, b => by
    rw [tell, tell_told r, put_look]
    by_cases hb : b = x.byte
    · simp [hb]
    · have : (x.byte == b) = false := by simpa using Ne.symm hb
      simp [hb, this]
/-- A step of the detector, taken apart. -/
theorem feed_inl {d d' : Det} {e : Ev} {out : List Race} (h : feed d e = (d', .inl out)) : ∃ p, plan d.th e = some p ∧ d.many < 20000 ∧
    scan d (accOf d e) p.own (if (accesses e).2.2 then bytes e.a e.n else []) [] 0 = some out ∧ w64 (d.told.length + out.length) ≤ 1000 ∧
    d' = (let t := tell out (keep (accOf d e) p.tk (at0 d.th.rels e.th) d.told (if (accesses e).2.2 then bytes e.a e.n else []) d.cells) d.told
      { th := perform d.th e p, many := w64 (d.many + 1), cells := t.1, told := t.2 }) := by
  unfold feed at h
  split at h
  · simp at h
  · rename_i hm
    split at h
    · simp at h
    · rename_i p hp
      simp only at h
      split at h
      · simp at h
      · rename_i out' hs
        split at h
        · simp at h
        · rename_i hl
          simp only [Prod.mk.injEq, Sum.inl.injEq] at h
          obtain ⟨h1, rfl⟩ := h
          exact ⟨p, hp, by omega, hs, by omega, h1.symm⟩
theorem feed_inr {d d' : Det} {e : Ev} {x : Int} (h : feed d e = (d', .inr x)) : d' = d := by
  unfold feed at h
  split at h
  · simp at h; exact h.1.symm
  · split at h
    · simp at h; exact h.1.symm
    · simp only at h
      split at h
      · simp at h; exact h.1.symm
      · split at h
        · simp at h; exact h.1.symm
        · simp at h
theorem feeds_cons {e : Ev} {r : List Ev} {d : Det} {out out' : List Race} (h : feeds (e :: r) d out = .inl out') : ∃ d1 x, feed d e = (d1, .inl x) ∧ feeds r d1 (out ++ x) = .inl out' := by
  unfold feeds at h
  split at h
  · cases h
  · rename_i d1 x hf; exact ⟨d1, x, hf, h⟩
/-- What is refused in a history is refused by a detector. -/
theorem run_feeds : ∀ (l : List Ev) (i : Int) (T : Th) (h : Hist) (d : Det) (out : List Race), d.th = T → runL l i T h = none → ∃ x, feeds l d out = .inr x
  | [], i, T, h, d, out, _, hr => by simp [runL] at hr
  | e :: r, i, T, h, d, out, ht, hr => by
    unfold feeds
    split
    · exact ⟨_, rfl⟩
    · rename_i d1 x hf
      obtain ⟨p, hp, _, _, _, rfl⟩ := feed_inl hf
      unfold runL at hr
      rw [← ht, hp] at hr
      exact run_feeds r (i + 1) (perform d.th e p) ⟨h.orders ++ p.orders, h.of ++ List.replicate p.orders.length i, h.events ++ [⟨p.tk, p.own⟩]⟩ _ _ rfl hr
theorem w32_nodup {a : Int} {n : Nat} (hn : n ≤ 4294967296) : ((List.range n).map fun i : Nat => w32 (a + w32 (i : Int))).Nodup := by
  rw [List.nodup_iff_pairwise_ne, List.pairwise_map]
  refine List.Pairwise.imp_of_mem ?_ (List.nodup_iff_pairwise_ne.1 List.nodup_range)
  intro i j hi hj hij h
  have hi : i < n := by simpa using hi
  have hj : j < n := by simpa using hj
  simp only [w32, IntKind.wrap, IntKind.bits, IntKind.signed] at h
  simp at h
  omega
theorem bytes_nodup {a n : Int} (hn : n ≤ 65536) : (bytes a n).Nodup := w32_nodup (by omega)
theorem refused_n {T : Th} {e : Ev} (h : refused T e = false) (hi : (accesses e).2.2 = true) : 0 ≤ e.n ∧ e.n ≤ 65536 := by
  unfold refused at h
  simp only [Bool.or_eq_false_iff, decide_eq_false_iff_not, Bool.and_eq_false_iff] at h
  obtain ⟨⟨_, h7⟩, _⟩ := h
  rcases h7 with h7 | h7
  · rw [hi] at h7; cases h7
  · omega
theorem plan_refused {T : Th} {e : Ev} {p : Pl} (h : plan T e = some p) : refused T e = false := by
  unfold plan at h
  split at h
  · cases h
  · rename_i hr; simpa using hr
/-- No byte is told twice. -/
theorem feeds_bytes : ∀ (l : List Ev) (d : Det) (out out' : List Race), feeds l d out = .inl out' → (out.map (·.byte)).Nodup → (∀ r ∈ out, (look d.told r.byte).getD false = true) → (out'.map (·.byte)).Nodup
  | [], d, out, out', h, hn, _ => by simp [feeds] at h; rw [← h]; exact hn
  | e :: r, d, out, out', h, hn, ht => by
    obtain ⟨d1, x, hf, h⟩ := feeds_cons h
    obtain ⟨p, hp, _, hs, _, rfl⟩ := feed_inl hf
    obtain ⟨ext, rfl, hsub, hx⟩ := scan_mem hs
    refine feeds_bytes r _ _ _ h ?_ ?_
    · rw [List.map_append]
      refine List.nodup_append.2 ⟨hn, hsub.nodup ?_, ?_⟩
      · split
        · rename_i hi
          exact bytes_nodup (refused_n (plan_refused hp) hi).2
        · exact List.nodup_nil
      · intro b hb c hc e
        subst e
        obtain ⟨u, hu, rfl⟩ := List.mem_map.1 hb
        obtain ⟨v, hv, e⟩ := List.mem_map.1 hc
        have h1 := ht u hu
        have h2 := (hx v hv).2.1
        rw [e, h1] at h2
        cases h2
    · intro u hu
      simp only [tell_told]
      rcases List.mem_append.1 hu with hu | hu
      · simp [ht u hu]
      · simp only [Bool.or_eq_true]
        exact .inr (List.any_eq_true.2 ⟨u, hu, by simp⟩)
theorem feeds_nodup {l : List Ev} {out : List Race} (h : feeds l det0 [] = .inl out) : (out.map (·.byte)).Nodup := feeds_bytes l det0 [] out h (by simp) (by simp)

/-! Accesses that never conflict. -/
def Quiet (Q : Acc → Prop) (cs : List (Int × Cell)) : Prop := ∀ b c, look cs b = some c → ∀ p ∈ c.l, Q p.acc
theorem Quiet.put {Q : Acc → Prop} {cs : List (Int × Cell)} (h : Quiet Q cs) (b : Int) (c : Cell) (hc : ∀ p ∈ c.l, Q p.acc) : Quiet Q (put cs b c) := by
  intro b' c' hl
  rw [put_look] at hl
  split at hl
  · cases hl; exact hc
  · exact h b' c' hl
theorem Quiet.keep {Q : Acc → Prop} {a : Acc} (ha : Q a) {tk rel : Int} {ts : List (Int × Bool)} : ∀ {bs : List Int} {cs : List (Int × Cell)}, Quiet Q cs → Quiet Q (keep a tk rel ts bs cs)
  | [], cs, h => h
  | b :: r, cs, h => by
    unfold Mo.keep
    refine Quiet.keep ha ?_
    split
    · split
      · exact h.put _ _ (by simp [cell0])
      · exact h
    · refine h.put _ _ fun p hp => ?_
      have hb : ∀ p ∈ ((look cs b).getD cell0).l, Q p.acc := by
        cases hl : look cs b with
        | none => simp [cell0]
        | some c => exact h b c hl
      unfold Cell.remember at hp
      simp only at hp
      split at hp
      · exact hb p hp
      · rcases List.mem_append.1 hp with hp | hp
        · exact hb p hp
        · simp at hp; rw [hp]; exact ha
theorem keep_nil {a : Acc} {tk rel : Int} {ts : List (Int × Bool)} {cs : List (Int × Cell)} : keep a tk rel ts [] cs = cs := rfl
theorem Quiet.tell {Q : Acc → Prop} : ∀ {out : List Race} {cs : List (Int × Cell)} {ts : List (Int × Bool)}, Quiet Q cs → Quiet Q (tell out cs ts).1
  | [], cs, ts, h => h
  | x :: r, cs, ts, h => by
    unfold Mo.tell
    exact Quiet.tell (h.put _ _ (by simp))
theorem feeds_quiet {Q : Acc → Prop} (hQ : ∀ a b, Q a → Q b → conflict a b = false) : ∀ (l : List Ev) (d : Det) (out out' : List Race), (∀ e ∈ l, (accesses e).2.2 = true → ∀ m, Q ⟨m, e.th, e.pc, (accesses e).1, (accesses e).2.1⟩) → Quiet Q d.cells → feeds l d out = .inl out' → out' = out
  | [], d, out, out', _, _, h => by simp [feeds] at h; exact h.symm
  | e :: r, d, out, out', hl, hq, h => by
    obtain ⟨d1, x, hf, h⟩ := feeds_cons h
    obtain ⟨p, hp, _, hs, _, rfl⟩ := feed_inl hf
    obtain ⟨ext, hxe, hsub, hx⟩ := scan_mem hs
    rw [List.nil_append] at hxe
    subst hxe
    have hext : x = [] := by
      cases hext : x with
      | nil => rfl
      | cons u t =>
        rw [hext] at hsub hx
        obtain ⟨_, _, c, hc, hr⟩ := hx u (.head _)
        have hi : (accesses e).2.2 = true := by
          cases hi : (accesses e).2.2 with
          | true => rfl
          | false => rw [hi] at hsub; simp at hsub
        unfold Cell.race at hr
        obtain ⟨q, hq1, _⟩ := Option.map_eq_some_iff.1 hr
        have h1 := List.mem_of_find?_eq_some hq1
        have h2 := List.find?_some hq1
        have := hQ q.acc (accOf d e) (hq _ c hc q h1) (hl e (.head _) hi _)
        simp [this] at h2
    subst hext
    rw [List.append_nil] at h
    refine feeds_quiet hQ r _ out out' (fun e' he' => hl e' (.tail _ he')) ?_ h
    refine Quiet.tell ?_
    cases hi : (accesses e).2.2 with
    | true => exact Quiet.keep (hl e (.head _) hi _) hq
    | false => simpa [Mo.keep] using hq
theorem feeds_quiet0 {Q : Acc → Prop} (hQ : ∀ a b, Q a → Q b → conflict a b = false) {l : List Ev} {out : List Race} (hl : ∀ e ∈ l, (accesses e).2.2 = true → ∀ m, Q ⟨m, e.th, e.pc, (accesses e).1, (accesses e).2.1⟩) (h : feeds l det0 [] = .inl out) : out = [] :=
  feeds_quiet hQ l det0 [] out hl (by intro b c h; simp [det0, look] at h) h
end Go.Fx.Mo
namespace Go.Fx.Mo
theorem w64_small {x : Int} (h1 : -9223372036854775808 ≤ x) (h2 : x < 9223372036854775808) : w64 x = x := wrap_i64 h1 h2
theorem raceLe_iff (a b : Race) : raceLe a b = true ↔ a.second.ev < b.second.ev ∨ a.second.ev = b.second.ev ∧ a.byte ≤ b.byte := by simp [raceLe]
theorem raceLe_trans (a b c : Race) (h1 : raceLe a b = true) (h2 : raceLe b c = true) : raceLe a c = true := by
  rw [raceLe_iff] at *; omega
theorem raceLe_total (a b : Race) : (raceLe a b || raceLe b a) = true := by
  rw [Bool.or_eq_true, raceLe_iff, raceLe_iff]; omega
theorem nodup_inj {l : List Race} (hn : (l.map (·.byte)).Nodup) {a b : Race} (ha : a ∈ l) (hb : b ∈ l) (h : a.byte = b.byte) : a = b := by
  induction l with
  | nil => cases ha
  | cons x r ih =>
    simp only [List.map_cons, List.nodup_cons] at hn
    rcases List.mem_cons.1 ha with ea | ma
    · rcases List.mem_cons.1 hb with eb | mb
      · rw [ea, eb]
      · exact absurd (List.mem_map.2 ⟨b, mb, by rw [← h, ea]⟩) hn.1
    · rcases List.mem_cons.1 hb with eb | mb
      · exact absurd (List.mem_map.2 ⟨a, ma, by rw [h, eb]⟩) hn.1
      · exact ih hn.2 ma mb
/-- Races of different bytes have one order. -/
theorem sort_eq {l s t : List Race} (hn : (l.map (·.byte)).Nodup) (h1 : s.Perm l) (h2 : t.Perm l) (hs : s.Pairwise fun a b => raceLe a b = true) (ht : t.Pairwise fun a b => raceLe a b = true) : s = t := by
  refine List.Perm.eq_of_pairwise (le := fun a b => raceLe a b = true) ?_ hs ht (h1.trans h2.symm)
  intro a b ha hb hab hba
  rw [raceLe_iff] at hab hba
  exact nodup_inj hn (h1.mem_iff.1 ha) (h2.mem_iff.1 hb) (by omega)
theorem sort_is {l s : List Race} (hn : (l.map (·.byte)).Nodup) (h1 : s.Perm l) (hs : s.Pairwise fun a b => raceLe a b = true) : s = l.mergeSort raceLe :=
  sort_eq hn h1 (List.mergeSort_perm _ _) hs (List.pairwise_mergeSort raceLe_trans raceLe_total l)
theorem sort_filter {l : List Race} (hn : (l.map (·.byte)).Nodup) (f : Race → Bool) : (l.mergeSort raceLe).filter f = (l.filter f).mergeSort raceLe :=
  sort_is (hn.sublist (List.filter_sublist.map _)) ((List.mergeSort_perm _ _).filter _) ((List.pairwise_mergeSort raceLe_trans raceLe_total l).filter _)
/-- Events behind one another. -/
theorem feeds_many : ∀ (l : List Ev) (d : Det) (out out' : List Race), 0 ≤ d.many → feeds l d out = .inl out' → ∃ ext, out' = out ++ ext ∧ ∀ r ∈ ext, d.many ≤ r.second.ev ∧ r.second.ev < d.many + l.length
  | [], d, out, out', h0, h => by simp [feeds] at h; exact ⟨[], by simp [h], by simp⟩
  | e :: r, d, out, out', h0, h => by
    obtain ⟨d1, x, hf, h⟩ := feeds_cons h
    obtain ⟨p, hp, hm, hs, _, rfl⟩ := feed_inl hf
    obtain ⟨ext, hxe, _, hx⟩ := scan_mem hs
    rw [List.nil_append] at hxe
    subst hxe
    have e1 : w64 (d.many + 1) = d.many + 1 := w64_small (by omega) (by omega)
    obtain ⟨ext, rfl, h2⟩ := feeds_many r _ _ out' (by simp only [e1]; omega) h
    refine ⟨x ++ ext, by simp, fun q hq => ?_⟩
    simp only [List.length_cons]
    rcases List.mem_append.1 hq with hq | hq
    · rw [(hx q hq).1]; simp only [accOf]; omega
    · have := h2 q hq
      simp only [e1] at this
      omega
theorem feeds_app : ∀ (l m : List Ev) (d : Det) (out : List Race), 0 ≤ d.many →
    (∃ x, feeds l d out = .inr x ∧ feeds (l ++ m) d out = .inr x) ∨ ∃ mid d', feeds l d out = .inl mid ∧ feeds (l ++ m) d out = feeds m d' mid ∧ d'.many = d.many + l.length
  | [], m, d, out, _ => .inr ⟨out, d, rfl, rfl, by simp⟩
  | e :: r, m, d, out, h0 => by
    cases hf : feed d e with
    | mk d1 y =>
      cases y with
      | inr x => exact .inl ⟨x, by simp [feeds, hf], by simp [feeds, hf]⟩
      | inl x =>
        obtain ⟨p, hp, hm, hs, _, he⟩ := feed_inl hf
        have e1 : d1.many = d.many + 1 := by rw [he]; exact w64_small (by omega) (by omega)
        rcases feeds_app r m d1 (out ++ x) (by omega) with ⟨z, h1, h2⟩ | ⟨mid, d', h1, h2, h3⟩
        · exact .inl ⟨z, by simp [feeds, hf, h1], by simp [feeds, hf, h2]⟩
        · exact .inr ⟨mid, d', by simp [feeds, hf, h1], by simp [feeds, hf, h2], by simp; omega⟩
theorem runL_app : ∀ (l m : List Ev) (i : Int) (T : Th) (h : Hist), (runL l i T h = none → runL (l ++ m) i T h = none) ∧ ∀ x, runL (l ++ m) i T h = some x → ∃ y, runL l i T h = some y
  | [], m, i, T, h => ⟨by simp [runL], fun x _ => ⟨h, rfl⟩⟩
  | e :: r, m, i, T, h => by
    simp only [List.cons_append, runL]
    cases plan T e with
    | none => exact ⟨fun _ => rfl, fun x hx => by cases hx⟩
    | some p => exact runL_app r m (i + 1) _ _
/-- The races of a beginning. -/
theorem races_take {l m : List Ev} {x : List Race} (h : races (l ++ m) = .inl x) : races l = .inl (x.filter fun r => !decide (r.second.ev ≥ l.length)) := by
  unfold races run at h ⊢
  split at h
  · cases h
  · rename_i hy hrun
    split at hrun
    · cases hrun
    · rename_i hlen
      split at hrun
      · rename_i hh hr
        have hl : ¬ l.length > 20000 := by simp at hlen; omega
        obtain ⟨y, hy'⟩ := (runL_app l m 0 begin' ⟨[], [], []⟩).2 hh hr
        rw [if_neg hl, hy']
        simp only
        split at h
        · cases h
        · rename_i out hf
          simp only [Sum.inl.injEq] at h
          have hnd := feeds_nodup hf
          rcases feeds_app l m det0 [] (by simp [det0]) with ⟨z, _, h2⟩ | ⟨mid, d', h1, h2, h3⟩
          · rw [h2] at hf; cases hf
          · rw [h2] at hf
            obtain ⟨ext1, he1, hb1⟩ := feeds_many l det0 [] mid (by simp [det0]) h1
            obtain ⟨ext2, he2, hb2⟩ := feeds_many m d' mid out (by rw [h3]; simp [det0]) hf
            rw [h1]
            simp only [Sum.inl.injEq]
            rw [← h, sort_filter hnd, he2]
            congr 1
            rw [List.filter_append]
            have a1 : mid.filter (fun r => !decide (r.second.ev ≥ (l.length : Int))) = mid := by
              rw [List.filter_eq_self]
              intro r hr
              rw [he1, List.nil_append] at hr
              have := hb1 r hr
              simp [det0] at this
              simp; omega
            have a2 : ext2.filter (fun r => !decide (r.second.ev ≥ (l.length : Int))) = [] := by
              rw [List.filter_eq_nil_iff]
              intro r hr
              have := hb2 r hr
              rw [h3] at this
              simp [det0] at this
              simp; omega
            rw [a1, a2, List.append_nil]
      · cases hrun
theorem races_quiet {Q : Acc → Prop} (hQ : ∀ a b, Q a → Q b → conflict a b = false) {l : List Ev} {x : List Race} (hl : ∀ e ∈ l, (accesses e).2.2 = true → ∀ m, Q ⟨m, e.th, e.pc, (accesses e).1, (accesses e).2.1⟩) (h : races l = .inl x) : x = [] := by
  unfold races at h
  split at h
  · cases h
  · split at h
    · cases h
    · rename_i out hf
      simp only [Sum.inl.injEq] at h
      have := feeds_quiet0 hQ hl hf
      subst this
      simpa using h.symm
/-- What a new detector tells of a list, in order. -/
def fed (l : List Ev) : Option (List Race) := match feeds l det0 [] with
  | .inl out => some (out.mergeSort raceLe)
  | .inr _ => none
theorem races_fed {l : List Ev} (hl : l.length ≤ 20000) : match races l with
    | .inl b => fed l = some b
    | .inr _ => fed l = none := by
  unfold races run
  rw [if_neg (by omega)]
  unfold fed
  cases hr : runL l 0 begin' ⟨[], [], []⟩ with
  | none =>
    obtain ⟨x, hx⟩ := run_feeds l 0 begin' _ det0 [] rfl hr
    simp [hx]
  | some h =>
    simp only
    cases hf : feeds l det0 [] with
    | inl out => simp
    | inr x => simp
end Go.Fx.Mo
namespace Go.Fx.Mo
def Same (p q : Pl) : Prop := q.fork = p.fork ∧ q.ends = p.ends
theorem Same.refl (p : Pl) : Same p p := ⟨rfl, rfl⟩
theorem Same.trans {p q r : Pl} (h1 : Same p q) (h2 : Same q r) : Same p r := ⟨h2.1.trans h1.1, h2.2.trans h1.2⟩
theorem tick_same (e : Ev) (p : Pl) (o : Ord) : Same p (tick e p o) := ⟨rfl, rfl⟩
theorem number_same (T : Th) (p : Pl) (x : Ob) : Same p (number T p x).2 := by
  unfold number
  split
  · exact .refl p
  · split
    · exact .refl p
    · exact ⟨rfl, rfl⟩
theorem acquire_same (T : Th) (p : Pl) (x : Ob) : Same p (acquire T p x) := ⟨rfl, rfl⟩
theorem release_same (T : Th) (p : Pl) (x : Ob) : Same p (release T p x) := ⟨rfl, rfl⟩
theorem atomic1_same (T : Th) (e : Ev) (x : Ob) (p : Pl) : Same p (atomic1 T e x p) :=
  (((number_same T p x).trans (acquire_same T _ x)).trans (tick_same e _ _)).trans (release_same T _ x)
theorem atomicL_same (T : Th) (e : Ev) : ∀ (l : List Int) (x : Ob) (p : Pl), Same p (atomicL T e l x p)
  | [], _, p => .refl p
  | a :: r, last, p => by
    unfold atomicL
    simp only
    split
    · exact atomicL_same T e r last p
    · exact (atomic1_same T e _ p).trans (atomicL_same T e r _ _)
theorem act_fork {T : Th} {e : Ev} {p : Pl} (hf : p.fork < 8) (he : p.ends < 8) : (act T e p).fork < 8 ∧ (act T e p).ends < 8 := by
  have key : ∀ {q}, Same p q → q.fork < 8 ∧ q.ends < 8 := fun h => by rw [h.1, h.2]; exact ⟨hf, he⟩
  unfold act
  split
  · exact key (atomicL_same T e _ _ p)
  · split
    · unfold spawn
      split
      · exact ⟨hf, he⟩
      · rename_i h
        simp only [Bool.or_eq_true, not_or] at h
        have : otherIs e = true := by simpa using h.1
        simp [otherIs] at this
        exact ⟨this.2, he⟩
    · split
      · unfold join
        split
        · exact ⟨hf, he⟩
        · rename_i h
          simp only [Bool.or_eq_true, not_or] at h
          have : otherIs e = true := by simpa using h.1.1.1
          simp [otherIs] at this
          exact ⟨hf, this.2⟩
      · split
        · unfold lock
          exact key (((number_same T p _).trans (acquire_same T _ _)).trans (tick_same e _ _))
        · split
          · unfold unlock
            exact key (((number_same T p _).trans (tick_same e _ _)).trans (release_same T _ _))
          · exact ⟨hf, he⟩
theorem plan_fork {T : Th} {e : Ev} {q : Pl} (h : plan T e = some q) : q.fork < 8 ∧ q.ends < 8 := by
  unfold plan at h
  split at h
  · cases h
  · split at h
    · cases h
    · cases h; exact act_fork (by simp [pl0]) (by simp [pl0])
end Go.Fx.Mo
namespace Go.Fx.Mo
set_option maxRecDepth 20000
theorem races_is {l : List Ev} {out : List Race} (hl : l.length ≤ 20000) (hf : feeds l det0 [] = .inl out) (hs : out.Pairwise fun a b => raceLe a b = true) : races l = .inl out := by
  have hs' : out.mergeSort raceLe = out := (sort_is (feeds_nodup hf) (List.Perm.refl _) hs).symm
  unfold races run
  rw [if_neg (by omega)]
  cases hr : runL l 0 begin' ⟨[], [], []⟩ with
  | none =>
    obtain ⟨x, hx⟩ := run_feeds l 0 begin' _ det0 [] rfl hr
    rw [hx] at hf
    cases hf
  | some h =>
    simp only [hf, hs']
def evSpawn : Ev := ev 11 0 0 1
def evStore : Ev := ev 3 0 4096 4
def evLoad : Ev := ev 2 1 4096 4
def evX : Ev := ev 4 0 4096 4
def evY : Ev := ev 4 1 4096 4
def evOther : Ev := ev 3 0 4100 4
def evLate : Ev := ev 2 1 4100 4
def four (i j : Int) (a b : Acc) : List Race := (List.range 4).map fun (k : Nat) => ⟨4096 + (k : Int), { a with ev := i }, { b with ev := j }⟩
def acc (t : Int) (s a : Bool) : Acc := ⟨0, t, 0, s, a⟩
def ex1 : List Ev := [evSpawn, evStore, evLoad]
def ex2 : List Ev := [evStore, evSpawn, evLoad, ev 12 1 0 0, ev 13 0 0 1, evStore]
def ex3 : List Ev := [evSpawn, ev 14 0 5 0, evStore, ev 15 0 5 0, ev 14 1 5 0, evLoad]
def ex4 : List Ev := [evSpawn, ev 14 0 5 0, evStore, ev 15 0 5 0, ev 14 1 6 0, evLoad]
def ex5 : List Ev := [evSpawn, evX, evY]
def ex6 : List Ev := [evSpawn, evX, evLoad]
def ex7 : List Ev := [evSpawn, evOther, evX, evY, evLate]
theorem four_le (i j : Int) (a b : Acc) : (four i j a b).Pairwise fun a b => raceLe a b = true := by
  have : four i j a b = [⟨4096 + 0, { a with ev := i }, { b with ev := j }⟩, ⟨4096 + 1, { a with ev := i }, { b with ev := j }⟩, ⟨4096 + 2, { a with ev := i }, { b with ev := j }⟩, ⟨4096 + 3, { a with ev := i }, { b with ev := j }⟩] := rfl
  rw [this]
  simp [raceLe_iff]
theorem races1 : races ex1 = .inl (four 1 2 (acc 0 true false) (acc 1 false false)) := races_is (by simp [ex1]) (by kernel_rfl) (four_le ..)
theorem races2 : races ex2 = .inl [] := races_is (by simp [ex2]) (by kernel_rfl) (by simp)
theorem races3 : races ex3 = .inl [] := races_is (by simp [ex3]) (by kernel_rfl) (by simp)
theorem races4 : races ex4 = .inl (four 2 5 (acc 0 true false) (acc 1 false false)) := races_is (by simp [ex4]) (by kernel_rfl) (four_le ..)
theorem races5 : races ex5 = .inl [] := races_is (by simp [ex5]) (by kernel_rfl) (by simp)
theorem races6 : races ex6 = .inl (four 1 2 (acc 0 true true) (acc 1 false false)) := races_is (by simp [ex6]) (by kernel_rfl) (four_le ..)
theorem races7 : races ex7 = .inl [] := races_is (by simp [ex7]) (by kernel_rfl) (by simp)
theorem races8 : races [evLoad] = .inr 300 := by kernel_rfl
end Go.Fx.Mo
