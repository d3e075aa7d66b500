/- All, and what it tells of beginnings. -/
import Derived.Test.YtamciedmojpjaaaGg
import Derived.Test.YtamciedmojpjaaaGb
import Derived.KernelRfl
import Derived.Test.YtamciedmojpjaaaGk
namespace Go.Fx.Mo
def w64u (x : Int) : Int := IntKind.wrap .u64 x
/-- The access of event number i to a byte. -/
def accessAt (e : Ev) (i : Int) (b : Int) : Option Acc :=
  if !(accesses e).2.2 || decide (w64u (w32 (b - e.a)) ≥ w64u e.n) then none else some ⟨i, e.th, e.pc, (accesses e).1, (accesses e).2.1⟩
def before (h : Hist) (x : Acc) (j : Nat) : Bool := decide (at0 (h.events.getD j ⟨0, []⟩).last x.th ≥ (h.events.getD x.ev.toNat ⟨0, []⟩).first)
def allIn (h : Hist) (b : Int) (y : Acc) (j : Nat) : List Acc → List Race → Option (List Race)
  | [], out => some out
  | x :: r, out => if !conflict x y || before h x j then allIn h b y j r out else if out.length = 1000 then none else allIn h b y j r (out ++ [⟨b, x, y⟩])
def allL (h : Hist) (b : Int) : List Ev → Nat → List Acc → List Race → Option (List Race)
  | [], _, _, out => some out
  | e :: r, j, had, out => match accessAt e j b with
    | none => allL h b r (j + 1) had out
    | some y => match allIn h b y j had out with
      | none => none
      | some out => allL h b r (j + 1) (had ++ [y]) out
def all (l : List Ev) (b : Int) : List Race ⊕ Int := match run l with
  | .inr x => .inr x
  | .inl h => match allL h b l 0 [] [] with
    | none => .inr 2
    | some out => .inl out
theorem allIn_len {h : Hist} {b : Int} {y : Acc} {j : Nat} : ∀ {had : List Acc} {out out' : List Race}, out.length ≤ 1000 → allIn h b y j had out = some out' → out'.length ≤ 1000
  | [], out, out', h1, hh => by simp [allIn] at hh; rw [← hh]; exact h1
  | x :: r, out, out', h1, hh => by
    unfold allIn at hh
    split at hh
    · exact allIn_len h1 hh
    · split at hh
      · cases hh
      · exact allIn_len (by rw [List.length_append]; simp; omega) hh
theorem runL_facts : ∀ (l : List Ev) (i : Int) (T : Th) (h hh : Hist), runL l i T h = some hh → hh.events.length = h.events.length + l.length ∧ ∀ e ∈ l, 0 ≤ e.th ∧ e.th < 8
  | [], i, T, h, hh, hr => by simp [runL] at hr; subst hr; simp
  | e :: r, i, T, h, hh, hr => by
    unfold runL at hr
    split at hr
    · cases hr
    · rename_i p hp
      obtain ⟨h1, h2⟩ := runL_facts r _ _ _ _ hr
      refine ⟨by rw [h1]; simp; omega, fun x hx => ?_⟩
      rcases List.mem_cons.1 hx with rfl | hx
      · have := plan_refused hp
        unfold refused at this
        simp only [Bool.or_eq_false_iff, decide_eq_false_iff_not] at this
        omega
      · exact h2 x hx
theorem run_facts {l : List Ev} {h : Hist} (hr : run l = .inl h) : h.events.length = l.length ∧ (∀ e ∈ l, 0 ≤ e.th ∧ e.th < 8) ∧ l.length ≤ 20000 := by
  unfold run at hr
  split at hr
  · cases hr
  · rename_i hl
    split at hr
    · rename_i hh hrl
      cases hr
      obtain ⟨h1, h2⟩ := runL_facts _ _ _ _ _ hrl
      exact ⟨by simpa using h1, h2, by omega⟩
    · cases hr
end Go.Fx.Mo
namespace Go.Fx.Mo
theorem feed_300 {d d' : Det} {e : Ev} (h : feed d e = (d', .inr 300)) : plan d.th e = none := by
  unfold feed at h
  split at h
  · simp at h
  · split at h
    · rename_i hp; exact hp
    · simp only at h
      split at h
      · simp at h
      · split at h <;> simp at h
theorem feeds_300 : ∀ (l : List Ev) (i : Int) (T : Th) (h : Hist) (d : Det) (out : List Race), d.th = T → feeds l d out = .inr 300 → runL l i T h = none
  | [], i, T, h, d, out, _, hr => by simp [feeds] at hr
  | e :: r, i, T, h, d, out, ht, hr => by
    unfold feeds at hr
    split at hr
    · rename_i hf
      simp only [Sum.inr.injEq] at hr
      subst hr
      have := feed_300 hf
      unfold runL
      rw [← ht, this]
    · rename_i d1 x hf
      obtain ⟨p, hp, _, _, _, rfl⟩ := feed_inl hf
      unfold runL
      rw [← ht, hp]
      exact feeds_300 r _ _ _ _ _ rfl hr
theorem races_refused {l m : List Ev} {x : Int} (hl : (l ++ m).length ≤ 20000) (h : races (l ++ m) = .inr x) (h3 : races l = .inr 300) : x = 300 := by
  have hn : runL l 0 begin' ⟨[], [], []⟩ = none := by
    unfold races at h3
    split at h3
    · rename_i y hy
      unfold run at hy
      split at hy
      · simp only [List.length_append] at hl; omega
      · split at hy
        · cases hy
        · assumption
    · split at h3
      · rename_i y hy
        simp only [Sum.inr.injEq] at h3
        subst h3
        exact feeds_300 l _ _ _ det0 [] rfl hy
      · cases h3
  have hn2 := (runL_app l m 0 begin' ⟨[], [], []⟩).1 hn
  unfold races run at h
  rw [if_neg (by omega), hn2] at h
  simpa using h.symm
theorem runL_ext : ∀ (l : List Ev) (i : Int) (T : Th) (h x : Hist), runL l i T h = some x → ∃ ext, x.events = h.events ++ ext ∧ ext.length = l.length
  | [], i, T, h, x, hx => by simp [runL] at hx; subst hx; exact ⟨[], by simp, rfl⟩
  | e :: r, i, T, h, x, hx => by
    unfold runL at hx
    split at hx
    · cases hx
    · obtain ⟨ext, h1, h2⟩ := runL_ext r _ _ _ _ hx
      exact ⟨_ :: ext, by rw [h1, List.append_assoc]; rfl, by simp [h2]⟩
theorem runL_app2 : ∀ (l m : List Ev) (i : Int) (T : Th) (h x : Hist), runL (l ++ m) i T h = some x → ∃ y ext, runL l i T h = some y ∧ x.events = y.events ++ ext
  | [], m, i, T, h, x, hx => by
    obtain ⟨ext, h1, _⟩ := runL_ext m i T h x hx
    exact ⟨h, ext, rfl, h1⟩
  | e :: r, m, i, T, h, x, hx => by
    simp only [List.cons_append, runL] at hx ⊢
    cases hp : plan T e with
    | none => rw [hp] at hx; cases hx
    | some p => rw [hp] at hx; simp only at hx ⊢; exact runL_app2 r m (i + 1) _ _ x hx
theorem allIn_congr {h h' : Hist} {b : Int} {y : Acc} {j N : Nat} (hh : ∀ k, k < N → h.events.getD k ⟨0, []⟩ = h'.events.getD k ⟨0, []⟩) (hj : j < N) :
    ∀ (had : List Acc) (out : List Race), (∀ x ∈ had, x.ev.toNat < N) → allIn h b y j had out = allIn h' b y j had out
  | [], out, _ => rfl
  | x :: r, out, hx => by
    unfold allIn
    have e : before h x j = before h' x j := by unfold before; rw [hh j hj, hh _ (hx x (by simp))]
    rw [e, allIn_congr hh hj r out fun q hq => hx q (by simp [hq]), allIn_congr hh hj r _ fun q hq => hx q (by simp [hq])]
theorem accessAt_ev {e : Ev} {i : Int} {b : Int} {y : Acc} (h : accessAt e i b = some y) : y.ev = i ∧ y.th = e.th := by
  unfold accessAt at h
  split at h
  · cases h
  · cases h; exact ⟨rfl, rfl⟩
theorem allL_congr {h h' : Hist} {b : Int} {N : Nat} (hh : ∀ k, k < N → h.events.getD k ⟨0, []⟩ = h'.events.getD k ⟨0, []⟩) :
    ∀ (l : List Ev) (j : Nat) (had : List Acc) (out : List Race), j + l.length ≤ N → (∀ x ∈ had, x.ev.toNat < N) → allL h b l j had out = allL h' b l j had out
  | [], j, had, out, _, _ => rfl
  | e :: r, j, had, out, hj, hx => by
    simp only [List.length_cons] at hj
    unfold allL
    cases ha : accessAt e j b with
    | none => exact allL_congr hh r (j + 1) had out (by omega) hx
    | some y =>
      simp only
      rw [allIn_congr hh (by omega) had out hx]
      cases allIn h' b y j had out with
      | none => rfl
      | some o =>
        refine allL_congr hh r (j + 1) _ o (by omega) fun q hq => ?_
        rcases List.mem_append.1 hq with hq | hq
        · exact hx q hq
        · simp at hq; subst hq; rw [(accessAt_ev ha).1]; simp; omega
theorem allIn_ext {h : Hist} {b : Int} {y : Acc} {j : Nat} : ∀ {had : List Acc} {out out' : List Race}, allIn h b y j had out = some out' → ∃ ext, out' = out ++ ext ∧ ∀ r ∈ ext, r.second = y
  | [], out, out', hh => by simp [allIn] at hh; exact ⟨[], by simp [hh], by simp⟩
  | x :: r, out, out', hh => by
    unfold allIn at hh
    split at hh
    · exact allIn_ext hh
    · split at hh
      · cases hh
      · obtain ⟨ext, h1, h2⟩ := allIn_ext hh
        refine ⟨_ :: ext, by rw [h1, List.append_assoc]; rfl, fun q hq => ?_⟩
        rcases List.mem_cons.1 hq with rfl | hq
        · rfl
        · exact h2 q hq
theorem allL_ext {h : Hist} {b : Int} : ∀ {m : List Ev} {j : Nat} {had : List Acc} {out out' : List Race}, allL h b m j had out = some out' → ∃ ext, out' = out ++ ext ∧ ∀ r ∈ ext, (j : Int) ≤ r.second.ev ∧ r.second.ev < j + m.length
  | [], j, had, out, out', hh => by simp [allL] at hh; exact ⟨[], by simp [hh], by simp⟩
  | e :: r, j, had, out, out', hh => by
    unfold allL at hh
    split at hh
    · obtain ⟨ext, h1, h2⟩ := allL_ext hh
      exact ⟨ext, h1, fun q hq => by have := h2 q hq; simp only [List.length_cons]; omega⟩
    · rename_i y ha
      split at hh
      · cases hh
      · rename_i o hi
        obtain ⟨e1, h1, h2⟩ := allIn_ext hi
        obtain ⟨e2, h3, h4⟩ := allL_ext hh
        refine ⟨e1 ++ e2, by rw [h3, h1, List.append_assoc], fun q hq => ?_⟩
        simp only [List.length_cons]
        rcases List.mem_append.1 hq with hq | hq
        · rw [h2 q hq, (accessAt_ev ha).1]; omega
        · have := h4 q hq; omega
theorem allL_app {h : Hist} {b : Int} : ∀ (l m : List Ev) (j : Nat) (had : List Acc) (out out' : List Race), allL h b (l ++ m) j had out = some out' →
    ∃ mid had', allL h b l j had out = some mid ∧ allL h b m (j + l.length) had' mid = some out'
  | [], m, j, had, out, out', hh => ⟨out, had, rfl, hh⟩
  | e :: r, m, j, had, out, out', hh => by
    simp only [List.cons_append, allL] at hh ⊢
    have ej : j + (e :: r).length = j + 1 + r.length := by simp; omega
    rw [ej]
    cases ha : accessAt e j b with
    | none => rw [ha] at hh; exact allL_app r m (j + 1) had out out' hh
    | some y =>
      rw [ha] at hh
      simp only at hh ⊢
      cases hi : allIn h b y j had out with
      | none => rw [hi] at hh; cases hh
      | some o => rw [hi] at hh; exact allL_app r m (j + 1) _ o out' hh
theorem all_take {l m : List Ev} {b : Int} {x : List Race} (h : all (l ++ m) b = .inl x) : all l b = .inl (x.filter fun r => !decide (r.second.ev ≥ l.length)) := by
  unfold all at h ⊢
  split at h
  · cases h
  · rename_i hy hrun
    split at h
    · cases h
    · rename_i o ho
      simp only [Sum.inl.injEq] at h
      subst h
      have hlen : (l ++ m).length ≤ 20000 := (run_facts hrun).2.2
      unfold run at hrun
      rw [if_neg (by omega)] at hrun
      split at hrun
      · rename_i hz hrl
        cases hrun
        obtain ⟨y, ext, h1, h2⟩ := runL_app2 l m 0 begin' ⟨[], [], []⟩ hy hrl
        have hrl1 : run l = .inl y := by unfold run; rw [if_neg (by simp at hlen; omega), h1]
        have hyl := (run_facts hrl1).1
        rw [hrl1]
        obtain ⟨mid, had', h3, h4⟩ := allL_app l m 0 [] [] o ho
        have h5 : allL y b l 0 [] [] = some mid := by
          rw [← h3]
          refine allL_congr (N := l.length) (fun k hk => ?_) l 0 [] [] (by omega) (by simp)
          rw [h2, List.getD_eq_getElem?_getD, List.getD_eq_getElem?_getD, List.getElem?_append_left (by omega)]
        simp only [h5]
        obtain ⟨e1, h6, h7⟩ := allL_ext h5
        obtain ⟨e2, h8, h9⟩ := allL_ext h4
        rw [List.nil_append] at h6
        rw [h8, List.filter_append]
        have a1 : mid.filter (fun r => !decide (r.second.ev ≥ (l.length : Int))) = mid := List.filter_eq_self.2 fun r hr => by
          have := h7 r (by rw [← h6]; exact hr)
          simp; omega
        have a2 : e2.filter (fun r => !decide (r.second.ev ≥ (l.length : Int))) = [] := List.filter_eq_nil_iff.2 fun r hr => by
          have := h9 r hr
          simp; omega
        rw [a1, a2, List.append_nil]
      · cases hrun
end Go.Fx.Mo
namespace Go.Fx.Try
set_option maxRecDepth 100000
open Go Go.Fx
/-! 32 candling.race.All -/
noncomputable def c32 : Code := match Go.Proofs.Try.f32.body with
  | some c => c
  | none => .skip
noncomputable def rs32 : List ResultVar := Go.Proofs.Try.f32.results.toList
abbrev f32_kb (K : KT) : Exit → YT := bodyK P rs32 K
def f32 (s0a : Option Addr) (s0l s0c : Nat) (x1 : Int) (w : World) (K : KT) : Prop := CS P c32 none [4, 5] [4, 5] (f32_kb K) (env0 72 [(Value.slice s0a s0l s0c), (Value.int .u32 x1)]) w
abbrev f32_k0 (K : KT) : Exit → YT := kseq P (codeAt c32 [0]) (codeAt c32 [1]) none [4, 5] [4, 5] (f32_kb K)
abbrev f32_k1 (K : KT) : Exit → YT := kseq P (codeAt c32 [1, 0]) (codeAt c32 [1, 1]) none [4, 5] [4, 5] (f32_kb K)
abbrev f32_k2 (K : KT) : Exit → YT := kseq P (codeAt c32 [1, 1, 0]) (codeAt c32 [1, 1, 1]) none [4, 5] [4, 5] (f32_kb K)
abbrev f32_k3 (K : KT) : Exit → YT := kseq P (codeAt c32 [1, 1, 0, 0]) (codeAt c32 [1, 1, 0, 1]) none [4, 5, 1, 0, 6] [4, 5] (f32_k2 K)
abbrev f32_k4 (K : KT) : Exit → YT := kseq P (codeAt c32 [1, 1, 0, 1, 0, 0]) (codeAt c32 [1, 1, 0, 1, 0, 1]) none [4, 5, 1, 0, 6] [4, 5] (f32_k2 K)
def f32_s0 (s9a : Option Addr) (s9l s9c : Nat) (x10 x11 : Int) (s12a : Option Addr) (s12l s12c : Nat) (a13 : Addr) (w : World) (K : KT) : Prop := Join (fun e w => CS P (codeAt c32 [1, 1, 1]) none [4, 5] [4, 5] (f32_kb K) e w) (Env.mk 72 [(4, (Value.slice s9a s9l s9c)), (5, (Value.int .i64 x10)), (1, (Value.int .u32 x11)), (0, (Value.slice s12a s12l s12c)), (6, (Value.pointer (some a13)))] []) w
abbrev f32_k5 (K : KT) : Exit → YT := kseq P (codeAt c32 [1, 1, 1, 0]) (codeAt c32 [1, 1, 1, 1]) none [4, 5] [4, 5] (f32_kb K)
abbrev f32_k6 (K : KT) : Exit → YT := kseq P (codeAt c32 [1, 1, 1, 1, 0]) (codeAt c32 [1, 1, 1, 1, 1]) none [4, 5] [4, 5] (f32_kb K)
abbrev f32_k7 (K : KT) : Exit → YT := kseq P (codeAt c32 [1, 1, 1, 1, 1, 0]) (codeAt c32 [1, 1, 1, 1, 1, 1]) none [4, 5] [4, 5] (f32_kb K)
abbrev f32_k8 (K : KT) : Exit → YT := kseq P (codeAt c32 [1, 1, 1, 1, 1, 0, 0]) (codeAt c32 [1, 1, 1, 1, 1, 0, 1]) none [9] [4, 5] (f32_k7 K)
abbrev f32_k9 (K : KT) : Exit → YT := kblock 0 (f32_k7 K)
def f32_lp1 (K : KT) (Y1 : YT) (e : Env) (w : World) : Prop := Join (fun e w => CS P (codeAt c32 [1, 1, 1, 1, 1, 0, 1, 0, 0]) none [4, 5, 9, 25, 8, 1, 0, 6, 24] [4, 5, 9] (kloop [4, 5, 9, 25, 8, 1, 0, 6, 24] Y1 (f32_k9 K)) e w) e w
abbrev f32_kl1 (K : KT) (Y1 : YT) : Exit → YT := kloop [4, 5, 9, 25, 8, 1, 0, 6, 24] Y1 (f32_k9 K)
def f32_lb1 (s15a : Option Addr) (s15l s15c : Nat) (x16 : Int) (s17a : Option Addr) (s17l s17c : Nat) (x18 : Int) (s19a : Option Addr) (s19l s19c : Nat) (x20 : Int) (s21a : Option Addr) (s21l s21c : Nat) (a22 : Addr) (x23 : Int) (w : World) (K : KT) (Y1 : YT) : Prop := Join (fun e w => CS P (codeAt c32 [1, 1, 1, 1, 1, 0, 1, 0, 0]) none [4, 5, 9, 25, 8, 1, 0, 6, 24] [4, 5, 9] (f32_kl1 K Y1) e w) (Env.mk 72 [(4, (Value.slice s15a s15l s15c)), (5, (Value.int .i64 x16)), (9, (Value.slice s17a s17l s17c)), (25, (Value.int .i64 x18)), (8, (Value.slice s19a s19l s19c)), (1, (Value.int .u32 x20)), (0, (Value.slice s21a s21l s21c)), (6, (Value.pointer (some a22))), (24, (Value.int .i64 x23))] []) w
abbrev f32_k10 (K : KT) (Y1 : YT) : Exit → YT := kseq P (codeAt c32 [1, 1, 1, 1, 1, 0, 1, 0, 0, 0]) (codeAt c32 [1, 1, 1, 1, 1, 0, 1, 0, 0, 1]) none [4, 5, 9, 25, 8, 1, 0, 6, 24] [4, 5, 9] (f32_kl1 K Y1)
abbrev f32_k11 (K : KT) (Y1 : YT) : Exit → YT := kseq P (codeAt c32 [1, 1, 1, 1, 1, 0, 1, 0, 0, 1, 0]) (codeAt c32 [1, 1, 1, 1, 1, 0, 1, 0, 0, 1, 1]) none [4, 5, 9, 25, 8, 1, 0, 6, 24] [4, 5, 9] (f32_kl1 K Y1)
def f32_s2 (s24a : Option Addr) (s24l s24c : Nat) (x25 : Int) (s26a : Option Addr) (s26l s26c : Nat) (s27a : Option Addr) (s27l s27c : Nat) (x28 : Int) (s29a : Option Addr) (s29l s29c : Nat) (a30 : Addr) (x31 x32 : Int) (w : World) (K : KT) (Y1 : YT) : Prop := Join (fun e w => CS P (codeAt c32 [1, 1, 1, 1, 1, 0, 1, 0, 0, 1, 1]) none [4, 5, 9, 25, 8, 1, 0, 6, 24] [4, 5, 9] (f32_kl1 K Y1) e w) (Env.mk 72 [(4, (Value.slice s24a s24l s24c)), (5, (Value.int .i64 x25)), (9, (Value.slice s26a s26l s26c)), (8, (Value.slice s27a s27l s27c)), (1, (Value.int .u32 x28)), (0, (Value.slice s29a s29l s29c)), (6, (Value.pointer (some a30))), (24, (Value.int .i64 x31)), (25, (Value.int .i64 x32))] []) w
abbrev f32_k12 (K : KT) (Y1 : YT) : Exit → YT := kseq P (codeAt c32 [1, 1, 1, 1, 1, 0, 1, 0, 0, 1, 1, 0]) (codeAt c32 [1, 1, 1, 1, 1, 0, 1, 0, 0, 1, 1, 1]) none [4, 5, 9, 25, 8, 1, 0, 6, 24] [4, 5, 9] (f32_kl1 K Y1)
abbrev f32_k13 (K : KT) (Y1 : YT) : Exit → YT := kblock 1 (f32_k12 K Y1)
abbrev f32_k14 (K : KT) (Y1 : YT) : Exit → YT := kseq P (codeAt c32 [1, 1, 1, 1, 1, 0, 1, 0, 0, 1, 1, 0, 0, 0]) (codeAt c32 [1, 1, 1, 1, 1, 0, 1, 0, 0, 1, 1, 0, 0, 1]) none [4, 5, 9, 8, 1, 0, 6, 24, 25] [4, 5, 9, 8, 1, 0, 6, 24, 25] (f32_k13 K Y1)
abbrev f32_k15 (K : KT) (Y1 : YT) : Exit → YT := kseq P (codeAt c32 [1, 1, 1, 1, 1, 0, 1, 0, 0, 1, 1, 0, 0, 1, 0]) (codeAt c32 [1, 1, 1, 1, 1, 0, 1, 0, 0, 1, 1, 0, 0, 1, 1]) none [4, 5, 9, 8, 1, 0, 6, 24, 25] [4, 5, 9, 8, 1, 0, 6, 24, 25] (f32_k13 K Y1)
abbrev f32_k16 (K : KT) (Y1 : YT) : Exit → YT := kseq P (codeAt c32 [1, 1, 1, 1, 1, 0, 1, 0, 0, 1, 1, 0, 0, 1, 1, 0]) (codeAt c32 [1, 1, 1, 1, 1, 0, 1, 0, 0, 1, 1, 0, 0, 1, 1, 1]) none [4, 5, 9, 8, 1, 0, 6, 24, 25] [4, 5, 9, 8, 1, 0, 6, 24, 25] (f32_k13 K Y1)
abbrev f32_k17 (K : KT) (Y1 : YT) : Exit → YT := kseq P (codeAt c32 [1, 1, 1, 1, 1, 0, 1, 0, 0, 1, 1, 0, 0, 1, 1, 0, 0]) (codeAt c32 [1, 1, 1, 1, 1, 0, 1, 0, 0, 1, 1, 0, 0, 1, 1, 0, 1]) none [4, 5, 9, 8, 1, 0, 6, 24, 25, 11, 10] [4, 5, 9, 8, 1, 0, 6, 24, 25] (f32_k16 K Y1)
def f32_s3 (s40a : Option Addr) (s40l s40c : Nat) (x41 : Int) (s42a : Option Addr) (s42l s42c : Nat) (s43a : Option Addr) (s43l s43c : Nat) (x44 : Int) (s45a : Option Addr) (s45l s45c : Nat) (a46 : Addr) (x47 x48 : Int) (w : World) (K : KT) (Y1 : YT) : Prop := Join (fun e w => CS P (codeAt c32 [1, 1, 1, 1, 1, 0, 1, 0, 0, 1, 1, 1]) none [4, 5, 9, 25, 8, 1, 0, 6, 24] [4, 5, 9] (f32_kl1 K Y1) e w) (Env.mk 72 [(4, (Value.slice s40a s40l s40c)), (5, (Value.int .i64 x41)), (9, (Value.slice s42a s42l s42c)), (8, (Value.slice s43a s43l s43c)), (1, (Value.int .u32 x44)), (0, (Value.slice s45a s45l s45c)), (6, (Value.pointer (some a46))), (24, (Value.int .i64 x47)), (25, (Value.int .i64 x48))] []) w
theorem f32_s3_eq (s40a : Option Addr) (s40l s40c : Nat) (x41 : Int) (s42a : Option Addr) (s42l s42c : Nat) (s43a : Option Addr) (s43l s43c : Nat) (x44 : Int) (s45a : Option Addr) (s45l s45c : Nat) (a46 : Addr) (x47 x48 : Int) (w : World) (K : KT) (Y1 : YT) : f32_s3 s40a s40l s40c x41 s42a s42l s42c s43a s43l s43c x44 s45a s45l s45c a46 x47 x48 w K Y1 = (Y1 (Env.mk 72 [(4, (Value.slice s40a s40l s40c)), (5, (Value.int .i64 x41)), (9, (Value.slice s42a s42l s42c)), (25, (Value.int .i64 (IntKind.wrap .i64 ((x48 : Int) + 1)))), (8, (Value.slice s43a s43l s43c)), (1, (Value.int .u32 x44)), (0, (Value.slice s45a s45l s45c)), (6, (Value.pointer (some a46))), (24, (Value.int .i64 x47))] []) w) := by kernel_rfl
def f32_s4 (s49a : Option Addr) (s49l s49c : Nat) (x50 : Int) (s51a : Option Addr) (s51l s51c : Nat) (s52a : Option Addr) (s52l s52c : Nat) (x53 : Int) (s54a : Option Addr) (s54l s54c : Nat) (a55 : Addr) (x56 x57 : Int) (a58 : Addr) (x59 : Int) (w : World) (K : KT) (Y1 : YT) : Prop := Join (fun e w => CS P (codeAt c32 [1, 1, 1, 1, 1, 0, 1, 0, 0, 1, 1, 0, 0, 1, 1, 1]) none [4, 5, 9, 8, 1, 0, 6, 24, 25] [4, 5, 9, 8, 1, 0, 6, 24, 25] (f32_k13 K Y1) e w) (Env.mk 72 [(4, (Value.slice s49a s49l s49c)), (5, (Value.int .i64 x50)), (9, (Value.slice s51a s51l s51c)), (8, (Value.slice s52a s52l s52c)), (1, (Value.int .u32 x53)), (0, (Value.slice s54a s54l s54c)), (6, (Value.pointer (some a55))), (24, (Value.int .i64 x56)), (25, (Value.int .i64 x57)), (11, (Value.pointer (some a58))), (10, (Value.int .i64 x59))] []) w
abbrev f32_k18 (K : KT) (Y1 : YT) : Exit → YT := kseq P (codeAt c32 [1, 1, 1, 1, 1, 0, 1, 0, 0, 1, 1, 0, 0, 1, 1, 1, 0]) (codeAt c32 [1, 1, 1, 1, 1, 0, 1, 0, 0, 1, 1, 0, 0, 1, 1, 1, 1]) none [4, 5, 9, 8, 1, 0, 6, 24, 25] [4, 5, 9, 8, 1, 0, 6, 24, 25] (f32_k13 K Y1)
abbrev f32_k19 (K : KT) (Y1 : YT) : Exit → YT := kseq P (codeAt c32 [1, 1, 1, 1, 1, 0, 1, 0, 0, 1, 1, 0, 0, 1, 1, 1, 0, 0]) (codeAt c32 [1, 1, 1, 1, 1, 0, 1, 0, 0, 1, 1, 0, 0, 1, 1, 1, 0, 1]) none [4, 5, 9, 1, 0, 6, 24, 25, 11, 8] [4, 5, 9, 8, 1, 0, 6, 24, 25] (f32_k18 K Y1)
abbrev f32_k20 (K : KT) (Y1 : YT) : Exit → YT := kblock 2 (f32_k18 K Y1)
def f32_lp5 (K : KT) (Y1 Y5 : YT) (e : Env) (w : World) : Prop := Join (fun e w => CS P (codeAt c32 [1, 1, 1, 1, 1, 0, 1, 0, 0, 1, 1, 0, 0, 1, 1, 1, 0, 1, 0, 0]) none [4, 5, 9, 8, 1, 0, 6, 24, 25, 11, 39, 10, 37, 38] [4, 5, 9, 8, 1, 0, 6, 24, 25, 11] (kloop [4, 5, 9, 8, 1, 0, 6, 24, 25, 11, 39, 10, 37, 38] Y5 (f32_k20 K Y1)) e w) e w
abbrev f32_kl5 (K : KT) (Y1 Y5 : YT) : Exit → YT := kloop [4, 5, 9, 8, 1, 0, 6, 24, 25, 11, 39, 10, 37, 38] Y5 (f32_k20 K Y1)
def f32_lb5 (s61a : Option Addr) (s61l s61c : Nat) (x62 : Int) (s63a : Option Addr) (s63l s63c : Nat) (s64a : Option Addr) (s64l s64c : Nat) (x65 : Int) (s66a : Option Addr) (s66l s66c : Nat) (a67 : Addr) (x68 x69 : Int) (a70 : Addr) (x71 x72 : Int) (s73a : Option Addr) (s73l s73c : Nat) (x74 : Int) (w : World) (K : KT) (Y1 Y5 : YT) : Prop := Join (fun e w => CS P (codeAt c32 [1, 1, 1, 1, 1, 0, 1, 0, 0, 1, 1, 0, 0, 1, 1, 1, 0, 1, 0, 0]) none [4, 5, 9, 8, 1, 0, 6, 24, 25, 11, 39, 10, 37, 38] [4, 5, 9, 8, 1, 0, 6, 24, 25, 11] (f32_kl5 K Y1 Y5) e w) (Env.mk 72 [(4, (Value.slice s61a s61l s61c)), (5, (Value.int .i64 x62)), (9, (Value.slice s63a s63l s63c)), (8, (Value.slice s64a s64l s64c)), (1, (Value.int .u32 x65)), (0, (Value.slice s66a s66l s66c)), (6, (Value.pointer (some a67))), (24, (Value.int .i64 x68)), (25, (Value.int .i64 x69)), (11, (Value.pointer (some a70))), (39, (Value.int .i64 x71)), (10, (Value.int .i64 x72)), (37, (Value.slice s73a s73l s73c)), (38, (Value.int .i64 x74))] []) w
abbrev f32_k21 (K : KT) (Y1 Y5 : YT) : Exit → YT := kseq P (codeAt c32 [1, 1, 1, 1, 1, 0, 1, 0, 0, 1, 1, 0, 0, 1, 1, 1, 0, 1, 0, 0, 0]) (codeAt c32 [1, 1, 1, 1, 1, 0, 1, 0, 0, 1, 1, 0, 0, 1, 1, 1, 0, 1, 0, 0, 1]) none [4, 5, 9, 8, 1, 0, 6, 24, 25, 11, 39, 10, 37, 38] [4, 5, 9, 8, 1, 0, 6, 24, 25, 11] (f32_kl5 K Y1 Y5)
abbrev f32_k22 (K : KT) (Y1 Y5 : YT) : Exit → YT := kseq P (codeAt c32 [1, 1, 1, 1, 1, 0, 1, 0, 0, 1, 1, 0, 0, 1, 1, 1, 0, 1, 0, 0, 1, 0]) (codeAt c32 [1, 1, 1, 1, 1, 0, 1, 0, 0, 1, 1, 0, 0, 1, 1, 1, 0, 1, 0, 0, 1, 1]) none [4, 5, 9, 8, 1, 0, 6, 24, 25, 11, 39, 10, 37, 38] [4, 5, 9, 8, 1, 0, 6, 24, 25, 11] (f32_kl5 K Y1 Y5)
def f32_s6 (s75a : Option Addr) (s75l s75c : Nat) (x76 : Int) (s77a : Option Addr) (s77l s77c : Nat) (s78a : Option Addr) (s78l s78c : Nat) (x79 : Int) (s80a : Option Addr) (s80l s80c : Nat) (a81 : Addr) (x82 x83 : Int) (a84 : Addr) (x85 : Int) (s86a : Option Addr) (s86l s86c : Nat) (x87 x88 : Int) (w : World) (K : KT) (Y1 Y5 : YT) : Prop := Join (fun e w => CS P (codeAt c32 [1, 1, 1, 1, 1, 0, 1, 0, 0, 1, 1, 0, 0, 1, 1, 1, 0, 1, 0, 0, 1, 1]) none [4, 5, 9, 8, 1, 0, 6, 24, 25, 11, 39, 10, 37, 38] [4, 5, 9, 8, 1, 0, 6, 24, 25, 11] (f32_kl5 K Y1 Y5) e w) (Env.mk 72 [(4, (Value.slice s75a s75l s75c)), (5, (Value.int .i64 x76)), (9, (Value.slice s77a s77l s77c)), (8, (Value.slice s78a s78l s78c)), (1, (Value.int .u32 x79)), (0, (Value.slice s80a s80l s80c)), (6, (Value.pointer (some a81))), (24, (Value.int .i64 x82)), (25, (Value.int .i64 x83)), (11, (Value.pointer (some a84))), (10, (Value.int .i64 x85)), (37, (Value.slice s86a s86l s86c)), (38, (Value.int .i64 x87)), (39, (Value.int .i64 x88))] []) w
abbrev f32_k23 (K : KT) (Y1 Y5 : YT) : Exit → YT := kseq P (codeAt c32 [1, 1, 1, 1, 1, 0, 1, 0, 0, 1, 1, 0, 0, 1, 1, 1, 0, 1, 0, 0, 1, 1, 0]) (codeAt c32 [1, 1, 1, 1, 1, 0, 1, 0, 0, 1, 1, 0, 0, 1, 1, 1, 0, 1, 0, 0, 1, 1, 1]) none [4, 5, 9, 8, 1, 0, 6, 24, 25, 11, 39, 10, 37, 38] [4, 5, 9, 8, 1, 0, 6, 24, 25, 11] (f32_kl5 K Y1 Y5)
abbrev f32_k24 (K : KT) (Y1 Y5 : YT) : Exit → YT := kblock 3 (f32_k23 K Y1 Y5)
abbrev f32_k25 (K : KT) (Y1 Y5 : YT) : Exit → YT := kseq P (codeAt c32 [1, 1, 1, 1, 1, 0, 1, 0, 0, 1, 1, 0, 0, 1, 1, 1, 0, 1, 0, 0, 1, 1, 0, 0, 0]) (codeAt c32 [1, 1, 1, 1, 1, 0, 1, 0, 0, 1, 1, 0, 0, 1, 1, 1, 0, 1, 0, 0, 1, 1, 0, 0, 1]) none [4, 5, 9, 8, 1, 0, 6, 24, 25, 11, 10, 37, 38, 39] [4, 5, 9, 8, 1, 0, 6, 24, 25, 11, 10, 37, 38, 39] (f32_k24 K Y1 Y5)
abbrev f32_k26 (K : KT) (Y1 Y5 : YT) : Exit → YT := kseq P (codeAt c32 [1, 1, 1, 1, 1, 0, 1, 0, 0, 1, 1, 0, 0, 1, 1, 1, 0, 1, 0, 0, 1, 1, 0, 0, 1, 0]) (codeAt c32 [1, 1, 1, 1, 1, 0, 1, 0, 0, 1, 1, 0, 0, 1, 1, 1, 0, 1, 0, 0, 1, 1, 0, 0, 1, 1]) none [4, 5, 9, 8, 1, 0, 6, 24, 25, 11, 10, 37, 38, 39] [4, 5, 9, 8, 1, 0, 6, 24, 25, 11, 10, 37, 38, 39] (f32_k24 K Y1 Y5)
abbrev f32_k27 (K : KT) (Y1 Y5 : YT) : Exit → YT := kseq P (codeAt c32 [1, 1, 1, 1, 1, 0, 1, 0, 0, 1, 1, 0, 0, 1, 1, 1, 0, 1, 0, 0, 1, 1, 0, 0, 1, 0, 0]) (codeAt c32 [1, 1, 1, 1, 1, 0, 1, 0, 0, 1, 1, 0, 0, 1, 1, 1, 0, 1, 0, 0, 1, 1, 0, 0, 1, 0, 1]) none [9, 8, 1, 0, 6, 24, 25, 11, 10, 37, 38, 39, 4, 5, 14] [4, 5, 9, 8, 1, 0, 6, 24, 25, 11, 10, 37, 38, 39] (f32_k26 K Y1 Y5)
def f32_s7 (b99 : Bool) (s100a : Option Addr) (s100l s100c : Nat) (x101 : Int) (s102a : Option Addr) (s102l s102c : Nat) (s103a : Option Addr) (s103l s103c : Nat) (x104 : Int) (s105a : Option Addr) (s105l s105c : Nat) (a106 : Addr) (x107 x108 : Int) (a109 : Addr) (x110 : Int) (s111a : Option Addr) (s111l s111c : Nat) (x112 x113 : Int) (a114 : Addr) (w : World) (K : KT) (Y1 Y5 : YT) : Prop := Join (fun e w => CS P (codeAt c32 [1, 1, 1, 1, 1, 0, 1, 0, 0, 1, 1, 0, 0, 1, 1, 1, 0, 1, 0, 0, 1, 1, 0, 0, 1, 0, 1]) none [9, 8, 1, 0, 6, 24, 25, 11, 10, 37, 38, 39, 4, 5, 14] [4, 5, 9, 8, 1, 0, 6, 24, 25, 11, 10, 37, 38, 39] (f32_k26 K Y1 Y5) e w) (Env.mk 72 [(54, (Value.bool b99)), (4, (Value.slice s100a s100l s100c)), (5, (Value.int .i64 x101)), (9, (Value.slice s102a s102l s102c)), (8, (Value.slice s103a s103l s103c)), (1, (Value.int .u32 x104)), (0, (Value.slice s105a s105l s105c)), (6, (Value.pointer (some a106))), (24, (Value.int .i64 x107)), (25, (Value.int .i64 x108)), (11, (Value.pointer (some a109))), (10, (Value.int .i64 x110)), (37, (Value.slice s111a s111l s111c)), (38, (Value.int .i64 x112)), (39, (Value.int .i64 x113)), (14, (Value.pointer (some a114)))] []) w
def f32_s8 (s115a : Option Addr) (s115l s115c : Nat) (x116 : Int) (s117a : Option Addr) (s117l s117c : Nat) (s118a : Option Addr) (s118l s118c : Nat) (x119 : Int) (s120a : Option Addr) (s120l s120c : Nat) (a121 : Addr) (x122 x123 : Int) (a124 : Addr) (x125 : Int) (s126a : Option Addr) (s126l s126c : Nat) (x127 x128 : Int) (w : World) (K : KT) (Y1 Y5 : YT) : Prop := Join (fun e w => CS P (codeAt c32 [1, 1, 1, 1, 1, 0, 1, 0, 0, 1, 1, 0, 0, 1, 1, 1, 0, 1, 0, 0, 1, 1, 1]) none [4, 5, 9, 8, 1, 0, 6, 24, 25, 11, 39, 10, 37, 38] [4, 5, 9, 8, 1, 0, 6, 24, 25, 11] (f32_kl5 K Y1 Y5) e w) (Env.mk 72 [(4, (Value.slice s115a s115l s115c)), (5, (Value.int .i64 x116)), (9, (Value.slice s117a s117l s117c)), (8, (Value.slice s118a s118l s118c)), (1, (Value.int .u32 x119)), (0, (Value.slice s120a s120l s120c)), (6, (Value.pointer (some a121))), (24, (Value.int .i64 x122)), (25, (Value.int .i64 x123)), (11, (Value.pointer (some a124))), (10, (Value.int .i64 x125)), (37, (Value.slice s126a s126l s126c)), (38, (Value.int .i64 x127)), (39, (Value.int .i64 x128))] []) w
theorem f32_s8_eq (s115a : Option Addr) (s115l s115c : Nat) (x116 : Int) (s117a : Option Addr) (s117l s117c : Nat) (s118a : Option Addr) (s118l s118c : Nat) (x119 : Int) (s120a : Option Addr) (s120l s120c : Nat) (a121 : Addr) (x122 x123 : Int) (a124 : Addr) (x125 : Int) (s126a : Option Addr) (s126l s126c : Nat) (x127 x128 : Int) (w : World) (K : KT) (Y1 Y5 : YT) : f32_s8 s115a s115l s115c x116 s117a s117l s117c s118a s118l s118c x119 s120a s120l s120c a121 x122 x123 a124 x125 s126a s126l s126c x127 x128 w K Y1 Y5 = (Y5 (Env.mk 72 [(4, (Value.slice s115a s115l s115c)), (5, (Value.int .i64 x116)), (9, (Value.slice s117a s117l s117c)), (8, (Value.slice s118a s118l s118c)), (1, (Value.int .u32 x119)), (0, (Value.slice s120a s120l s120c)), (6, (Value.pointer (some a121))), (24, (Value.int .i64 x122)), (25, (Value.int .i64 x123)), (11, (Value.pointer (some a124))), (39, (Value.int .i64 (IntKind.wrap .i64 ((x128 : Int) + 1)))), (10, (Value.int .i64 x125)), (37, (Value.slice s126a s126l s126c)), (38, (Value.int .i64 x127))] []) w) := by kernel_rfl
def f32_s9 (s129a : Option Addr) (s129l s129c : Nat) (s130a : Option Addr) (s130l s130c : Nat) (x131 : Int) (s132a : Option Addr) (s132l s132c : Nat) (a133 : Addr) (x134 x135 : Int) (a136 : Addr) (x137 : Int) (s138a : Option Addr) (s138l s138c : Nat) (x139 x140 : Int) (s141a : Option Addr) (s141l s141c : Nat) (x142 : Int) (a143 : Addr) (w : World) (K : KT) (Y1 Y5 : YT) : Prop := Join (fun e w => CS P (codeAt c32 [1, 1, 1, 1, 1, 0, 1, 0, 0, 1, 1, 0, 0, 1, 1, 1, 0, 1, 0, 0, 1, 1, 0, 0, 1, 1]) none [4, 5, 9, 8, 1, 0, 6, 24, 25, 11, 10, 37, 38, 39] [4, 5, 9, 8, 1, 0, 6, 24, 25, 11, 10, 37, 38, 39] (f32_k24 K Y1 Y5) e w) (Env.mk 72 [(9, (Value.slice s129a s129l s129c)), (8, (Value.slice s130a s130l s130c)), (1, (Value.int .u32 x131)), (0, (Value.slice s132a s132l s132c)), (6, (Value.pointer (some a133))), (24, (Value.int .i64 x134)), (25, (Value.int .i64 x135)), (11, (Value.pointer (some a136))), (10, (Value.int .i64 x137)), (37, (Value.slice s138a s138l s138c)), (38, (Value.int .i64 x139)), (39, (Value.int .i64 x140)), (4, (Value.slice s141a s141l s141c)), (5, (Value.int .i64 x142)), (14, (Value.pointer (some a143)))] []) w
abbrev f32_k28 (K : KT) (Y1 Y5 : YT) : Exit → YT := kseq P (codeAt c32 [1, 1, 1, 1, 1, 0, 1, 0, 0, 1, 1, 0, 0, 1, 1, 1, 0, 1, 0, 0, 1, 1, 0, 0, 1, 1, 0]) (codeAt c32 [1, 1, 1, 1, 1, 0, 1, 0, 0, 1, 1, 0, 0, 1, 1, 1, 0, 1, 0, 0, 1, 1, 0, 0, 1, 1, 1]) none [4, 5, 9, 8, 1, 0, 6, 24, 25, 11, 10, 37, 38, 39] [4, 5, 9, 8, 1, 0, 6, 24, 25, 11, 10, 37, 38, 39] (f32_k24 K Y1 Y5)
abbrev f32_k29 (K : KT) (Y1 Y5 : YT) : Exit → YT := kseq P (codeAt c32 [1, 1, 1, 1, 1, 0, 1, 0, 0, 1, 1, 0, 0, 1, 1, 1, 0, 1, 0, 0, 1, 1, 0, 0, 1, 1, 0, 0]) (codeAt c32 [1, 1, 1, 1, 1, 0, 1, 0, 0, 1, 1, 0, 0, 1, 1, 1, 0, 1, 0, 0, 1, 1, 0, 0, 1, 1, 0, 1]) none [4, 5, 8, 1, 0, 6, 24, 25, 11, 10, 37, 38, 39, 14, 9] [4, 5, 9, 8, 1, 0, 6, 24, 25, 11, 10, 37, 38, 39] (f32_k28 K Y1 Y5)
abbrev f32_k30 (K : KT) (Y1 Y5 : YT) : Exit → YT := kseq P (codeAt c32 [1, 1, 1, 1, 1, 0, 1, 0, 0, 1, 1, 0, 0, 1, 1, 1, 0, 1, 0, 0, 1, 1, 0, 0, 1, 1, 0, 1, 0, 0]) (codeAt c32 [1, 1, 1, 1, 1, 0, 1, 0, 0, 1, 1, 0, 0, 1, 1, 1, 0, 1, 0, 0, 1, 1, 0, 0, 1, 1, 0, 1, 0, 1]) none [4, 5, 8, 1, 0, 6, 24, 25, 11, 10, 37, 38, 39, 14, 9] [4, 5, 9, 8, 1, 0, 6, 24, 25, 11, 10, 37, 38, 39] (f32_k28 K Y1 Y5)
def f32_s10 (s145a : Option Addr) (s145l s145c : Nat) (x146 : Int) (s147a : Option Addr) (s147l s147c : Nat) (x148 : Int) (s149a : Option Addr) (s149l s149c : Nat) (a150 : Addr) (x151 x152 : Int) (a153 : Addr) (x154 : Int) (s155a : Option Addr) (s155l s155c : Nat) (x156 x157 : Int) (a158 : Addr) (s159a : Option Addr) (s159l s159c : Nat) (w : World) (K : KT) (Y1 Y5 : YT) : Prop := Join (fun e w => CS P (codeAt c32 [1, 1, 1, 1, 1, 0, 1, 0, 0, 1, 1, 0, 0, 1, 1, 1, 0, 1, 0, 0, 1, 1, 0, 0, 1, 1, 1]) none [4, 5, 9, 8, 1, 0, 6, 24, 25, 11, 10, 37, 38, 39] [4, 5, 9, 8, 1, 0, 6, 24, 25, 11, 10, 37, 38, 39] (f32_k24 K Y1 Y5) e w) (Env.mk 72 [(4, (Value.slice s145a s145l s145c)), (5, (Value.int .i64 x146)), (8, (Value.slice s147a s147l s147c)), (1, (Value.int .u32 x148)), (0, (Value.slice s149a s149l s149c)), (6, (Value.pointer (some a150))), (24, (Value.int .i64 x151)), (25, (Value.int .i64 x152)), (11, (Value.pointer (some a153))), (10, (Value.int .i64 x154)), (37, (Value.slice s155a s155l s155c)), (38, (Value.int .i64 x156)), (39, (Value.int .i64 x157)), (14, (Value.pointer (some a158))), (9, (Value.slice s159a s159l s159c))] []) w
theorem f32_s10_eq (s145a : Option Addr) (s145l s145c : Nat) (x146 : Int) (s147a : Option Addr) (s147l s147c : Nat) (x148 : Int) (s149a : Option Addr) (s149l s149c : Nat) (a150 : Addr) (x151 x152 : Int) (a153 : Addr) (x154 : Int) (s155a : Option Addr) (s155l s155c : Nat) (x156 x157 : Int) (a158 : Addr) (s159a : Option Addr) (s159l s159c : Nat) (w : World) (K : KT) (Y1 Y5 : YT) : f32_s10 s145a s145l s145c x146 s147a s147l s147c x148 s149a s149l s149c a150 x151 x152 a153 x154 s155a s155l s155c x156 x157 a158 s159a s159l s159c w K Y1 Y5 = (LdA 5 a158 w (fun cs160 => LdA 5 a153 w (fun cs161 => ∃ cs162 : Array Value, (∀ wq, (Instr.build 47 [(0, (Value.int .u32 x148)), (1, (Value.agg cs160)), (2, (Value.agg cs161))].toArray).run P wq = .ok (Value.agg cs162) wq) ∧ sizesAre 11 [(Value.agg cs162)] ∧ NewC (([(Value.agg cs162)].map fun (v : Value) => v.cells.toList).flatten.toArray) 47 w (fun n166 w164 => ∃ (s167a : Option Addr) (s167l s167c : Nat), ∃ w168 : World, (Builtin.append_ #[25, 25] 25 [(Value.slice s159a s159l s159c), (Value.slice (some (Addr.mk n166 0 none)) 1 1)].toArray).run P w164 = .ok (Value.slice s167a s167l s167c) w168 ∧ f32_s8 s145a s145l s145c x146 s167a s167l s167c s147a s147l s147c x148 s149a s149l s149c a150 x151 x152 a153 x154 s155a s155l s155c x156 x157 w168 K Y1 Y5)))) := by kernel_rfl
theorem f32_s9_eq (s129a : Option Addr) (s129l s129c : Nat) (s130a : Option Addr) (s130l s130c : Nat) (x131 : Int) (s132a : Option Addr) (s132l s132c : Nat) (a133 : Addr) (x134 x135 : Int) (a136 : Addr) (x137 : Int) (s138a : Option Addr) (s138l s138c : Nat) (x139 x140 : Int) (s141a : Option Addr) (s141l s141c : Nat) (x142 : Int) (a143 : Addr) (w : World) (K : KT) (Y1 Y5 : YT) : f32_s9 s129a s129l s129c s130a s130l s130c x131 s132a s132l s132c a133 x134 x135 a136 x137 s138a s138l s138c x139 x140 s141a s141l s141c x142 a143 w K Y1 Y5 = (∃ x144 : Int, (∀ wq, Ext w wq → (Builtin.len_ #[25] 3 [(Value.slice s129a s129l s129c)].toArray).run P wq = .ok (Value.int .i64 x144) wq) ∧ BIf ((x144 : Int) == 1000) (K (Value.tuple [(Value.slice none 0 0), (Value.int .i64 2)].toArray) w) (f32_s10 s141a s141l s141c x142 s130a s130l s130c x131 s132a s132l s132c a133 x134 x135 a136 x137 s138a s138l s138c x139 x140 a143 s129a s129l s129c w K Y1 Y5)) := by kernel_rfl
theorem f32_s7_eq (b99 : Bool) (s100a : Option Addr) (s100l s100c : Nat) (x101 : Int) (s102a : Option Addr) (s102l s102c : Nat) (s103a : Option Addr) (s103l s103c : Nat) (x104 : Int) (s105a : Option Addr) (s105l s105c : Nat) (a106 : Addr) (x107 x108 : Int) (a109 : Addr) (x110 : Int) (s111a : Option Addr) (s111l s111c : Nat) (x112 x113 : Int) (a114 : Addr) (w : World) (K : KT) (Y1 Y5 : YT) : f32_s7 b99 s100a s100l s100c x101 s102a s102l s102c s103a s103l s103c x104 s105a s105l s105c a106 x107 x108 a109 x110 s111a s111l s111c x112 x113 a114 w K Y1 Y5 = (BIf b99 (f32_s8 s100a s100l s100c x101 s102a s102l s102c s103a s103l s103c x104 s105a s105l s105c a106 x107 x108 a109 x110 s111a s111l s111c x112 x113 w K Y1 Y5) (f32_s9 s102a s102l s102c s103a s103l s103c x104 s105a s105l s105c a106 x107 x108 a109 x110 s111a s111l s111c x112 x113 s100a s100l s100c x101 a114 w K Y1 Y5)) := by kernel_rfl
theorem f32_s6_eq (s75a : Option Addr) (s75l s75c : Nat) (x76 : Int) (s77a : Option Addr) (s77l s77c : Nat) (s78a : Option Addr) (s78l s78c : Nat) (x79 : Int) (s80a : Option Addr) (s80l s80c : Nat) (a81 : Addr) (x82 x83 : Int) (a84 : Addr) (x85 : Int) (s86a : Option Addr) (s86l s86c : Nat) (x87 x88 : Int) (w : World) (K : KT) (Y1 Y5 : YT) : f32_s6 s75a s75l s75c x76 s77a s77l s77c s78a s78l s78c x79 s80a s80l s80c a81 x82 x83 a84 x85 s86a s86l s86c x87 x88 w K Y1 Y5 = (optS s86a (fun a89 => 0 ≤ (x88 : Int) ∧ (x88 : Int) < (s86l : Nat) ∧ LdA 5 (a89.add (Int.toNat x88 * 5)) w (fun cs90 => NewC (zcells P 45) 45 w (fun n91 w92 => StA 5 (Addr.mk n91 0 none) cs90 w92 (fun w93 => LdA 5 (Addr.mk n91 0 none) w93 (fun cs94 => LdA 5 a84 w93 (fun cs95 => CallL P 59 [(Value.agg cs94), (Value.agg cs95)] w93 (fun r96 w97 => ∃ b98 : Bool, r96 = (Value.bool b98) ∧ BIf (!b98) (f32_s7 true s75a s75l s75c x76 s77a s77l s77c s78a s78l s78c x79 s80a s80l s80c a81 x82 x83 a84 x85 s86a s86l s86c x87 x88 (Addr.mk n91 0 none) w97 K Y1 Y5) (LdA 3 a81 w97 (fun cs169 => ∃ x170 : Int, w97.cell? (Addr.mk n91 0 none) = some (Value.int .i64 x170) ∧ CallL P 54 [(Value.agg cs169), (Value.slice s80a s80l s80c), (Value.int .i64 x170), (Value.int .i64 x85)] w97 (fun r171 w172 => ∃ b173 : Bool, r171 = (Value.bool b173) ∧ f32_s7 b173 s75a s75l s75c x76 s77a s77l s77c s78a s78l s78c x79 s80a s80l s80c a81 x82 x83 a84 x85 s86a s86l s86c x87 x88 (Addr.mk n91 0 none) w172 K Y1 Y5))))))))))) := by kernel_rfl
def f32_s11 (s174a : Option Addr) (s174l s174c : Nat) (x175 : Int) (s176a : Option Addr) (s176l s176c : Nat) (x177 : Int) (s178a : Option Addr) (s178l s178c : Nat) (a179 : Addr) (x180 x181 : Int) (a182 : Addr) (s183a : Option Addr) (s183l s183c : Nat) (w : World) (K : KT) (Y1 : YT) : Prop := Join (fun e w => CS P (codeAt c32 [1, 1, 1, 1, 1, 0, 1, 0, 0, 1, 1, 0, 0, 1, 1, 1, 1]) none [4, 5, 9, 8, 1, 0, 6, 24, 25] [4, 5, 9, 8, 1, 0, 6, 24, 25] (f32_k13 K Y1) e w) (Env.mk 72 [(4, (Value.slice s174a s174l s174c)), (5, (Value.int .i64 x175)), (9, (Value.slice s176a s176l s176c)), (1, (Value.int .u32 x177)), (0, (Value.slice s178a s178l s178c)), (6, (Value.pointer (some a179))), (24, (Value.int .i64 x180)), (25, (Value.int .i64 x181)), (11, (Value.pointer (some a182))), (8, (Value.slice s183a s183l s183c))] []) w
theorem f32_s11_eq (s174a : Option Addr) (s174l s174c : Nat) (x175 : Int) (s176a : Option Addr) (s176l s176c : Nat) (x177 : Int) (s178a : Option Addr) (s178l s178c : Nat) (a179 : Addr) (x180 x181 : Int) (a182 : Addr) (s183a : Option Addr) (s183l s183c : Nat) (w : World) (K : KT) (Y1 : YT) : f32_s11 s174a s174l s174c x175 s176a s176l s176c x177 s178a s178l s178c a179 x180 x181 a182 s183a s183l s183c w K Y1 = (LdA 5 a182 w (fun cs184 => sizesAre 5 [(Value.agg cs184)] ∧ NewC (([(Value.agg cs184)].map fun (v : Value) => v.cells.toList).flatten.toArray) 45 w (fun n188 w186 => ∃ (s189a : Option Addr) (s189l s189c : Nat), ∃ w190 : World, (Builtin.append_ #[106, 106] 106 [(Value.slice s183a s183l s183c), (Value.slice (some (Addr.mk n188 0 none)) 1 1)].toArray).run P w186 = .ok (Value.slice s189a s189l s189c) w190 ∧ f32_s3 s174a s174l s174c x175 s176a s176l s176c s189a s189l s189c x177 s178a s178l s178c a179 x180 x181 w190 K Y1))) := by kernel_rfl
theorem f32_lb5_eq (s61a : Option Addr) (s61l s61c : Nat) (x62 : Int) (s63a : Option Addr) (s63l s63c : Nat) (s64a : Option Addr) (s64l s64c : Nat) (x65 : Int) (s66a : Option Addr) (s66l s66c : Nat) (a67 : Addr) (x68 x69 : Int) (a70 : Addr) (x71 x72 : Int) (s73a : Option Addr) (s73l s73c : Nat) (x74 : Int) (w : World) (K : KT) (Y1 Y5 : YT) : f32_lb5 s61a s61l s61c x62 s63a s63l s63c s64a s64l s64c x65 s66a s66l s66c a67 x68 x69 a70 x71 x72 s73a s73l s73c x74 w K Y1 Y5 = (BIf (decide ((x71 : Int) < x74)) (f32_s6 s61a s61l s61c x62 s63a s63l s63c s64a s64l s64c x65 s66a s66l s66c a67 x68 x69 a70 x72 s73a s73l s73c x74 x71 w K Y1 Y5) (f32_s11 s61a s61l s61c x62 s63a s63l s63c x65 s66a s66l s66c a67 x68 x69 a70 s64a s64l s64c w K Y1)) := by kernel_rfl
theorem f32_s4_eq (s49a : Option Addr) (s49l s49c : Nat) (x50 : Int) (s51a : Option Addr) (s51l s51c : Nat) (s52a : Option Addr) (s52l s52c : Nat) (x53 : Int) (s54a : Option Addr) (s54l s54c : Nat) (a55 : Addr) (x56 x57 : Int) (a58 : Addr) (x59 : Int) (w : World) (K : KT) (Y1 : YT) : f32_s4 s49a s49l s49c x50 s51a s51l s51c s52a s52l s52c x53 s54a s54l s54c a55 x56 x57 a58 x59 w K Y1 = (∃ x60 : Int, (∀ wq, Ext w wq → (Builtin.len_ #[106] 3 [(Value.slice s52a s52l s52c)].toArray).run P wq = .ok (Value.int .i64 x60) wq) ∧ LoopE (f32_lp5 K Y1) (Env.mk 72 [(4, (Value.slice s49a s49l s49c)), (5, (Value.int .i64 x50)), (9, (Value.slice s51a s51l s51c)), (8, (Value.slice s52a s52l s52c)), (1, (Value.int .u32 x53)), (0, (Value.slice s54a s54l s54c)), (6, (Value.pointer (some a55))), (24, (Value.int .i64 x56)), (25, (Value.int .i64 x57)), (11, (Value.pointer (some a58))), (39, (Value.int .i64 0)), (10, (Value.int .i64 x59)), (37, (Value.slice s52a s52l s52c)), (38, (Value.int .i64 x60))] []) w) := by kernel_rfl
theorem f32_s2_eq (s24a : Option Addr) (s24l s24c : Nat) (x25 : Int) (s26a : Option Addr) (s26l s26c : Nat) (s27a : Option Addr) (s27l s27c : Nat) (x28 : Int) (s29a : Option Addr) (s29l s29c : Nat) (a30 : Addr) (x31 x32 : Int) (w : World) (K : KT) (Y1 : YT) : f32_s2 s24a s24l s24c x25 s26a s26l s26c s27a s27l s27c x28 s29a s29l s29c a30 x31 x32 w K Y1 = (CallL P 58 [(Value.slice s29a s29l s29c), (Value.int .i64 x32), (Value.int .u32 x28)] w (fun r33 w34 => ∃ cs35 : Array Value, ∃ b36 : Bool, r33 = (Value.tuple [(Value.agg cs35), (Value.bool b36)].toArray) ∧ NewC (zcells P 45) 45 w34 (fun n37 w38 => StA 5 (Addr.mk n37 0 none) cs35 w38 (fun w39 => BIf (!b36) (f32_s3 s24a s24l s24c x25 s26a s26l s26c s27a s27l s27c x28 s29a s29l s29c a30 x31 x32 w39 K Y1) (f32_s4 s24a s24l s24c x25 s26a s26l s26c s27a s27l s27c x28 s29a s29l s29c a30 x31 x32 (Addr.mk n37 0 none) x32 w39 K Y1))))) := by kernel_rfl
def f32_s12 (s191a : Option Addr) (s191l s191c : Nat) (w : World) (K : KT) : Prop := Join (fun e w => CS P (codeAt c32 [1, 1, 1, 1, 1, 1]) none [4, 5] [4, 5] (f32_kb K) e w) (Env.mk 72 [(9, (Value.slice s191a s191l s191c))] []) w
abbrev f32_k31 (K : KT) : Exit → YT := kseq P (codeAt c32 [1, 1, 1, 1, 1, 1, 0]) (codeAt c32 [1, 1, 1, 1, 1, 1, 1]) none [4, 5] [4, 5] (f32_kb K)
theorem f32_s12_eq (s191a : Option Addr) (s191l s191c : Nat) (w : World) (K : KT) : f32_s12 s191a s191l s191c w K = (K (Value.tuple [(Value.slice s191a s191l s191c), (Value.int .i64 0)].toArray) w) := by kernel_rfl
theorem f32_lb1_eq (s15a : Option Addr) (s15l s15c : Nat) (x16 : Int) (s17a : Option Addr) (s17l s17c : Nat) (x18 : Int) (s19a : Option Addr) (s19l s19c : Nat) (x20 : Int) (s21a : Option Addr) (s21l s21c : Nat) (a22 : Addr) (x23 : Int) (w : World) (K : KT) (Y1 : YT) : f32_lb1 s15a s15l s15c x16 s17a s17l s17c x18 s19a s19l s19c x20 s21a s21l s21c a22 x23 w K Y1 = (BIf (decide ((x18 : Int) < x23)) (f32_s2 s15a s15l s15c x16 s17a s17l s17c s19a s19l s19c x20 s21a s21l s21c a22 x23 x18 w K Y1) (f32_s12 s17a s17l s17c w K)) := by kernel_rfl
theorem f32_s0_eq (s9a : Option Addr) (s9l s9c : Nat) (x10 x11 : Int) (s12a : Option Addr) (s12l s12c : Nat) (a13 : Addr) (w : World) (K : KT) : f32_s0 s9a s9l s9c x10 x11 s12a s12l s12c a13 w K = (∃ x14 : Int, (∀ wq, Ext w wq → (Builtin.len_ #[22] 3 [(Value.slice s12a s12l s12c)].toArray).run P wq = .ok (Value.int .i64 x14) wq) ∧ LoopE (f32_lp1 K) (Env.mk 72 [(4, (Value.slice s9a s9l s9c)), (5, (Value.int .i64 x10)), (9, (Value.slice none 0 0)), (25, (Value.int .i64 0)), (8, (Value.slice none 0 0)), (1, (Value.int .u32 x11)), (0, (Value.slice s12a s12l s12c)), (6, (Value.pointer (some a13))), (24, (Value.int .i64 x14))] []) w) := by kernel_rfl
theorem f32_eq (s0a : Option Addr) (s0l s0c : Nat) (x1 : Int) (w : World) (K : KT) : f32 s0a s0l s0c x1 w K = (CallL P 47 [(Value.slice s0a s0l s0c)] w (fun r2 w3 => ∃ cs4 : Array Value, ∃ x5 : Int, r2 = (Value.tuple [(Value.agg cs4), (Value.int .i64 x5)].toArray) ∧ NewC (zcells P 89) 89 w3 (fun n6 w7 => StA 3 (Addr.mk n6 0 none) cs4 w7 (fun w8 => BIf ((x5 : Int) != 0) (K (Value.tuple [(Value.slice none 0 0), (Value.int .i64 x5)].toArray) w8) (f32_s0 none 0 0 0 x1 s0a s0l s0c (Addr.mk n6 0 none) w8 K))))) := by kernel_rfl
theorem c32_eq : Go.Proofs.Try.f32.body = some c32 := by kernel_rfl
theorem f32_un (s0a : Option Addr) (s0l s0c : Nat) (x1 : Int) (w : World) (K : KT) : f32 s0a s0l s0c x1 w K = CS P c32 none (resT Go.Proofs.Try.f32.results.toList) (resT Go.Proofs.Try.f32.results.toList) (bodyK P Go.Proofs.Try.f32.results.toList K) (env0 Go.Proofs.Try.f32.ntmps [(Value.slice s0a s0l s0c), (Value.int .u32 x1)]) w := by kernel_rfl
theorem f32_ok (s0a : Option Addr) (s0l s0c : Nat) (x1 : Int) (w : World) (K : KT) (h : f32 s0a s0l s0c x1 w K) : CallL P 32 [(Value.slice s0a s0l s0c), (Value.int .u32 x1)] w K := calls_of_CS Go.Proofs.Try.func32 c32_eq (Eq.mp (f32_un s0a s0l s0c x1 w K) h)
/-! 54 (candling.race.history).before -/
noncomputable def c54 : Code := match Go.Proofs.Try.f54.body with
  | some c => c
  | none => .skip
noncomputable def rs54 : List ResultVar := Go.Proofs.Try.f54.results.toList
abbrev f54_kb (K : KT) : Exit → YT := bodyK P rs54 K
def f54 (cs0 : Array Value) (s1a : Option Addr) (s1l s1c : Nat) (x2 x3 : Int) (w : World) (K : KT) : Prop := CS P c54 none [8] [8] (f54_kb K) (env0 28 [(Value.agg cs0), (Value.slice s1a s1l s1c), (Value.int .i64 x2), (Value.int .i64 x3)]) w
abbrev f54_k0 (K : KT) : Exit → YT := kseq P (codeAt c54 [0]) (codeAt c54 [1]) none [8] [8] (f54_kb K)
abbrev f54_k1 (K : KT) : Exit → YT := kseq P (codeAt c54 [1, 0]) (codeAt c54 [1, 1]) none [8] [8] (f54_kb K)
theorem f54_eq (cs0 : Array Value) (s1a : Option Addr) (s1l s1c : Nat) (x2 x3 : Int) (w : World) (K : KT) : f54 cs0 s1a s1l s1c x2 x3 w K = (NewC cs0 89 w (fun n4 w5 => optS s1a (fun a6 => 0 ≤ (x2 : Int) ∧ (x2 : Int) < (s1l : Nat) ∧ ∃ (s7a : Option Addr) (s7l s7c : Nat), w5.drew.cell? ((Addr.mk n4 0 none).add 2) = some (Value.slice s7a s7l s7c) ∧ optS s7a (fun a8 => 0 ≤ (x3 : Int) ∧ (x3 : Int) < (s7l : Nat) ∧ ∃ x9 : Int, w5.drew.cell? ((a6.add (Int.toNat x2 * 6)).add 1) = some (Value.int .i64 x9) ∧ 0 ≤ (x9 : Int) ∧ (x9 : Int) < (8 : Nat) ∧ ∃ x10 : Int, w5.drew.cell? (((a8.add (Int.toNat x3 * 9)).add 1).add (Int.toNat x9 * 1)) = some (Value.int .i64 x10) ∧ ∃ (s11a : Option Addr) (s11l s11c : Nat), w5.drew.cell? ((Addr.mk n4 0 none).add 2) = some (Value.slice s11a s11l s11c) ∧ optS s11a (fun a12 => 0 ≤ (x2 : Int) ∧ (x2 : Int) < (s11l : Nat) ∧ ∃ x13 : Int, w5.drew.cell? (a12.add (Int.toNat x2 * 9)) = some (Value.int .i64 x13) ∧ K (Value.bool (decide ((x10 : Int) ≥ x13))) w5.drew))))) := by kernel_rfl
theorem c54_eq : Go.Proofs.Try.f54.body = some c54 := by kernel_rfl
theorem f54_un (cs0 : Array Value) (s1a : Option Addr) (s1l s1c : Nat) (x2 x3 : Int) (w : World) (K : KT) : f54 cs0 s1a s1l s1c x2 x3 w K = CS P c54 none (resT Go.Proofs.Try.f54.results.toList) (resT Go.Proofs.Try.f54.results.toList) (bodyK P Go.Proofs.Try.f54.results.toList K) (env0 Go.Proofs.Try.f54.ntmps [(Value.agg cs0), (Value.slice s1a s1l s1c), (Value.int .i64 x2), (Value.int .i64 x3)]) w := by kernel_rfl
theorem f54_ok (cs0 : Array Value) (s1a : Option Addr) (s1l s1c : Nat) (x2 x3 : Int) (w : World) (K : KT) (h : f54 cs0 s1a s1l s1c x2 x3 w K) : CallL P 54 [(Value.agg cs0), (Value.slice s1a s1l s1c), (Value.int .i64 x2), (Value.int .i64 x3)] w K := calls_of_CS Go.Proofs.Try.func54 c54_eq (Eq.mp (f54_un cs0 s1a s1l s1c x2 x3 w K) h)
/-! 20 slices.Clone[[]candling.api.Race,candling.api.Race] -/
noncomputable def c20 : Code := match Go.Proofs.Try.f20.body with
  | some c => c
  | none => .skip
noncomputable def rs20 : List ResultVar := Go.Proofs.Try.f20.results.toList
abbrev f20_kb (K : KT) : Exit → YT := bodyK P rs20 K
def f20 (s0a : Option Addr) (s0l s0c : Nat) (w : World) (K : KT) : Prop := CS P c20 none [2] [2] (f20_kb K) (env0 8 [(Value.slice s0a s0l s0c)]) w
abbrev f20_k0 (K : KT) : Exit → YT := kseq P (codeAt c20 [0]) (codeAt c20 [1]) none [2] [2] (f20_kb K)
abbrev f20_k1 (K : KT) : Exit → YT := kseq P (codeAt c20 [1, 0]) (codeAt c20 [1, 1]) none [2] [2] (f20_kb K)
abbrev f20_k2 (K : KT) : Exit → YT := kseq P (codeAt c20 [1, 0, 0]) (codeAt c20 [1, 0, 1]) none [0] [2] (f20_k1 K)
abbrev f20_k3 (K : KT) : Exit → YT := kseq P (codeAt c20 [1, 0, 1, 0, 0]) (codeAt c20 [1, 0, 1, 0, 1]) none [0] [2] (f20_k1 K)
def f20_s0 (s1a : Option Addr) (s1l s1c : Nat) (w : World) (K : KT) : Prop := Join (fun e w => CS P (codeAt c20 [1, 1]) none [2] [2] (f20_kb K) e w) (Env.mk 8 [(0, (Value.slice s1a s1l s1c))] []) w
abbrev f20_k4 (K : KT) : Exit → YT := kseq P (codeAt c20 [1, 1, 0]) (codeAt c20 [1, 1, 1]) none [2] [2] (f20_kb K)
theorem f20_s0_eq (s1a : Option Addr) (s1l s1c : Nat) (w : World) (K : KT) : f20_s0 s1a s1l s1c w K = (∃ (s6a : Option Addr) (s6l s6c : Nat), ∃ w7 : World, (Instr.buildSlice 25 0 ([] : List (Nat × Value)).toArray).run P w = .ok (Value.slice s6a s6l s6c) w7 ∧ ∃ (s8a : Option Addr) (s8l s8c : Nat), ∃ w9 : World, (Builtin.append_ #[25, 25] 25 [(Value.slice s6a s6l s6c), (Value.slice s1a s1l s1c)].toArray).run P w7 = .ok (Value.slice s8a s8l s8c) w9 ∧ K (Value.slice s8a s8l s8c) w9) := by kernel_rfl
theorem f20_eq (s0a : Option Addr) (s0l s0c : Nat) (w : World) (K : KT) : f20 s0a s0l s0c w K = (BIf s0a.isNone (K (Value.slice none 0 0) w) (f20_s0 s0a s0l s0c w K)) := by kernel_rfl
theorem c20_eq : Go.Proofs.Try.f20.body = some c20 := by kernel_rfl
theorem f20_un (s0a : Option Addr) (s0l s0c : Nat) (w : World) (K : KT) : f20 s0a s0l s0c w K = CS P c20 none (resT Go.Proofs.Try.f20.results.toList) (resT Go.Proofs.Try.f20.results.toList) (bodyK P Go.Proofs.Try.f20.results.toList K) (env0 Go.Proofs.Try.f20.ntmps [(Value.slice s0a s0l s0c)]) w := by kernel_rfl
theorem f20_ok (s0a : Option Addr) (s0l s0c : Nat) (w : World) (K : KT) (h : f20 s0a s0l s0c w K) : CallL P 20 [(Value.slice s0a s0l s0c)] w K := calls_of_CS Go.Proofs.Try.func20 c20_eq (Eq.mp (f20_un s0a s0l s0c w K) h)
/-! 38 slices.DeleteFunc[[]candling.api.Race,candling.api.Race] -/
noncomputable def c38 : Code := match Go.Proofs.Try.f38.body with
  | some c => c
  | none => .skip
noncomputable def rs38 : List ResultVar := Go.Proofs.Try.f38.results.toList
abbrev f38_kb (K : KT) : Exit → YT := bodyK P rs38 K
def f38 (s0a : Option Addr) (s0l s0c : Nat) (v1 : Value) (w : World) (K : KT) : Prop := CS P c38 none [4] [4] (f38_kb K) (env0 42 [(Value.slice s0a s0l s0c), v1]) w
abbrev f38_k0 (K : KT) : Exit → YT := kseq P (codeAt c38 [0]) (codeAt c38 [1]) none [4] [4] (f38_kb K)
abbrev f38_k1 (K : KT) : Exit → YT := kseq P (codeAt c38 [1, 0]) (codeAt c38 [1, 1]) none [4] [4] (f38_kb K)
abbrev f38_k2 (K : KT) : Exit → YT := kseq P (codeAt c38 [1, 1, 0]) (codeAt c38 [1, 1, 1]) none [4] [4] (f38_kb K)
abbrev f38_k3 (K : KT) : Exit → YT := kseq P (codeAt c38 [1, 1, 0, 0]) (codeAt c38 [1, 1, 0, 1]) none [5, 0, 1, 4] [4] (f38_k2 K)
abbrev f38_k4 (K : KT) : Exit → YT := kseq P (codeAt c38 [1, 1, 0, 1, 0, 0]) (codeAt c38 [1, 1, 0, 1, 0, 1]) none [5, 0, 1, 4] [4] (f38_k2 K)
def f38_s0 (x5 : Int) (s6a : Option Addr) (s6l s6c : Nat) (v7 : Value) (s8a : Option Addr) (s8l s8c : Nat) (w : World) (K : KT) : Prop := Join (fun e w => CS P (codeAt c38 [1, 1, 1]) none [4] [4] (f38_kb K) e w) (Env.mk 42 [(5, (Value.int .i64 x5)), (0, (Value.slice s6a s6l s6c)), (1, v7), (4, (Value.slice s8a s8l s8c))] []) w
abbrev f38_k5 (K : KT) : Exit → YT := kseq P (codeAt c38 [1, 1, 1, 0]) (codeAt c38 [1, 1, 1, 1]) none [4] [4] (f38_kb K)
abbrev f38_k6 (K : KT) : Exit → YT := kseq P (codeAt c38 [1, 1, 1, 0, 0]) (codeAt c38 [1, 1, 1, 0, 1]) none [5, 0] [4] (f38_k5 K)
abbrev f38_k7 (K : KT) : Exit → YT := kblock 0 (f38_k5 K)
def f38_lp1 (K : KT) (Y1 : YT) (e : Env) (w : World) : Prop := Join (fun e w => CS P (codeAt c38 [1, 1, 1, 0, 1, 0, 0]) none [6, 5, 0, 1, 4] [4, 5, 0] (kloop [6, 5, 0, 1, 4] Y1 (f38_k7 K)) e w) e w
abbrev f38_kl1 (K : KT) (Y1 : YT) : Exit → YT := kloop [6, 5, 0, 1, 4] Y1 (f38_k7 K)
def f38_lb1 (x9 x10 : Int) (s11a : Option Addr) (s11l s11c : Nat) (v12 : Value) (s13a : Option Addr) (s13l s13c : Nat) (w : World) (K : KT) (Y1 : YT) : Prop := Join (fun e w => CS P (codeAt c38 [1, 1, 1, 0, 1, 0, 0]) none [6, 5, 0, 1, 4] [4, 5, 0] (f38_kl1 K Y1) e w) (Env.mk 42 [(6, (Value.int .i64 x9)), (5, (Value.int .i64 x10)), (0, (Value.slice s11a s11l s11c)), (1, v12), (4, (Value.slice s13a s13l s13c))] []) w
abbrev f38_k8 (K : KT) (Y1 : YT) : Exit → YT := kseq P (codeAt c38 [1, 1, 1, 0, 1, 0, 0, 0]) (codeAt c38 [1, 1, 1, 0, 1, 0, 0, 1]) none [6, 5, 0, 1, 4] [4, 5, 0] (f38_kl1 K Y1)
abbrev f38_k9 (K : KT) (Y1 : YT) : Exit → YT := kseq P (codeAt c38 [1, 1, 1, 0, 1, 0, 0, 0, 0]) (codeAt c38 [1, 1, 1, 0, 1, 0, 0, 0, 1]) none [0, 1, 4, 6, 5] [4, 5, 0] (f38_k8 K Y1)
def f38_s2 (s15a : Option Addr) (s15l s15c : Nat) (v16 : Value) (s17a : Option Addr) (s17l s17c : Nat) (x18 x19 : Int) (w : World) (K : KT) (Y1 : YT) : Prop := Join (fun e w => CS P (codeAt c38 [1, 1, 1, 0, 1, 0, 0, 1]) none [6, 5, 0, 1, 4] [4, 5, 0] (f38_kl1 K Y1) e w) (Env.mk 42 [(0, (Value.slice s15a s15l s15c)), (1, v16), (4, (Value.slice s17a s17l s17c)), (6, (Value.int .i64 x18)), (5, (Value.int .i64 x19))] []) w
abbrev f38_k10 (K : KT) (Y1 : YT) : Exit → YT := kseq P (codeAt c38 [1, 1, 1, 0, 1, 0, 0, 1, 0]) (codeAt c38 [1, 1, 1, 0, 1, 0, 0, 1, 1]) none [6, 5, 0, 1, 4] [4, 5, 0] (f38_kl1 K Y1)
abbrev f38_k11 (K : KT) (Y1 : YT) : Exit → YT := kblock 1 (f38_k10 K Y1)
abbrev f38_k12 (K : KT) (Y1 : YT) : Exit → YT := kseq P (codeAt c38 [1, 1, 1, 0, 1, 0, 0, 1, 0, 0, 0]) (codeAt c38 [1, 1, 1, 0, 1, 0, 0, 1, 0, 0, 1]) none [5, 0, 1, 4, 6] [4, 5, 0, 1, 6] (f38_k11 K Y1)
abbrev f38_k13 (K : KT) (Y1 : YT) : Exit → YT := kseq P (codeAt c38 [1, 1, 1, 0, 1, 0, 0, 1, 0, 0, 1, 0]) (codeAt c38 [1, 1, 1, 0, 1, 0, 0, 1, 0, 0, 1, 1]) none [5, 0, 1, 4, 6] [4, 5, 0, 1, 6] (f38_k11 K Y1)
abbrev f38_k14 (K : KT) (Y1 : YT) : Exit → YT := kseq P (codeAt c38 [1, 1, 1, 0, 1, 0, 0, 1, 0, 0, 1, 1, 0, 0]) (codeAt c38 [1, 1, 1, 0, 1, 0, 0, 1, 0, 0, 1, 1, 0, 1]) none [5, 0, 1, 4, 6] [4, 5, 0, 1, 6] (f38_k11 K Y1)
def f38_s3 (x32 : Int) (s33a : Option Addr) (s33l s33c : Nat) (v34 : Value) (s35a : Option Addr) (s35l s35c : Nat) (x36 : Int) (w : World) (K : KT) (Y1 : YT) : Prop := Join (fun e w => CS P (codeAt c38 [1, 1, 1, 0, 1, 0, 0, 1, 1]) none [6, 5, 0, 1, 4] [4, 5, 0] (f38_kl1 K Y1) e w) (Env.mk 42 [(5, (Value.int .i64 x32)), (0, (Value.slice s33a s33l s33c)), (1, v34), (4, (Value.slice s35a s35l s35c)), (6, (Value.int .i64 x36))] []) w
theorem f38_s3_eq (x32 : Int) (s33a : Option Addr) (s33l s33c : Nat) (v34 : Value) (s35a : Option Addr) (s35l s35c : Nat) (x36 : Int) (w : World) (K : KT) (Y1 : YT) : f38_s3 x32 s33a s33l s33c v34 s35a s35l s35c x36 w K Y1 = (Y1 (Env.mk 42 [(6, (Value.int .i64 (IntKind.wrap .i64 ((x36 : Int) + 1)))), (5, (Value.int .i64 x32)), (0, (Value.slice s33a s33l s33c)), (1, v34), (4, (Value.slice s35a s35l s35c))] []) w) := by kernel_rfl
theorem f38_s2_eq (s15a : Option Addr) (s15l s15c : Nat) (v16 : Value) (s17a : Option Addr) (s17l s17c : Nat) (x18 x19 : Int) (w : World) (K : KT) (Y1 : YT) : f38_s2 s15a s15l s15c v16 s17a s17l s17c x18 x19 w K Y1 = (optS s15a (fun a20 => 0 ≤ (x18 : Int) ∧ (x18 : Int) < (s15l : Nat) ∧ LdA 11 (a20.add (Int.toNat x18 * 11)) w (fun cs21 => NewC (zcells P 47) 47 w (fun n22 w23 => StA 11 (Addr.mk n22 0 none) cs21 w23 (fun w24 => LdA 11 (Addr.mk n22 0 none) w24 (fun cs25 => CallF P v16 [(Value.agg cs25)] w24 (fun r26 w27 => ∃ b28 : Bool, r26 = (Value.bool b28) ∧ BIf (!b28) (LdA 11 (Addr.mk n22 0 none) w27 (fun cs29 => optS s15a (fun a30 => 0 ≤ (x19 : Int) ∧ (x19 : Int) < (s15l : Nat) ∧ StA 11 (a30.add (Int.toNat x19 * 11)) cs29 w27 (fun w31 => f38_s3 (IntKind.wrap .i64 ((x19 : Int) + 1)) s15a s15l s15c v16 s17a s17l s17c x18 w31 K Y1)))) (f38_s3 x19 s15a s15l s15c v16 s17a s17l s17c x18 w27 K Y1)))))))) := by kernel_rfl
def f38_s4 (x37 : Int) (s38a : Option Addr) (s38l s38c : Nat) (w : World) (K : KT) : Prop := Join (fun e w => CS P (codeAt c38 [1, 1, 1, 1]) none [4] [4] (f38_kb K) e w) (Env.mk 42 [(5, (Value.int .i64 x37)), (0, (Value.slice s38a s38l s38c))] []) w
abbrev f38_k15 (K : KT) : Exit → YT := kseq P (codeAt c38 [1, 1, 1, 1, 0]) (codeAt c38 [1, 1, 1, 1, 1]) none [4] [4] (f38_kb K)
abbrev f38_k16 (K : KT) : Exit → YT := kseq P (codeAt c38 [1, 1, 1, 1, 1, 0]) (codeAt c38 [1, 1, 1, 1, 1, 1]) none [4] [4] (f38_kb K)
theorem f38_s4_eq (x37 : Int) (s38a : Option Addr) (s38l s38c : Nat) (w : World) (K : KT) : f38_s4 x37 s38a s38l s38c w K = (∃ (s39a : Option Addr) (s39l s39c : Nat), (∀ wq, (Instr.sliceAt 25 (Value.slice s38a s38l s38c) (some (Value.int .i64 x37)) none none).run P wq = .ok (Value.slice s39a s39l s39c) wq) ∧ ∃ w40 : World, (Builtin.clear_ #[25] 0 [(Value.slice s39a s39l s39c)].toArray).run P w = .ok (Value.tuple [].toArray) w40 ∧ ∃ (s41a : Option Addr) (s41l s41c : Nat), (∀ wq, (Instr.sliceAt 25 (Value.slice s38a s38l s38c) none (some (Value.int .i64 x37)) none).run P wq = .ok (Value.slice s41a s41l s41c) wq) ∧ K (Value.slice s41a s41l s41c) w40) := by kernel_rfl
theorem f38_lb1_eq (x9 x10 : Int) (s11a : Option Addr) (s11l s11c : Nat) (v12 : Value) (s13a : Option Addr) (s13l s13c : Nat) (w : World) (K : KT) (Y1 : YT) : f38_lb1 x9 x10 s11a s11l s11c v12 s13a s13l s13c w K Y1 = (∃ x14 : Int, (∀ wq, Ext w wq → (Builtin.len_ #[25] 3 [(Value.slice s11a s11l s11c)].toArray).run P wq = .ok (Value.int .i64 x14) wq) ∧ BIf (decide ((x9 : Int) < x14)) (f38_s2 s11a s11l s11c v12 s13a s13l s13c x9 x10 w K Y1) (f38_s4 x10 s11a s11l s11c w K)) := by kernel_rfl
theorem f38_s0_eq (x5 : Int) (s6a : Option Addr) (s6l s6c : Nat) (v7 : Value) (s8a : Option Addr) (s8l s8c : Nat) (w : World) (K : KT) : f38_s0 x5 s6a s6l s6c v7 s8a s8l s8c w K = (LoopE (f38_lp1 K) (Env.mk 42 [(6, (Value.int .i64 (IntKind.wrap .i64 ((x5 : Int) + 1)))), (5, (Value.int .i64 x5)), (0, (Value.slice s6a s6l s6c)), (1, v7), (4, (Value.slice s8a s8l s8c))] []) w) := by kernel_rfl
theorem f38_eq (s0a : Option Addr) (s0l s0c : Nat) (v1 : Value) (w : World) (K : KT) : f38 s0a s0l s0c v1 w K = (CallL P 61 [(Value.slice s0a s0l s0c), v1] w (fun r2 w3 => ∃ x4 : Int, r2 = (Value.int .i64 x4) ∧ BIf ((x4 : Int) == (-1)) (K (Value.slice s0a s0l s0c) w3) (f38_s0 x4 s0a s0l s0c v1 none 0 0 w3 K))) := by kernel_rfl
theorem c38_eq : Go.Proofs.Try.f38.body = some c38 := by kernel_rfl
theorem f38_un (s0a : Option Addr) (s0l s0c : Nat) (v1 : Value) (w : World) (K : KT) : f38 s0a s0l s0c v1 w K = CS P c38 none (resT Go.Proofs.Try.f38.results.toList) (resT Go.Proofs.Try.f38.results.toList) (bodyK P Go.Proofs.Try.f38.results.toList K) (env0 Go.Proofs.Try.f38.ntmps [(Value.slice s0a s0l s0c), v1]) w := by kernel_rfl
theorem f38_ok (s0a : Option Addr) (s0l s0c : Nat) (v1 : Value) (w : World) (K : KT) (h : f38 s0a s0l s0c v1 w K) : CallL P 38 [(Value.slice s0a s0l s0c), v1] w K := calls_of_CS Go.Proofs.Try.func38 c38_eq (Eq.mp (f38_un s0a s0l s0c v1 w K) h)
/-! 37 candling.candlinglaw30.RaceBeginnings$1 -/
noncomputable def c37 : Code := match Go.Proofs.Try.f37.body with
  | some c => c
  | none => .skip
noncomputable def rs37 : List ResultVar := Go.Proofs.Try.f37.results.toList
abbrev f37_kb (K : KT) : Exit → YT := bodyK P rs37 K
def f37 (cs0 : Array Value) (a1 : Addr) (w : World) (K : KT) : Prop := CS P c37 none [3] [3] (f37_kb K) (env0 9 [(Value.agg cs0), (Value.pointer (some a1))]) w
abbrev f37_k0 (K : KT) : Exit → YT := kseq P (codeAt c37 [0]) (codeAt c37 [1]) none [3] [3] (f37_kb K)
abbrev f37_k1 (K : KT) : Exit → YT := kseq P (codeAt c37 [1, 0]) (codeAt c37 [1, 1]) none [3] [3] (f37_kb K)
theorem f37_eq (cs0 : Array Value) (a1 : Addr) (w : World) (K : KT) : f37 cs0 a1 w K = (NewC cs0 47 w (fun n2 w3 => ∃ x4 : Int, w3.cell? ((Addr.mk n2 0 none).add 6) = some (Value.int .i64 x4) ∧ ∃ x5 : Int, w3.cell? a1 = some (Value.int .i64 x5) ∧ K (Value.bool (decide ((x4 : Int) ≥ x5))) w3)) := by kernel_rfl
theorem c37_eq : Go.Proofs.Try.f37.body = some c37 := by kernel_rfl
theorem f37_un (cs0 : Array Value) (a1 : Addr) (w : World) (K : KT) : f37 cs0 a1 w K = CS P c37 none (resT Go.Proofs.Try.f37.results.toList) (resT Go.Proofs.Try.f37.results.toList) (bodyK P Go.Proofs.Try.f37.results.toList K) (env0 Go.Proofs.Try.f37.ntmps [(Value.agg cs0), (Value.pointer (some a1))]) w := by kernel_rfl
theorem f37_ok (cs0 : Array Value) (a1 : Addr) (w : World) (K : KT) (h : f37 cs0 a1 w K) : CallL P 37 [(Value.agg cs0), (Value.pointer (some a1))] w K := calls_of_CS Go.Proofs.Try.func37 c37_eq (Eq.mp (f37_un cs0 a1 w K) h)
/-! 61 slices.IndexFunc[[]candling.api.Race,candling.api.Race] -/
noncomputable def c61 : Code := match Go.Proofs.Try.f61.body with
  | some c => c
  | none => .skip
noncomputable def rs61 : List ResultVar := Go.Proofs.Try.f61.results.toList
abbrev f61_kb (K : KT) : Exit → YT := bodyK P rs61 K
def f61 (s0a : Option Addr) (s0l s0c : Nat) (v1 : Value) (w : World) (K : KT) : Prop := CS P c61 none [4] [4] (f61_kb K) (env0 19 [(Value.slice s0a s0l s0c), v1]) w
abbrev f61_k0 (K : KT) : Exit → YT := kseq P (codeAt c61 [0]) (codeAt c61 [1]) none [4] [4] (f61_kb K)
abbrev f61_k1 (K : KT) : Exit → YT := kseq P (codeAt c61 [1, 0]) (codeAt c61 [1, 1]) none [4] [4] (f61_kb K)
abbrev f61_k2 (K : KT) : Exit → YT := kseq P (codeAt c61 [1, 0, 0]) (codeAt c61 [1, 0, 1]) none [] [4] (f61_k1 K)
abbrev f61_k3 (K : KT) : Exit → YT := kblock 0 (f61_k1 K)
def f61_lp0 (K : KT) (Y0 : YT) (e : Env) (w : World) : Prop := Join (fun e w => CS P (codeAt c61 [1, 0, 1, 0, 0]) none [8, 0, 1, 4, 7] [4] (kloop [8, 0, 1, 4, 7] Y0 (f61_k3 K)) e w) e w
abbrev f61_kl0 (K : KT) (Y0 : YT) : Exit → YT := kloop [8, 0, 1, 4, 7] Y0 (f61_k3 K)
def f61_lb0 (x3 : Int) (s4a : Option Addr) (s4l s4c : Nat) (v5 : Value) (x6 x7 : Int) (w : World) (K : KT) (Y0 : YT) : Prop := Join (fun e w => CS P (codeAt c61 [1, 0, 1, 0, 0]) none [8, 0, 1, 4, 7] [4] (f61_kl0 K Y0) e w) (Env.mk 19 [(8, (Value.int .i64 x3)), (0, (Value.slice s4a s4l s4c)), (1, v5), (4, (Value.int .i64 x6)), (7, (Value.int .i64 x7))] []) w
abbrev f61_k4 (K : KT) (Y0 : YT) : Exit → YT := kseq P (codeAt c61 [1, 0, 1, 0, 0, 0]) (codeAt c61 [1, 0, 1, 0, 0, 1]) none [8, 0, 1, 4, 7] [4] (f61_kl0 K Y0)
abbrev f61_k5 (K : KT) (Y0 : YT) : Exit → YT := kseq P (codeAt c61 [1, 0, 1, 0, 0, 1, 0]) (codeAt c61 [1, 0, 1, 0, 0, 1, 1]) none [8, 0, 1, 4, 7] [4] (f61_kl0 K Y0)
def f61_s1 (s8a : Option Addr) (s8l s8c : Nat) (v9 : Value) (x10 x11 x12 : Int) (w : World) (K : KT) (Y0 : YT) : Prop := Join (fun e w => CS P (codeAt c61 [1, 0, 1, 0, 0, 1, 1]) none [8, 0, 1, 4, 7] [4] (f61_kl0 K Y0) e w) (Env.mk 19 [(0, (Value.slice s8a s8l s8c)), (1, v9), (7, (Value.int .i64 x10)), (8, (Value.int .i64 x11)), (4, (Value.int .i64 x12))] []) w
abbrev f61_k6 (K : KT) (Y0 : YT) : Exit → YT := kseq P (codeAt c61 [1, 0, 1, 0, 0, 1, 1, 0]) (codeAt c61 [1, 0, 1, 0, 0, 1, 1, 1]) none [8, 0, 1, 4, 7] [4] (f61_kl0 K Y0)
abbrev f61_k7 (K : KT) (Y0 : YT) : Exit → YT := kblock 1 (f61_k6 K Y0)
abbrev f61_k8 (K : KT) (Y0 : YT) : Exit → YT := kseq P (codeAt c61 [1, 0, 1, 0, 0, 1, 1, 0, 0, 0]) (codeAt c61 [1, 0, 1, 0, 0, 1, 1, 0, 0, 1]) none [0, 1, 4, 7, 8] [4, 0, 1, 7, 8] (f61_k7 K Y0)
abbrev f61_k9 (K : KT) (Y0 : YT) : Exit → YT := kseq P (codeAt c61 [1, 0, 1, 0, 0, 1, 1, 0, 0, 1, 0]) (codeAt c61 [1, 0, 1, 0, 0, 1, 1, 0, 0, 1, 1]) none [0, 1, 4, 7, 8] [4, 0, 1, 7, 8] (f61_k7 K Y0)
abbrev f61_k10 (K : KT) (Y0 : YT) : Exit → YT := kseq P (codeAt c61 [1, 0, 1, 0, 0, 1, 1, 0, 0, 1, 1, 0, 0]) (codeAt c61 [1, 0, 1, 0, 0, 1, 1, 0, 0, 1, 1, 0, 1]) none [0, 1, 4, 7, 8] [4, 0, 1, 7, 8] (f61_k7 K Y0)
def f61_s2 (s18a : Option Addr) (s18l s18c : Nat) (v19 : Value) (x20 x21 x22 : Int) (w : World) (K : KT) (Y0 : YT) : Prop := Join (fun e w => CS P (codeAt c61 [1, 0, 1, 0, 0, 1, 1, 1]) none [8, 0, 1, 4, 7] [4] (f61_kl0 K Y0) e w) (Env.mk 19 [(0, (Value.slice s18a s18l s18c)), (1, v19), (4, (Value.int .i64 x20)), (7, (Value.int .i64 x21)), (8, (Value.int .i64 x22))] []) w
theorem f61_s2_eq (s18a : Option Addr) (s18l s18c : Nat) (v19 : Value) (x20 x21 x22 : Int) (w : World) (K : KT) (Y0 : YT) : f61_s2 s18a s18l s18c v19 x20 x21 x22 w K Y0 = (Y0 (Env.mk 19 [(8, (Value.int .i64 (IntKind.wrap .i64 ((x22 : Int) + 1)))), (0, (Value.slice s18a s18l s18c)), (1, v19), (4, (Value.int .i64 x20)), (7, (Value.int .i64 x21))] []) w) := by kernel_rfl
theorem f61_s1_eq (s8a : Option Addr) (s8l s8c : Nat) (v9 : Value) (x10 x11 x12 : Int) (w : World) (K : KT) (Y0 : YT) : f61_s1 s8a s8l s8c v9 x10 x11 x12 w K Y0 = (optS s8a (fun a13 => 0 ≤ (x11 : Int) ∧ (x11 : Int) < (s8l : Nat) ∧ LdA 11 (a13.add (Int.toNat x11 * 11)) w (fun cs14 => CallF P v9 [(Value.agg cs14)] w (fun r15 w16 => ∃ b17 : Bool, r15 = (Value.bool b17) ∧ BIf b17 (K (Value.int .i64 x11) w16) (f61_s2 s8a s8l s8c v9 x12 x10 x11 w16 K Y0))))) := by kernel_rfl
def f61_s3 (w : World) (K : KT) : Prop := Join (fun e w => CS P (codeAt c61 [1, 1]) none [4] [4] (f61_kb K) e w) (Env.mk 19 [] []) w
abbrev f61_k11 (K : KT) : Exit → YT := kseq P (codeAt c61 [1, 1, 0]) (codeAt c61 [1, 1, 1]) none [4] [4] (f61_kb K)
theorem f61_s3_eq (w : World) (K : KT) : f61_s3 w K = (K (Value.int .i64 (-1)) w) := by kernel_rfl
theorem f61_lb0_eq (x3 : Int) (s4a : Option Addr) (s4l s4c : Nat) (v5 : Value) (x6 x7 : Int) (w : World) (K : KT) (Y0 : YT) : f61_lb0 x3 s4a s4l s4c v5 x6 x7 w K Y0 = (BIf (decide ((x3 : Int) < x7)) (f61_s1 s4a s4l s4c v5 x7 x3 x6 w K Y0) (f61_s3 w K)) := by kernel_rfl
theorem f61_eq (s0a : Option Addr) (s0l s0c : Nat) (v1 : Value) (w : World) (K : KT) : f61 s0a s0l s0c v1 w K = (∃ x2 : Int, (∀ wq, Ext w wq → (Builtin.len_ #[25] 3 [(Value.slice s0a s0l s0c)].toArray).run P wq = .ok (Value.int .i64 x2) wq) ∧ LoopE (f61_lp0 K) (Env.mk 19 [(8, (Value.int .i64 0)), (0, (Value.slice s0a s0l s0c)), (1, v1), (4, (Value.int .i64 0)), (7, (Value.int .i64 x2))] []) w) := by kernel_rfl
theorem c61_eq : Go.Proofs.Try.f61.body = some c61 := by kernel_rfl
theorem f61_un (s0a : Option Addr) (s0l s0c : Nat) (v1 : Value) (w : World) (K : KT) : f61 s0a s0l s0c v1 w K = CS P c61 none (resT Go.Proofs.Try.f61.results.toList) (resT Go.Proofs.Try.f61.results.toList) (bodyK P Go.Proofs.Try.f61.results.toList K) (env0 Go.Proofs.Try.f61.ntmps [(Value.slice s0a s0l s0c), v1]) w := by kernel_rfl
theorem f61_ok (s0a : Option Addr) (s0l s0c : Nat) (v1 : Value) (w : World) (K : KT) (h : f61 s0a s0l s0c v1 w K) : CallL P 61 [(Value.slice s0a s0l s0c), v1] w K := calls_of_CS Go.Proofs.Try.func61 c61_eq (Eq.mp (f61_un s0a s0l s0c v1 w K) h)
end Go.Fx.Try
namespace Go.Fx.Try
open Go Go.Fx Go.Fx.Mo
open Go.Proofs
variable {w0 w : World} {H : List (Nat × Obj)} {K : Value → World → Prop}
set_option maxRecDepth 20000
def zacc : List Value := [I64 0, I64 0, .int .u32 0, .bool false, .bool false]
def accV (x : Option Mo.Acc) : Value := match x with
  | some a => .tuple [.agg (Acccs a).toArray, .bool true].toArray
  | none => .tuple [.agg zacc.toArray, .bool false].toArray
theorem Row.cell {size : Nat} {ov : Value} {n : Nat} {xs : List Value} (h : Row w size ov n xs) {i j : Nat} (hi : i < n) (hj : j < size) : ∃ a c, ov = .slice (some a) n c ∧ w.cell? ((a.add (i * size)).add j) = xs[i * size + j]? := by
  rcases h.2 with ⟨_, h0⟩ | ⟨a, c, h1, h2⟩
  · omega
  · have hle : i * size + size ≤ n * size := by rw [← Nat.succ_mul]; exact Nat.mul_le_mul_right _ hi
    exact ⟨a, c, h1, by rw [add_add', h2 _ (by omega)]⟩
theorem evs_cell' (l : List Ev) {i j : Nat} (hi : i < l.length) (hj : j < 6) : (evsCs l)[i * 6 + j]? = (Evcs l[i])[j]? := by
  have := congrArg (fun l => l[j]?) (evs_at hi)
  simp only [List.getElem?_take, hj, if_true, List.getElem?_drop] at this
  exact this
theorem access_ok {l : List Ev} {ov : Value} (h : St w0 w H) (hrow : ∀ w', St w0 w' H → Row w' 6 ov l.length (evsCs l)) {i : Nat} (hi : i < l.length) (b : Int) (hK : ∀ w', St w0 w' H → K (accV (accessAt l[i] i b)) w') : CallL P 58 [ov, .int .i64 i, .int .u32 b] w K := by
  obtain ⟨sa, sc, hov⟩ := (hrow w h).form
  rw [hov]
  refine f58_ok _ _ _ _ _ _ _ ?_
  rw [f58_eq, z45]
  refine h.newC fun n3 w1 hn3 h1 => ?_
  obtain ⟨a, c, hac, hld⟩ := (hrow w1 (h1.tail hn3)).ldA hi
  rw [hov] at hac
  obtain ⟨hsa, -⟩ : sa = some a ∧ sc = c := by simpa using hac
  subst hsa
  have cl : ∀ {w' : World} (j : Nat), j < 6 → St w0 w' ((n3, Cs zacc 45) :: H) → w'.cell? ((a.add (Int.toNat (i : Int) * 6)).add j) = (Evcs l[i])[j]? := fun j hj h' => by
    obtain ⟨a', c', hac', hcell⟩ := Row.cell (hrow _ (h'.tail hn3)) hi hj
    rw [hov] at hac'
    obtain ⟨rfl, -⟩ : a = a' ∧ sc = c' := by simpa using hac'
    rw [Int.toNat_natCast, hcell, evs_cell' l hi hj]
  refine ⟨by omega, by omega, hld _ ?_⟩
  rw [evs_at hi]
  refine accesses_ok h1 l[i] fun w2 h2 => ⟨_, _, _, rfl, ?_⟩
  have h2d : St w0 w2.drew ((n3, Cs zacc 45) :: H) := h2.drew
  have s0 : ∀ b', accessAt l[i] i b = (if b' = true then none else some ⟨i, l[i].th, l[i].pc, (accesses l[i]).1, (accesses l[i]).2.1⟩) → f58_s0 b' (Addr.mk n3 0 none) (accesses l[i]).2.1 (accesses l[i]).1 i (some a) l.length sc w2.drew K := by
    intro b' hb
    rw [f58_s0_eq, BIf_iff]
    constructor
    · rintro rfl
      refine ⟨_, build45z, h2d.stA (k := 0) rfl rfl (by simp [zacc]) (by simp [Value.oneCell']) fun w3 h3 => ?_⟩
      refine h3.ldA (k := 0) (i := 0) rfl (by simp [splice_length, zacc]) ?_
      have := hK w3 (h3.tail hn3)
      rw [hb] at this
      exact this
    · rintro rfl
      rw [f58_s1_eq]
      have h3d := h2d.drew
      refine ⟨by omega, by omega, by omega, by omega, _, cl 1 (by omega) h3d, _, cl 2 (by omega) h3d, _, build45 _ _ _ _ _, ?_⟩
      refine h3d.stA (k := 0) rfl rfl (by simp [zacc]) (Acccs_one _) fun w3 h3 => ?_
      rw [f58_s2_eq]
      refine h3.ldA (k := 0) (i := 0) rfl (by simp [splice_length, zacc]) ?_
      have := hK w3 (h3.tail hn3)
      rw [hb] at this
      exact this
  rw [BIf_iff]
  constructor
  · intro hb
    refine s0 true ?_
    simp [accessAt, hb]
  · intro hb
    have hb : (accesses l[i]).2.2 = true := by simpa using hb
    refine ⟨by omega, by omega, by omega, by omega, _, cl 3 (by omega) h2d, _, cl 5 (by omega) h2d, ?_⟩
    refine s0 _ ?_
    simp only [accessAt, hb, Bool.not_true, Bool.false_or]
    rfl
theorem mades_cell {l : List Made} (he : ∀ m ∈ l, m.last.length = 8) {i j : Nat} (hi : i < l.length) (hj : j < 9) : (mades l)[i * 9 + j]? = (madeCs l[i])[j]? := by
  have h := flat_slice (f := madeCs) (n := 9) (l := l) (fun x hx => by simp [madeCs, he x hx]) hi
  have := congrArg (fun l => l[j]?) h
  simp only [List.getElem?_take, hj, if_true, List.getElem?_drop] at this
  exact this
theorem before_ok {l : List Ev} {ov v1 v2 v3 : Value} {hh : Hist} {L1 L2 L3 : List (Nat × Obj)} (h : St w0 w H) (hrow : ∀ w', St w0 w' H → Row w' 6 ov l.length (evsCs l)) (hho : HistOk w0 hh v1 v2 v3 L1 L2 L3) (hL3 : ∀ y ∈ L3, y ∈ H)
    (hlen : hh.events.length = l.length) {x : Mo.Acc} {i j : Nat} (hi : i < l.length) (hj : j < l.length) (hx : x.ev = i) (hth : x.th = l[i].th) (ht : 0 ≤ x.th ∧ x.th < 8) (hK : ∀ w', St w0 w' H → K (.bool (before hh x j)) w') :
    CallL P 54 [.agg #[v1, v2, v3], ov, .int .i64 x.ev, .int .i64 j] w K := by
  obtain ⟨sa, sc, hov⟩ := (hrow w h).form
  obtain ⟨ea, ec, hv3⟩ := hho.s3.form
  rw [hov, hx]
  refine f54_ok _ _ _ _ _ _ _ _ ?_
  rw [f54_eq]
  refine h.newC fun n4 w1 hn4 h1 => ?_
  have hd := h1.drew
  obtain ⟨a, c, hac, hcell⟩ := Row.cell (hrow _ (hd.tail hn4)) hi (j := 1) (by omega)
  rw [hov] at hac
  obtain ⟨hsa, -⟩ : sa = some a ∧ sc = c := by simpa using hac
  subst hsa
  have hr3 : Row w1.drew 9 v3 hh.events.length (mades hh.events) := hho.s3.row fun y hy => hd.has _ _ (.tail _ (hL3 y hy))
  obtain ⟨t, hte, ht8⟩ : ∃ t : Nat, x.th = t ∧ t < 8 := ⟨x.th.toNat, by omega, by omega⟩
  obtain ⟨e1, k1, he1, hc1⟩ := Row.cell hr3 (i := j) (j := 1 + t) (by omega) (by omega)
  obtain ⟨e2, k2, he2, hc2⟩ := Row.cell hr3 (i := i) (j := 0) (by omega) (by omega)
  rw [hv3] at he1 he2
  obtain ⟨hea, -⟩ : ea = some e1 ∧ ec = k1 := by simpa using he1
  subst hea
  obtain ⟨hea2, -⟩ : e1 = e2 ∧ ec = k2 := by simpa using he2
  subst hea2
  have hj' : j < hh.events.length := by omega
  have hi' : i < hh.events.length := by omega
  have c3 : w1.drew.cell? ((Addr.mk n4 0 none).add 2) = some (.slice (some e1) hh.events.length ec) := by rw [add_lit', hd.cell (k := 0) rfl, ← hv3]; rfl
  refine ⟨by omega, by omega, some e1, _, ec, c3, by omega, by omega, l[i].th, ?_, ?_⟩
  · rw [Int.toNat_natCast, hcell, evs_cell' l hi (by omega)]; rfl
  rw [← hth]
  refine ⟨ht.1, by have := ht.2; simpa using this, hh.events[j].last.getD t 0, ?_, some e1, _, ec, c3, by omega, by omega, hh.events[i].first, ?_, ?_⟩
  · rw [hte, Int.toNat_natCast, Int.toNat_natCast, Nat.mul_one, add_add', hc1, mades_cell hho.each hj' (by omega)]
    have := hho.each _ (List.getElem_mem hj')
    simp [madeCs, Nat.add_comm 1 t, this, ht8]
  · have e0 : ∀ a : Addr, a.add 0 = a := fun a => by simp [Addr.add]
    rw [e0] at hc2
    rw [Int.toNat_natCast, hc2, mades_cell hho.each hi' (by omega)]
    rfl
  · have hb : before hh x j = decide (hh.events[j].last.getD t 0 ≥ hh.events[i].first) := by
      unfold before at0
      rw [hx, hte, Int.toNat_natCast, Int.toNat_natCast]
      have g1 : hh.events.getD j ⟨0, []⟩ = hh.events[j] := by rw [List.getD_eq_getElem?_getD, List.getElem?_eq_getElem hj']; rfl
      have g2 : hh.events.getD i ⟨0, []⟩ = hh.events[i] := by rw [List.getD_eq_getElem?_getD, List.getElem?_eq_getElem hi']; rfl
      rw [g1, g2]
    rw [← hb]
    exact hK _ (hd.tail hn4)
end Go.Fx.Try
namespace Go.Fx.Try
open Go Go.Fx Go.Fx.Mo
open Go.Proofs
variable {w0 w : World} {H : List (Nat × Obj)} {K : Value → World → Prop}
set_option maxRecDepth 20000
def accsCs (l : List Mo.Acc) : List Value := (l.map Acccs).flatten
theorem accs_at {l : List Mo.Acc} {i : Nat} (hi : i < l.length) : ((accsCs l).drop (i * 5)).take 5 = Acccs l[i] := flat_slice (f := Acccs) (fun x _ => Acccs_len x) hi
theorem accsCs_snoc (l : List Mo.Acc) (a : Mo.Acc) : accsCs (l ++ [a]) = accsCs l ++ Acccs a := by simp [accsCs]
theorem info45 : P.info? 45 = some Try.t45 := by kernel_rfl
theorem run_len_106 {p : Option Addr} {l c : Nat} (wq : World) : (Builtin.len_ #[106] 3 [Value.slice p l c].toArray).run P wq = .ok (.int .i64 l) wq := run_len_slice p l c Try.underlying106 3
/-- What All knows of the accesses that it has met. -/
def HadOk (l : List Ev) (had : List Mo.Acc) : Prop := ∀ x ∈ had, ∃ i, ∃ hi : i < l.length, x.ev = (i : Int) ∧ x.th = l[i].th
section
variable {l : List Ev} {hh : Hist} {v1 v2 v3 : Value} {L1 L2 L3 : List (Nat × Obj)} {n6 : Nat} {sa : Option Addr} {sc : Nat}
abbrev allY (n6 : Nat) (v1 v2 v3 : Value) (L1 L2 L3 H : List (Nat × Obj)) : List (Nat × Obj) := (n6, Cs [v1, v2, v3] 89) :: (L1 ++ (L2 ++ (L3 ++ H)))
theorem all_s4 {n37 j : Nat} {y : Mo.Acc} {b : Int} {had : List Mo.Acc} {out : List Mo.Race} {oa ha : Option Addr} {oc hc : Nat} {Lo Lh : List (Nat × Obj)} {Y1 : Env → World → Prop}
    (hrow : ∀ w', St w0 w' H → Row w' 6 (.slice sa l.length sc) l.length (evsCs l)) (hho : HistOk w0 hh v1 v2 v3 L1 L2 L3) (hlen : hh.events.length = l.length) (hth : ∀ e ∈ l, 0 ≤ e.th ∧ e.th < 8) (hl : l.length ≤ 20000) (hn6 : w0.heap.size ≤ n6) (hn37 : w0.heap.size ≤ n37)
    (hj : j < l.length) (hhad : HadOk l had) (hhl : had.length ≤ j) (hol : out.length ≤ 1000) (hy : ∃ hj : j < l.length, y.ev = (j : Int) ∧ y.th = l[j].th)
    (hS : SlO 11 47 (.slice oa out.length oc) out.length (racesCs out) Lo) (hN : New w0 Lo) (hSh : SlO 5 45 (.slice ha had.length hc) had.length (accsCs had) Lh) (hNh : New w0 Lh)
    (h : St w0 w ((n37, Cs (Acccs y) 45) :: (Lo ++ (Lh ++ allY n6 v1 v2 v3 L1 L2 L3 H))))
    (herr : allIn hh b y j had out = none → ∀ w', St w0 w' H → K (.tuple [nilS, I64 2].toArray) w')
    (hnext : ∀ out', allIn hh b y j had out = some out' → ∀ w' oa' oc' Lo' ha' hc' Lh', SlO 11 47 (.slice oa' out'.length oc') out'.length (racesCs out') Lo' → New w0 Lo' → SlO 5 45 (.slice ha' (had.length + 1) hc') (had.length + 1) (accsCs (had ++ [y])) Lh' → New w0 Lh' →
      St w0 w' (Lo' ++ (Lh' ++ allY n6 v1 v2 v3 L1 L2 L3 H)) → f32_s3 none 0 0 0 oa' out'.length oc' ha' (had.length + 1) hc' b sa l.length sc (Addr.mk n6 0 none) l.length j w' K Y1) :
    f32_s4 none 0 0 0 oa out.length oc ha had.length hc b sa l.length sc (Addr.mk n6 0 none) l.length j (Addr.mk n37 0 none) j w K Y1 := by
  rw [f32_s4_eq]
  refine ⟨had.length, fun wq _ => run_len_106 wq, ?_⟩
  have fix : ∀ {w' : World} {Lo : List (Nat × Obj)} {X : List (Nat × Obj)}, New w0 X → New w0 Lo → St w0 w' (X ++ ((n37, Cs (Acccs y) 45) :: (Lo ++ (Lh ++ allY n6 v1 v2 v3 L1 L2 L3 H)))) → St w0 w' H := fun hX hLo h' => by
    have h1 := (h'.sub hX).tail hn37
    exact (((((h1.sub hLo).sub hNh).tail hn6).sub hho.n1).sub hho.n2).sub hho.n3
  refine ⟨fun m ee w' => ∃ (k : Nat) (out' : List Mo.Race) (oa' : Option Addr) (oc' : Nat) (Lo' : List (Nat × Obj)), k ≤ had.length ∧ m = had.length - k ∧
    ee = Env.mk 72 [(4, nilS), (5, (Value.int .i64 0)), (9, (Value.slice oa' out'.length oc')), (8, (Value.slice ha had.length hc)), (1, (Value.int .u32 b)), (0, (Value.slice sa l.length sc)), (6, (ptr n6)), (24, (Value.int .i64 l.length)), (25, (Value.int .i64 j)), (11, (ptr n37)), (39, (Value.int .i64 k)), (10, (Value.int .i64 j)), (37, (Value.slice ha had.length hc)), (38, (Value.int .i64 had.length))] [] ∧
    allIn hh b y j had out = allIn hh b y j (had.drop k) out' ∧ out'.length ≤ 1000 ∧ SlO 11 47 (.slice oa' out'.length oc') out'.length (racesCs out') Lo' ∧ New w0 Lo' ∧ St w0 w' ((n37, Cs (Acccs y) 45) :: (Lo' ++ (Lh ++ allY n6 v1 v2 v3 L1 L2 L3 H))),
    ⟨had.length, 0, out, oa, oc, Lo, by omega, rfl, rfl, rfl, hol, hS, hN, h⟩, ?_⟩
  rintro m ee w1 ⟨k, out', oa', oc', Lo', hk, rfl, rfl, hin, hol', hS', hN', h1⟩
  show f32_lb5 _ _ _ _ _ _ _ _ _ _ _ _ _ _ _ _ _ _ _ _ _ _ _ _ _ _ _ _
  rw [f32_lb5_eq, BIf_iff]
  constructor
  · intro hlt
    have hlt : k < had.length := by simpa using hlt
    rw [f32_s6_eq]
    obtain ⟨g, cc, hg, hld⟩ := slO_ldA hSh (w := w1) (i := k) (fun y hy => h1.has _ _ (by simp [hy])) hlt
    obtain ⟨hsa, -⟩ : ha = some ⟨g, 0, none⟩ ∧ hc = cc := by simpa using hg
    subst hsa
    refine ⟨by omega, by omega, hld _ ?_⟩
    rw [accs_at hlt, z45]
    refine h1.newC fun n91 w2 hn91 h2 => h2.stA (k := 0) rfl rfl (by simp) (Acccs_one _) fun w3 h3 => ?_
    have h3 : St w0 w3 ((n91, Cs (Acccs had[k]) 45) :: (n37, Cs (Acccs y) 45) :: (Lo' ++ (Lh ++ allY n6 v1 v2 v3 L1 L2 L3 H))) := h3
    refine h3.ldA (k := 0) (i := 0) rfl (by simp [Acccs_len]) (h3.ldA (k := 1) (i := 0) rfl (by simp [Acccs_len]) ?_)
    have hdrop : had.drop k = had[k] :: had.drop (k + 1) := List.drop_eq_getElem_cons hlt
    have s7 : ∀ b99 w4, St w0 w4 ((n91, Cs (Acccs had[k]) 45) :: (n37, Cs (Acccs y) 45) :: (Lo' ++ (Lh ++ allY n6 v1 v2 v3 L1 L2 L3 H))) → (!conflict had[k] y || before hh had[k] j) = b99 →
        f32_s7 b99 none 0 0 0 oa' out'.length oc' (some ⟨g, 0, none⟩) had.length hc b sa l.length sc (Addr.mk n6 0 none) l.length j (Addr.mk n37 0 none) j (some ⟨g, 0, none⟩) had.length hc had.length k (Addr.mk n91 0 none) w4 K Y1
          (fun e' w' => ∃ m, m < had.length - k ∧ ∃ (k : Nat) (out' : List Mo.Race) (oa' : Option Addr) (oc' : Nat) (Lo' : List (Nat × Obj)), k ≤ had.length ∧ m = had.length - k ∧
            e' = Env.mk 72 [(4, nilS), (5, (Value.int .i64 0)), (9, (Value.slice oa' out'.length oc')), (8, (Value.slice (some ⟨g, 0, none⟩) had.length hc)), (1, (Value.int .u32 b)), (0, (Value.slice sa l.length sc)), (6, (ptr n6)), (24, (Value.int .i64 l.length)), (25, (Value.int .i64 j)), (11, (ptr n37)), (39, (Value.int .i64 k)), (10, (Value.int .i64 j)), (37, (Value.slice (some ⟨g, 0, none⟩) had.length hc)), (38, (Value.int .i64 had.length))] [] ∧
            allIn hh b y j had out = allIn hh b y j (had.drop k) out' ∧ out'.length ≤ 1000 ∧ SlO 11 47 (.slice oa' out'.length oc') out'.length (racesCs out') Lo' ∧ New w0 Lo' ∧ St w0 w' ((n37, Cs (Acccs y) 45) :: (Lo' ++ (Lh ++ allY n6 v1 v2 v3 L1 L2 L3 H)))) := by
      intro b99 w4 h4 hb
      rw [f32_s7_eq, BIf_iff]
      constructor
      · rintro rfl
        rw [f32_s8_eq]
        refine ⟨had.length - (k + 1), by omega, k + 1, out', oa', oc', Lo', by omega, rfl, ?_, ?_, hol', hS', hN', h4.tail hn91⟩
        · rw [wrap_i64 (by omega) (by omega)]; rfl
        · rw [hin, hdrop, allIn, if_pos hb]
      · rintro rfl
        rw [f32_s9_eq]
        refine ⟨out'.length, fun wq _ => run_len_25 wq, ?_⟩
        rw [BIf_iff]
        constructor
        · intro h1000
          have h1000 : out'.length = 1000 := by simp at h1000; omega
          refine herr (by rw [hin, hdrop, allIn, if_neg (by rw [hb]; simp), if_pos h1000]) w4 (fix (X := [(n91, Cs (Acccs had[k]) 45)]) (by simpa [New] using hn91) hN' h4)
        · intro h1000
          have h1000 : ¬ out'.length = 1000 := by simp at h1000; omega
          rw [f32_s10_eq]
          refine h4.ldA (k := 0) (i := 0) rfl (by simp [Acccs_len]) (h4.ldA (k := 1) (i := 0) rfl (by simp [Acccs_len]) ⟨_, build47 b had[k] y, ⟨rfl, trivial⟩, ?_⟩)
          refine h4.newC fun n166 w5 hn166 h5 => ?_
          obtain ⟨g', cap, w6, Lo'', hr, hS'', hs6, hN''⟩ := St.append (P := P) 25 25 47 Try.t47 (.agg #[.int .u32 0, I64 0, I64 0, .int .u32 0, .bool false, .bool false, I64 0, I64 0, .int .u32 0, .bool false, .bool false]) 11 56 Try.underlying25 info47 rfl rfl rfl rfl (by omega)
            (A := [(n166, Cs (Racecs ⟨b, had[k], y⟩) 47), (n91, Cs (Acccs had[k]) 45), (n37, Cs (Acccs y) 45)]) (L := Lo') (H := Lh ++ allY n6 v1 v2 v3 L1 L2 L3 H) (by exact h5) hS' hN' (j := 0) rfl rfl (Racecs_one _) (by simp [maxLen]; omega) (by omega)
          refine ⟨_, _, _, w6, hr, ?_⟩
          have hs6 : St w0 w6 ((n166, Cs (Racecs ⟨b, had[k], y⟩) 47) :: (n91, Cs (Acccs had[k]) 45) :: (n37, Cs (Acccs y) 45) :: (Lo'' ++ (Lh ++ allY n6 v1 v2 v3 L1 L2 L3 H))) := hs6
          rw [f32_s8_eq]
          refine ⟨had.length - (k + 1), by omega, k + 1, out' ++ [⟨b, had[k], y⟩], some ⟨g', 0, none⟩, cap, Lo'', by omega, rfl, ?_, ?_, by rw [List.length_append]; simp; omega, ?_, hN'', (hs6.tail hn166).tail hn91⟩
          · rw [wrap_i64 (by omega) (by omega), List.length_append]; rfl
          · rw [hin, hdrop, allIn, if_neg (by rw [hb]; simp), if_neg h1000]
          · rw [racesCs_snoc, List.length_append]; exact hS''
    refine conflict_ok h3 had[k] y fun w4 h4 => ⟨_, rfl, ?_⟩
    rw [BIf_iff]
    constructor
    · intro hc'
      exact s7 true w4 h4 (by rw [hc']; rfl)
    · intro hc'
      refine LdA_of (n := 3) (b := n6) (cs := [v1, v2, v3]) (t := 89) (i := 0) (h4.has n6 _ (by simp)) (by simp) ?_
      obtain ⟨i, hi, hxe, hxt⟩ := hhad had[k] (List.getElem_mem hlt)
      refine ⟨had[k].ev, by rw [h4.cell (k := 0) rfl]; rfl, ?_⟩
      refine before_ok (l := l) (hh := hh) (i := i) (j := j) (x := had[k]) h4 (fun w' h' => hrow _ (fix (X := [(n91, Cs (Acccs had[k]) 45)]) (by simpa [New] using hn91) hN' h')) hho (fun z hz => by simp [hz]) hlen hi hj hxe hxt (by rw [hxt]; exact hth _ (List.getElem_mem hi)) fun w5 h5 => ⟨_, rfl, s7 _ w5 h5 ?_⟩
      rw [hc', Bool.false_or]
  · intro hge
    have : k = had.length := by simp at hge; omega
    subst this
    rw [List.drop_length] at hin
    have hin : allIn hh b y j had out = some out' := hin
    rw [f32_s11_eq]
    refine h1.ldA (k := 0) (i := 0) rfl (by simp [Acccs_len]) ⟨⟨rfl, trivial⟩, ?_⟩
    refine h1.newC fun n188 w2 hn188 h2 => ?_
    obtain ⟨g', cap, w3, Lh', hr, hSh', hs3, hNh'⟩ := St.append (P := P) 106 106 45 Try.t45 (.agg #[I64 0, I64 0, .int .u32 0, .bool false, .bool false]) 5 24 Try.underlying106 info45 rfl rfl rfl rfl (by omega)
      (A := (n188, Cs (Acccs y) 45) :: (n37, Cs (Acccs y) 45) :: Lo') (L := Lh) (H := allY n6 v1 v2 v3 L1 L2 L3 H) (by exact h2) hSh hNh (j := 0) rfl rfl (by simpa using Acccs_one y) (by simp [maxLen]; omega) (by omega)
    refine ⟨_, _, _, w3, hr, ?_⟩
    have hs3 : St w0 w3 ((n188, Cs (Acccs y) 45) :: (n37, Cs (Acccs y) 45) :: (Lo' ++ (Lh' ++ allY n6 v1 v2 v3 L1 L2 L3 H))) := hs3
    exact hnext out' hin w3 oa' oc' Lo' (some ⟨g', 0, none⟩) cap Lh' hS' hN' (by rw [accsCs_snoc]; exact hSh') hNh' ((hs3.tail hn188).tail hn37)
end
end Go.Fx.Try
namespace Go.Fx.Try
open Go Go.Fx Go.Fx.Mo
open Go.Proofs
variable {w0 w : World} {H : List (Nat × Obj)} {K : Value → World → Prop}
set_option maxRecDepth 20000
theorem HadOk.snoc {l : List Ev} {had : List Mo.Acc} (h : HadOk l had) {y : Mo.Acc} {j : Nat} (hj : j < l.length) (he : y.ev = (j : Int)) (ht : y.th = l[j].th) : HadOk l (had ++ [y]) := by
  intro x hx
  rcases List.mem_append.1 hx with hx | hx
  · exact h x hx
  · simp at hx; subst hx; exact ⟨j, hj, he, ht⟩
theorem all_ok {l : List Ev} {ov : Value} (h : St w0 w H) (hrow : ∀ w', St w0 w' H → Row w' 6 ov l.length (evsCs l)) (hl63 : l.length < 9223372036854775808) (b : Int)
    (herr : ∀ x, Mo.all l b = .inr x → x ≠ 0 → ∀ w', St w0 w' H → K (.tuple [nilS, I64 x].toArray) w')
    (hok : ∀ out, Mo.all l b = .inl out → out.length ≤ 1000 → ∀ w' rv Lo, SlO 11 47 rv out.length (racesCs out) Lo → New w0 Lo → St w0 w' (Lo ++ H) → K (.tuple [rv, I64 0].toArray) w') :
    CallL P 32 [ov, .int .u32 b] w K := by
  obtain ⟨sa, sc, hov⟩ := (hrow w h).form
  subst hov
  refine f32_ok _ _ _ _ _ _ ?_
  rw [f32_eq, z89]
  refine run_ok h hrow hl63 (fun x hx w1 h1 => ⟨_, x, rfl, ?_⟩) (fun hh hrun w1 v1 v2 v3 L1 L2 L3 hho h1 => ⟨_, 0, rfl, ?_⟩)
  · refine h1.newC fun n6 w2 hn6 h2 => h2.stA (k := 0) rfl rfl (by simp) (by simp [Value.oneCell']) fun w3 h3 => ?_
    have hx0 : x ≠ 0 := by
      unfold Mo.run at hx
      split at hx
      · cases hx; omega
      · split at hx
        · cases hx
        · cases hx; omega
    rw [show (x != 0) = true by simpa using hx0, BIf_true]
    exact herr x (by unfold Mo.all; rw [hx]) hx0 w3 (h3.tail hn6)
  · refine h1.newC fun n6 w2 hn6 h2 => h2.stA (k := 0) rfl rfl (by simp) (by
        obtain ⟨a1, c1, e1⟩ := hho.s1.form
        obtain ⟨a2, c2, e2⟩ := hho.s2.form
        obtain ⟨a3, c3, e3⟩ := hho.s3.form
        simp [e1, e2, e3, Value.oneCell']) fun w3 h3 => ?_
    have h3 : St w0 w3 (allY n6 v1 v2 v3 L1 L2 L3 H) := h3
    rw [show ((0 : Int) != 0) = false by decide, BIf_false]
    obtain ⟨hlen, hth, hl⟩ := run_facts hrun
    have hall : Mo.all l b = match allL hh b l 0 [] [] with
      | none => .inr 2
      | some out => .inl out := by
      unfold Mo.all
      rw [hrun]
      all_goals (simp only; cases allL hh b l 0 [] [] <;> rfl)
    have fix : ∀ {w' : World} {X : List (Nat × Obj)}, New w0 X → St w0 w' (X ++ allY n6 v1 v2 v3 L1 L2 L3 H) → St w0 w' H := fun hX h' => ((((h'.sub hX).tail hn6).sub hho.n1).sub hho.n2).sub hho.n3
    rw [f32_s0_eq]
    refine ⟨l.length, fun wq _ => run_len_22 wq, ?_⟩
    refine ⟨fun m ee w => ∃ (j : Nat) (out : List Mo.Race) (had : List Mo.Acc) (oa ha : Option Addr) (oc hc : Nat) (Lo Lh : List (Nat × Obj)), j ≤ l.length ∧ m = l.length - j ∧
      ee = Env.mk 72 [(4, nilS), (5, (Value.int .i64 0)), (9, (Value.slice oa out.length oc)), (25, (Value.int .i64 j)), (8, (Value.slice ha had.length hc)), (1, (Value.int .u32 b)), (0, (Value.slice sa l.length sc)), (6, (ptr n6)), (24, (Value.int .i64 l.length))] [] ∧
      allL hh b l 0 [] [] = allL hh b (l.drop j) j had out ∧ HadOk l had ∧ had.length ≤ j ∧ out.length ≤ 1000 ∧ SlO 11 47 (.slice oa out.length oc) out.length (racesCs out) Lo ∧ New w0 Lo ∧ SlO 5 45 (.slice ha had.length hc) had.length (accsCs had) Lh ∧ New w0 Lh ∧
      St w0 w (Lo ++ (Lh ++ allY n6 v1 v2 v3 L1 L2 L3 H)),
      ⟨l.length, 0, [], [], none, none, 0, 0, [], [], by omega, rfl, rfl, rfl, fun x hx => by simp at hx, by simp, by simp, SlO.nil 11 47, New.nil w0, SlO.nil 5 45, New.nil w0, h3⟩, ?_⟩
    rintro m ee w4 ⟨j, out, had, oa, ha, oc, hc, Lo, Lh, hj, rfl, rfl, hL, hhad, hhl, hol, hS, hN, hSh, hNh, h4⟩
    show f32_lb1 _ _ _ _ _ _ _ _ _ _ _ _ _ _ _ _ _ _ _ _
    have hNL : New w0 (Lo ++ Lh) := fun x hx => by
      rcases List.mem_append.1 hx with hx | hx
      · exact hN x hx
      · exact hNh x hx
    have fix4 : ∀ {w' : World}, St w0 w' (Lo ++ (Lh ++ allY n6 v1 v2 v3 L1 L2 L3 H)) → St w0 w' H := fun h' => fix (X := Lo ++ Lh) hNL (by rw [List.append_assoc]; exact h')
    rw [f32_lb1_eq, BIf_iff]
    constructor
    · intro hlt
      have hlt : j < l.length := by simpa using hlt
      rw [f32_s2_eq, z45]
      have hdrop : l.drop j = l[j] :: l.drop (j + 1) := List.drop_eq_getElem_cons hlt
      refine access_ok (l := l) h4 (fun w' h' => hrow _ (fix4 h')) hlt b fun w5 h5 => ?_
      have s3 : ∀ w6 (out' : List Mo.Race) (had' : List Mo.Acc) oa' oc' Lo' ha' hc' Lh', allL hh b l 0 [] [] = allL hh b (l.drop (j + 1)) (j + 1) had' out' → HadOk l had' → had'.length ≤ j + 1 → out'.length ≤ 1000 → SlO 11 47 (.slice oa' out'.length oc') out'.length (racesCs out') Lo' → New w0 Lo' →
          SlO 5 45 (.slice ha' had'.length hc') had'.length (accsCs had') Lh' → New w0 Lh' → St w0 w6 (Lo' ++ (Lh' ++ allY n6 v1 v2 v3 L1 L2 L3 H)) →
          f32_s3 none 0 0 0 oa' out'.length oc' ha' had'.length hc' b sa l.length sc (Addr.mk n6 0 none) l.length j w6 K (fun e' w' => ∃ m, m < l.length - j ∧ ∃ (j : Nat) (out : List Mo.Race) (had : List Mo.Acc) (oa ha : Option Addr) (oc hc : Nat) (Lo Lh : List (Nat × Obj)), j ≤ l.length ∧ m = l.length - j ∧
            e' = Env.mk 72 [(4, nilS), (5, (Value.int .i64 0)), (9, (Value.slice oa out.length oc)), (25, (Value.int .i64 j)), (8, (Value.slice ha had.length hc)), (1, (Value.int .u32 b)), (0, (Value.slice sa l.length sc)), (6, (ptr n6)), (24, (Value.int .i64 l.length))] [] ∧
            allL hh b l 0 [] [] = allL hh b (l.drop j) j had out ∧ HadOk l had ∧ had.length ≤ j ∧ out.length ≤ 1000 ∧ SlO 11 47 (.slice oa out.length oc) out.length (racesCs out) Lo ∧ New w0 Lo ∧ SlO 5 45 (.slice ha had.length hc) had.length (accsCs had) Lh ∧ New w0 Lh ∧
            St w0 w' (Lo ++ (Lh ++ allY n6 v1 v2 v3 L1 L2 L3 H))) := by
        intro w6 out' had' oa' oc' Lo' ha' hc' Lh' k1 k2 k3 k4 k5 k6 k7 k8 k9
        rw [f32_s3_eq]
        refine ⟨l.length - (j + 1), by omega, j + 1, out', had', oa', ha', oc', hc', Lo', Lh', by omega, rfl, ?_, k1, k2, k3, k4, k5, k6, k7, k8, k9⟩
        rw [wrap_i64 (by omega) (by omega)]; rfl
      cases hacc : accessAt l[j] j b with
      | none =>
        refine ⟨_, _, rfl, h5.newC fun n37 w6 hn37 h6 => h6.stA (k := 0) rfl rfl (by simp) (by simp [zacc, Value.oneCell']) fun w7 h7 => ?_⟩
        rw [Bool.not_false, BIf_true]
        exact s3 w7 out had oa oc Lo ha hc Lh (by rw [hL, hdrop, allL, hacc]) hhad (by omega) hol hS hN hSh hNh (h7.tail hn37)
      | some y =>
        have hye : y.ev = (j : Int) ∧ y.th = l[j].th := by
          unfold accessAt at hacc
          split at hacc
          · cases hacc
          · cases hacc; exact ⟨rfl, rfl⟩
        refine ⟨_, _, rfl, h5.newC fun n37 w6 hn37 h6 => h6.stA (k := 0) rfl rfl (by simp) (Acccs_one y) fun w7 h7 => ?_⟩
        rw [Bool.not_true, BIf_false]
        have h7 : St w0 w7 ((n37, Cs (Acccs y) 45) :: (Lo ++ (Lh ++ allY n6 v1 v2 v3 L1 L2 L3 H))) := h7
        refine all_s4 hrow hho hlen hth hl hn6 hn37 hlt hhad hhl hol ⟨hlt, hye⟩ hS hN hSh hNh h7 (fun hn w8 h8 => ?_) fun out' hin w8 oa' oc' Lo' ha' hc' Lh' k1 k2 k3 k4 k5 => ?_
        · exact herr 2 (by rw [hall, hL, hdrop, allL, hacc]; simp only; rw [hn]) (by omega) w8 h8
        · have := s3 w8 out' (had ++ [y]) oa' oc' Lo' ha' hc' Lh' (by rw [hL, hdrop, allL, hacc]; simp only; rw [hin]) (hhad.snoc hlt hye.1 hye.2) (by rw [List.length_append]; simp; omega) (allIn_len hol hin) k1 k2 (by rw [List.length_append]; exact k3) k4 k5
          rw [List.length_append] at this
          exact this
    · intro hge
      have : j = l.length := by simp at hge; omega
      subst this
      rw [List.drop_length] at hL
      have hL : allL hh b l 0 [] [] = some out := hL
      rw [f32_s12_eq]
      refine hok out (by rw [hall, hL]) hol w4 _ Lo hS hN ?_
      refine St.sub (L := Lh ++ ((n6, Cs [v1, v2, v3] 89) :: (L1 ++ (L2 ++ L3)))) (h4.perm (perm_by fun c => ?_)) ?_
      · simp only [List.map_append, List.map_cons, List.sum_append, List.sum_cons]; omega
      · intro x hx
        simp only [List.mem_append, List.mem_cons] at hx
        rcases hx with hx | rfl | hx | hx | hx
        · exact hNh x hx
        · exact hn6
        · exact hho.n1 x hx
        · exact hho.n2 x hx
        · exact hho.n3 x hx
end Go.Fx.Try
