/- RaceNames returns true for every list of events, words, mutex and swaps, and they read behind the call as they read before. No condition. -/
import Derived.Test.YtamciedmojpjaaaGb
import Derived.KernelRfl
import Derived.Test.YtamciedmojpjaaaGl
import Derived.Test.YtamciedmojpjaaaGg
import Derived.Test.YtamciedmojpjaaaGm
namespace Go.Fx
open Go
theorem CS_seq' {P : Program} {c a b : Code} {r : Option Nat} {Lo X L : List Nat} {K : Exit → Env → World → Prop} {e : Env} {w : World} (h : c = .seq a b) (hl : liveIn b Lo X = L) : CS P c r Lo X K e w = CS P a r L X (kseq P a b r Lo X K) e w := by subst h; subst hl; rfl
theorem CS_block' {P : Program} {c b : Code} {id : Nat} {r : Option Nat} {Lo X X' : List Nat} {K : Exit → Env → World → Prop} {e : Env} {w : World} (h : c = .block id b) (hl : union X Lo = X') : CS P c r Lo X K e w = CS P b r Lo X' (kblock id K) e w := by subst h; subst hl; rfl
theorem CS_loop' {P : Program} {c b : Code} {r : Option Nat} {Lo X X' H : List Nat} {K : Exit → Env → World → Prop} {e : Env} {w : World} (h : c = .loop b) (hx : union X Lo = X') (hl : liveIn b [] X' = H) : CS P c r Lo X K e w = LoopE (fun Y e w => Join (fun e w => CS P b r H X' (kloop H Y K) e w) e w) (e.restrict H) w := by subst h; subst hx; subst hl; rfl
theorem CS_scope' {P : Program} {c b : Code} {r : Option Nat} {Lo X : List Nat} {K : Exit → Env → World → Prop} {e : Env} {w : World} (h : c = .scope b) : CS P c r Lo X K e w = CS P b r Lo X (kscope K) e w := by subst h; rfl
end Go.Fx
namespace Go.Fx.Try
set_option maxRecDepth 100000
open Go Go.Fx
/-! 5 candling.candlinglaw30.RaceNames -/
noncomputable def c5 : Code := match Go.Proofs.Try.f5.body with
  | some c => c
  | none => .skip
noncomputable def rs5 : List ResultVar := Go.Proofs.Try.f5.results.toList
abbrev f5_kb (K : KT) : Exit → YT := bodyK P rs5 K
def f5 (a : Option Addr) (b c : Nat) (d e : Int) (f : Option Addr) (g h : Nat) (w : World) (K : KT) : Prop := CS P c5 none [8] [8] (f5_kb K) (env0 176 [(Value.slice a b c), (Value.int .u32 d), (Value.int .u32 e), (Value.slice f g h)]) w
def f5_s0 (a : Option Addr) (b c : Nat) (d e : Int) (f : Option Addr) (g h : Nat) (w : World) (K : KT) : Prop := CS P (codeAt c5 []) none [8] [8] (f5_kb K) (Env.mk 176 [(0, (Value.slice a b c)), (1, (Value.int .u32 d)), (2, (Value.int .u32 e)), (3, (Value.slice f g h))] []) w
abbrev f5_k0 (K : KT) : Exit → YT := kseq P (codeAt c5 [0]) (codeAt c5 [1]) none [8] [8] (f5_kb K)
def f5_s1 (a : Option Addr) (b c : Nat) (d e : Int) (f : Option Addr) (g h : Nat) (w : World) (K : KT) : Prop := CS P (codeAt c5 [1]) none [8] [8] (f5_kb K) (Env.mk 176 [(8, (Value.bool false)), (0, (Value.slice a b c)), (1, (Value.int .u32 d)), (2, (Value.int .u32 e)), (3, (Value.slice f g h))] []) w
abbrev f5_k1 (K : KT) : Exit → YT := kseq P (codeAt c5 [1, 0]) (codeAt c5 [1, 1]) none [8] [8] (f5_kb K)
def f5_s2 (a b : Bool) (c : Option Addr) (d e : Nat) (f g : Int) (h : Option Addr) (i j : Nat) (w : World) (K : KT) : Prop := CS P (codeAt c5 [1, 1]) none [8] [8] (f5_kb K) (Env.mk 176 [(9, (Value.bool a)), (27, (Value.bool b)), (8, (Value.bool false)), (0, (Value.slice c d e)), (1, (Value.int .u32 f)), (2, (Value.int .u32 g)), (3, (Value.slice h i j))] []) w
abbrev f5_k2 (K : KT) : Exit → YT := kseq P (codeAt c5 [1, 1, 0]) (codeAt c5 [1, 1, 1]) none [8] [8] (f5_kb K)
abbrev f5_k3 (K : KT) : Exit → YT := kseq P (codeAt c5 [1, 1, 0, 0]) (codeAt c5 [1, 1, 0, 1]) none [8, 2, 9, 0, 1, 3] [8] (f5_k2 K)
def f5_s3 (a b c : Bool) (d : Int) (f : Option Addr) (g h : Nat) (i : Int) (j : Option Addr) (k l : Nat) (w : World) (K : KT) : Prop := Join (fun e w => CS P (codeAt c5 [1, 1, 0, 1]) none [8, 2, 9, 0, 1, 3] [8] (f5_k2 K) e w) (Env.mk 176 [(40, (Value.bool a)), (9, (Value.bool b)), (8, (Value.bool c)), (2, (Value.int .u32 d)), (0, (Value.slice f g h)), (1, (Value.int .u32 i)), (3, (Value.slice j k l))] []) w
abbrev f5_k4 (K : KT) : Exit → YT := kseq P (codeAt c5 [1, 1, 0, 1, 0, 0]) (codeAt c5 [1, 1, 0, 1, 0, 1]) none [8, 2, 9, 0, 1, 3] [8] (f5_k2 K)
def f5_s4 (a : Bool) (b : Int) (c : Bool) (d : Option Addr) (f g : Nat) (h : Int) (i : Option Addr) (j k : Nat) (w : World) (K : KT) : Prop := Join (fun e w => CS P (codeAt c5 [1, 1, 1]) none [8] [8] (f5_kb K) e w) (Env.mk 176 [(8, (Value.bool a)), (2, (Value.int .u32 b)), (9, (Value.bool c)), (0, (Value.slice d f g)), (1, (Value.int .u32 h)), (3, (Value.slice i j k))] []) w
abbrev f5_k5 (K : KT) : Exit → YT := kseq P (codeAt c5 [1, 1, 1, 0]) (codeAt c5 [1, 1, 1, 1]) none [8] [8] (f5_kb K)
def f5_s5 (a : Addr) (b : Bool) (c : Int) (d : Bool) (e : Option Addr) (f g : Nat) (h : Int) (i : Option Addr) (j k : Nat) (w : World) (K : KT) : Prop := CS P (codeAt c5 [1, 1, 1, 1]) none [8] [8] (f5_kb K) (Env.mk 176 [(10, (Value.pointer (some a))), (8, (Value.bool b)), (2, (Value.int .u32 c)), (9, (Value.bool d)), (0, (Value.slice e f g)), (1, (Value.int .u32 h)), (3, (Value.slice i j k))] []) w
abbrev f5_k6 (K : KT) : Exit → YT := kseq P (codeAt c5 [1, 1, 1, 1, 0]) (codeAt c5 [1, 1, 1, 1, 1]) none [8] [8] (f5_kb K)
abbrev f5_k7 (K : KT) : Exit → YT := kseq P (codeAt c5 [1, 1, 1, 1, 0, 0]) (codeAt c5 [1, 1, 1, 1, 0, 1]) none [10, 8, 2, 9, 0, 1, 3] [8] (f5_k6 K)
def f5_s6 (a : Int) (b : Addr) (c : Bool) (d : Int) (e : Bool) (f : Option Addr) (g h : Nat) (i : Int) (j : Option Addr) (k l : Nat) (w : World) (K : KT) : Prop := CS P (codeAt c5 [1, 1, 1, 1, 0, 1]) none [10, 8, 2, 9, 0, 1, 3] [8] (f5_k6 K) (Env.mk 176 [(42, (Value.int .i64 a)), (10, (Value.pointer (some b))), (8, (Value.bool c)), (2, (Value.int .u32 d)), (9, (Value.bool e)), (0, (Value.slice f g h)), (1, (Value.int .u32 i)), (3, (Value.slice j k l))] []) w
abbrev f5_k8 (K : KT) : Exit → YT := kblock 0 (f5_k6 K)
def f5_lp7 (K : KT) (Y7 : YT) (e : Env) (w : World) : Prop := Join (fun e w => CS P (codeAt c5 [1, 1, 1, 1, 0, 1, 0, 0]) none [42, 10, 8, 2, 9, 0, 1, 3] [8, 10, 2, 9, 0, 1, 3] (kloop [42, 10, 8, 2, 9, 0, 1, 3] Y7 (f5_k8 K)) e w) e w
abbrev f5_kl7 (K : KT) (Y7 : YT) : Exit → YT := kloop [42, 10, 8, 2, 9, 0, 1, 3] Y7 (f5_k8 K)
def f5_lb7 (a : Int) (b : Addr) (c : Bool) (d : Int) (f : Bool) (g : Option Addr) (h i : Nat) (j : Int) (k : Option Addr) (l m : Nat) (w : World) (K : KT) (Y7 : YT) : Prop := Join (fun e w => CS P (codeAt c5 [1, 1, 1, 1, 0, 1, 0, 0]) none [42, 10, 8, 2, 9, 0, 1, 3] [8, 10, 2, 9, 0, 1, 3] (f5_kl7 K Y7) e w) (Env.mk 176 [(42, (Value.int .i64 a)), (10, (Value.pointer (some b))), (8, (Value.bool c)), (2, (Value.int .u32 d)), (9, (Value.bool f)), (0, (Value.slice g h i)), (1, (Value.int .u32 j)), (3, (Value.slice k l m))] []) w
abbrev f5_k9 (K : KT) (Y7 : YT) : Exit → YT := kseq P (codeAt c5 [1, 1, 1, 1, 0, 1, 0, 0, 0]) (codeAt c5 [1, 1, 1, 1, 0, 1, 0, 0, 1]) none [42, 10, 8, 2, 9, 0, 1, 3] [8, 10, 2, 9, 0, 1, 3] (f5_kl7 K Y7)
def f5_s8 (a : Bool) (b : Int) (c : Addr) (d : Bool) (e : Int) (f : Bool) (g : Option Addr) (h i : Nat) (j : Int) (k : Option Addr) (l m : Nat) (w : World) (K : KT) (Y7 : YT) : Prop := CS P (codeAt c5 [1, 1, 1, 1, 0, 1, 0, 0, 1]) none [42, 10, 8, 2, 9, 0, 1, 3] [8, 10, 2, 9, 0, 1, 3] (f5_kl7 K Y7) (Env.mk 176 [(43, (Value.bool a)), (42, (Value.int .i64 b)), (10, (Value.pointer (some c))), (8, (Value.bool d)), (2, (Value.int .u32 e)), (9, (Value.bool f)), (0, (Value.slice g h i)), (1, (Value.int .u32 j)), (3, (Value.slice k l m))] []) w
abbrev f5_k10 (K : KT) (Y7 : YT) : Exit → YT := kseq P (codeAt c5 [1, 1, 1, 1, 0, 1, 0, 0, 1, 0]) (codeAt c5 [1, 1, 1, 1, 0, 1, 0, 0, 1, 1]) none [42, 10, 8, 2, 9, 0, 1, 3] [8, 10, 2, 9, 0, 1, 3] (f5_kl7 K Y7)
def f5_s9 (a : Addr) (b : Bool) (c : Int) (d : Bool) (f : Option Addr) (g h : Nat) (i : Int) (j : Option Addr) (k l : Nat) (m : Int) (w : World) (K : KT) (Y7 : YT) : Prop := Join (fun e w => CS P (codeAt c5 [1, 1, 1, 1, 0, 1, 0, 0, 1, 1]) none [42, 10, 8, 2, 9, 0, 1, 3] [8, 10, 2, 9, 0, 1, 3] (f5_kl7 K Y7) e w) (Env.mk 176 [(10, (Value.pointer (some a))), (8, (Value.bool b)), (2, (Value.int .u32 c)), (9, (Value.bool d)), (0, (Value.slice f g h)), (1, (Value.int .u32 i)), (3, (Value.slice j k l)), (42, (Value.int .i64 m))] []) w
abbrev f5_k11 (K : KT) (Y7 : YT) : Exit → YT := kseq P (codeAt c5 [1, 1, 1, 1, 0, 1, 0, 0, 1, 1, 0]) (codeAt c5 [1, 1, 1, 1, 0, 1, 0, 0, 1, 1, 1]) none [42, 10, 8, 2, 9, 0, 1, 3] [8, 10, 2, 9, 0, 1, 3] (f5_kl7 K Y7)
abbrev f5_k12 (K : KT) (Y7 : YT) : Exit → YT := kblock 1 (f5_k11 K Y7)
abbrev f5_k13 (K : KT) (Y7 : YT) : Exit → YT := kseq P (codeAt c5 [1, 1, 1, 1, 0, 1, 0, 0, 1, 1, 0, 0, 0]) (codeAt c5 [1, 1, 1, 1, 0, 1, 0, 0, 1, 1, 0, 0, 1]) none [10, 8, 2, 9, 0, 1, 3, 42] [8, 10, 2, 9, 0, 1, 3, 42] (f5_k12 K Y7)
def f5_s10 (a : Addr) (b : Bool) (c : Int) (d : Bool) (f : Option Addr) (g h : Nat) (i : Int) (j : Option Addr) (k l : Nat) (m : Int) (w : World) (K : KT) (Y7 : YT) : Prop := Join (fun e w => CS P (codeAt c5 [1, 1, 1, 1, 0, 1, 0, 0, 1, 1, 1]) none [42, 10, 8, 2, 9, 0, 1, 3] [8, 10, 2, 9, 0, 1, 3] (f5_kl7 K Y7) e w) (Env.mk 176 [(10, (Value.pointer (some a))), (8, (Value.bool b)), (2, (Value.int .u32 c)), (9, (Value.bool d)), (0, (Value.slice f g h)), (1, (Value.int .u32 i)), (3, (Value.slice j k l)), (42, (Value.int .i64 m))] []) w
theorem f5_s10_eq (a : Addr) (c : Bool) (d : Int) (e : Bool) (f : Option Addr) (g h : Nat) (i : Int) (j : Option Addr) (k l : Nat) (m : Int) (w : World) (K : KT) (Y7 : YT) : f5_s10 a c d e f g h i j k l m w K Y7 = (Y7 (Env.mk 176 [(42, (Value.int .i64 (IntKind.wrap .i64 ((m : Int) + 1)))), (10, (Value.pointer (some a))), (8, (Value.bool c)), (2, (Value.int .u32 d)), (9, (Value.bool e)), (0, (Value.slice f g h)), (1, (Value.int .u32 i)), (3, (Value.slice j k l))] []) w) := Eq.trans (b := CS P (codeAt c5 [1, 1, 1, 1, 0, 1, 0, 0, 1, 1, 1]) none [42, 10, 8, 2, 9, 0, 1, 3] [8, 10, 2, 9, 0, 1, 3] (f5_kl7 K Y7) (Env.mk 176 [(10, (Value.pointer (some a))), (8, (Value.bool c)), (2, (Value.int .u32 d)), (9, (Value.bool e)), (0, (Value.slice f g h)), (1, (Value.int .u32 i)), (3, (Value.slice j k l)), (42, (Value.int .i64 m))] []) w) (by kernel_rfl) (by kernel_rfl)
theorem f5_s9_eq (d : Addr) (e : Bool) (f : Int) (g : Bool) (h : Option Addr) (i j : Nat) (k : Int) (l : Option Addr) (m n : Nat) (c : Int) (w : World) (K : KT) (Y7 : YT) : f5_s9 d e f g h i j k l m n c w K Y7 = (0 ≤ (c : Int) ∧ (c : Int) < (8 : Nat) ∧ St1 (d.add (Int.toNat c * 1)) (Value.int .i64 c) w (fun o => f5_s10 d e f g h i j k l m n c o K Y7)) := Eq.trans (b := CS P (codeAt c5 [1, 1, 1, 1, 0, 1, 0, 0, 1, 1]) none [42, 10, 8, 2, 9, 0, 1, 3] [8, 10, 2, 9, 0, 1, 3] (f5_kl7 K Y7) (Env.mk 176 [(10, (Value.pointer (some d))), (8, (Value.bool e)), (2, (Value.int .u32 f)), (9, (Value.bool g)), (0, (Value.slice h i j)), (1, (Value.int .u32 k)), (3, (Value.slice l m n)), (42, (Value.int .i64 c))] []) w) (by kernel_rfl) (Eq.trans (b := (CS P (codeAt c5 [1, 1, 1, 1, 0, 1, 0, 0, 1, 1, 0]) none [10, 8, 2, 9, 0, 1, 3, 42] [8, 10, 2, 9, 0, 1, 3] (f5_k11 K Y7) (Env.mk 176 [(10, (Value.pointer (some d))), (8, (Value.bool e)), (2, (Value.int .u32 f)), (9, (Value.bool g)), (0, (Value.slice h i j)), (1, (Value.int .u32 k)), (3, (Value.slice l m n)), (42, (Value.int .i64 c))] []) w)) (CS_seq' (a := (codeAt c5 [1, 1, 1, 1, 0, 1, 0, 0, 1, 1, 0])) (b := (codeAt c5 [1, 1, 1, 1, 0, 1, 0, 0, 1, 1, 1])) (by kernel_rfl) (by kernel_rfl)) (Eq.trans (b := (CS P (codeAt c5 [1, 1, 1, 1, 0, 1, 0, 0, 1, 1, 0, 0]) none [10, 8, 2, 9, 0, 1, 3, 42] [8, 10, 2, 9, 0, 1, 3, 42] (f5_k12 K Y7) (Env.mk 176 [(10, (Value.pointer (some d))), (8, (Value.bool e)), (2, (Value.int .u32 f)), (9, (Value.bool g)), (0, (Value.slice h i j)), (1, (Value.int .u32 k)), (3, (Value.slice l m n)), (42, (Value.int .i64 c))] []) w)) (CS_block' (b := (codeAt c5 [1, 1, 1, 1, 0, 1, 0, 0, 1, 1, 0, 0])) (by kernel_rfl) (by kernel_rfl)) (Eq.trans (b := (CS P (codeAt c5 [1, 1, 1, 1, 0, 1, 0, 0, 1, 1, 0, 0, 0]) none [10, 8, 2, 9, 0, 1, 3, 42, 11] [8, 10, 2, 9, 0, 1, 3, 42] (f5_k13 K Y7) (Env.mk 176 [(10, (Value.pointer (some d))), (8, (Value.bool e)), (2, (Value.int .u32 f)), (9, (Value.bool g)), (0, (Value.slice h i j)), (1, (Value.int .u32 k)), (3, (Value.slice l m n)), (42, (Value.int .i64 c))] []) w)) (CS_seq' (a := (codeAt c5 [1, 1, 1, 1, 0, 1, 0, 0, 1, 1, 0, 0, 0])) (b := (codeAt c5 [1, 1, 1, 1, 0, 1, 0, 0, 1, 1, 0, 0, 1])) (by kernel_rfl) (by kernel_rfl)) (by kernel_rfl))))
def f5_s11 (a : Addr) (b : Bool) (c : Int) (d : Bool) (f : Option Addr) (g h : Nat) (i : Int) (j : Option Addr) (k l : Nat) (w : World) (K : KT) : Prop := Join (fun e w => CS P (codeAt c5 [1, 1, 1, 1, 1]) none [8] [8] (f5_kb K) e w) (Env.mk 176 [(10, (Value.pointer (some a))), (8, (Value.bool b)), (2, (Value.int .u32 c)), (9, (Value.bool d)), (0, (Value.slice f g h)), (1, (Value.int .u32 i)), (3, (Value.slice j k l))] []) w
abbrev f5_k14 (K : KT) : Exit → YT := kseq P (codeAt c5 [1, 1, 1, 1, 1, 0]) (codeAt c5 [1, 1, 1, 1, 1, 1]) none [8] [8] (f5_kb K)
abbrev f5_k15 (K : KT) : Exit → YT := kseq P (codeAt c5 [1, 1, 1, 1, 1, 0, 0]) (codeAt c5 [1, 1, 1, 1, 1, 0, 1]) none [10, 2, 8, 9, 0, 1] [8] (f5_k14 K)
def f5_s12 (a b : Int) (c : Option Addr) (d e : Nat) (f : Addr) (g : Bool) (h : Int) (i : Bool) (j : Option Addr) (k l : Nat) (m : Int) (n : Option Addr) (o p : Nat) (w : World) (K : KT) : Prop := CS P (codeAt c5 [1, 1, 1, 1, 1, 0, 1]) none [10, 2, 8, 9, 0, 1] [8] (f5_k14 K) (Env.mk 176 [(51, (Value.int .i64 a)), (50, (Value.int .i64 b)), (49, (Value.slice c d e)), (10, (Value.pointer (some f))), (8, (Value.bool g)), (2, (Value.int .u32 h)), (9, (Value.bool i)), (0, (Value.slice j k l)), (1, (Value.int .u32 m)), (3, (Value.slice n o p))] []) w
abbrev f5_k16 (K : KT) : Exit → YT := kblock 2 (f5_k14 K)
def f5_lp13 (K : KT) (Y13 : YT) (e : Env) (w : World) : Prop := Join (fun e w => CS P (codeAt c5 [1, 1, 1, 1, 1, 0, 1, 0, 0]) none [51, 10, 49, 8, 2, 9, 0, 1, 50] [8, 10, 2, 9, 0, 1] (kloop [51, 10, 49, 8, 2, 9, 0, 1, 50] Y13 (f5_k16 K)) e w) e w
abbrev f5_kl13 (K : KT) (Y13 : YT) : Exit → YT := kloop [51, 10, 49, 8, 2, 9, 0, 1, 50] Y13 (f5_k16 K)
def f5_lb13 (a : Int) (b : Addr) (c : Option Addr) (d f : Nat) (g : Bool) (h : Int) (i : Bool) (j : Option Addr) (k l : Nat) (m n : Int) (w : World) (K : KT) (Y13 : YT) : Prop := Join (fun e w => CS P (codeAt c5 [1, 1, 1, 1, 1, 0, 1, 0, 0]) none [51, 10, 49, 8, 2, 9, 0, 1, 50] [8, 10, 2, 9, 0, 1] (f5_kl13 K Y13) e w) (Env.mk 176 [(51, (Value.int .i64 a)), (10, (Value.pointer (some b))), (49, (Value.slice c d f)), (8, (Value.bool g)), (2, (Value.int .u32 h)), (9, (Value.bool i)), (0, (Value.slice j k l)), (1, (Value.int .u32 m)), (50, (Value.int .i64 n))] []) w
abbrev f5_k17 (K : KT) (Y13 : YT) : Exit → YT := kseq P (codeAt c5 [1, 1, 1, 1, 1, 0, 1, 0, 0, 0]) (codeAt c5 [1, 1, 1, 1, 1, 0, 1, 0, 0, 1]) none [51, 10, 49, 8, 2, 9, 0, 1, 50] [8, 10, 2, 9, 0, 1] (f5_kl13 K Y13)
def f5_s14 (a : Bool) (b : Int) (c : Addr) (d : Option Addr) (e f : Nat) (g : Bool) (h : Int) (i : Bool) (j : Option Addr) (k l : Nat) (m n : Int) (w : World) (K : KT) (Y13 : YT) : Prop := CS P (codeAt c5 [1, 1, 1, 1, 1, 0, 1, 0, 0, 1]) none [51, 10, 49, 8, 2, 9, 0, 1, 50] [8, 10, 2, 9, 0, 1] (f5_kl13 K Y13) (Env.mk 176 [(52, (Value.bool a)), (51, (Value.int .i64 b)), (10, (Value.pointer (some c))), (49, (Value.slice d e f)), (8, (Value.bool g)), (2, (Value.int .u32 h)), (9, (Value.bool i)), (0, (Value.slice j k l)), (1, (Value.int .u32 m)), (50, (Value.int .i64 n))] []) w
abbrev f5_k18 (K : KT) (Y13 : YT) : Exit → YT := kseq P (codeAt c5 [1, 1, 1, 1, 1, 0, 1, 0, 0, 1, 0]) (codeAt c5 [1, 1, 1, 1, 1, 0, 1, 0, 0, 1, 1]) none [51, 10, 49, 8, 2, 9, 0, 1, 50] [8, 10, 2, 9, 0, 1] (f5_kl13 K Y13)
def f5_s15 (a : Addr) (b : Option Addr) (c d : Nat) (f : Bool) (g : Int) (h : Bool) (i : Option Addr) (j k : Nat) (l m n : Int) (w : World) (K : KT) (Y13 : YT) : Prop := Join (fun e w => CS P (codeAt c5 [1, 1, 1, 1, 1, 0, 1, 0, 0, 1, 1]) none [51, 10, 49, 8, 2, 9, 0, 1, 50] [8, 10, 2, 9, 0, 1] (f5_kl13 K Y13) e w) (Env.mk 176 [(10, (Value.pointer (some a))), (49, (Value.slice b c d)), (8, (Value.bool f)), (2, (Value.int .u32 g)), (9, (Value.bool h)), (0, (Value.slice i j k)), (1, (Value.int .u32 l)), (50, (Value.int .i64 m)), (51, (Value.int .i64 n))] []) w
abbrev f5_k19 (K : KT) (Y13 : YT) : Exit → YT := kseq P (codeAt c5 [1, 1, 1, 1, 1, 0, 1, 0, 0, 1, 1, 0]) (codeAt c5 [1, 1, 1, 1, 1, 0, 1, 0, 0, 1, 1, 1]) none [51, 10, 49, 8, 2, 9, 0, 1, 50] [8, 10, 2, 9, 0, 1] (f5_kl13 K Y13)
abbrev f5_k20 (K : KT) (Y13 : YT) : Exit → YT := kblock 3 (f5_k19 K Y13)
abbrev f5_k21 (K : KT) (Y13 : YT) : Exit → YT := kseq P (codeAt c5 [1, 1, 1, 1, 1, 0, 1, 0, 0, 1, 1, 0, 0, 0]) (codeAt c5 [1, 1, 1, 1, 1, 0, 1, 0, 0, 1, 1, 0, 0, 1]) none [10, 49, 8, 2, 9, 0, 1, 50, 51] [8, 10, 2, 9, 0, 1, 49, 50, 51] (f5_k20 K Y13)
abbrev f5_k22 (K : KT) (Y13 : YT) : Exit → YT := kseq P (codeAt c5 [1, 1, 1, 1, 1, 0, 1, 0, 0, 1, 1, 0, 0, 1, 0]) (codeAt c5 [1, 1, 1, 1, 1, 0, 1, 0, 0, 1, 1, 0, 0, 1, 1]) none [10, 49, 8, 2, 9, 0, 1, 50, 51] [8, 10, 2, 9, 0, 1, 49, 50, 51] (f5_k20 K Y13)
def f5_s16 (a : Addr) (b : Option Addr) (c d : Nat) (f : Bool) (g : Int) (h : Bool) (i : Option Addr) (j k : Nat) (l m n : Int) (w : World) (K : KT) (Y13 : YT) : Prop := Join (fun e w => CS P (codeAt c5 [1, 1, 1, 1, 1, 0, 1, 0, 0, 1, 1, 1]) none [51, 10, 49, 8, 2, 9, 0, 1, 50] [8, 10, 2, 9, 0, 1] (f5_kl13 K Y13) e w) (Env.mk 176 [(10, (Value.pointer (some a))), (49, (Value.slice b c d)), (8, (Value.bool f)), (2, (Value.int .u32 g)), (9, (Value.bool h)), (0, (Value.slice i j k)), (1, (Value.int .u32 l)), (50, (Value.int .i64 m)), (51, (Value.int .i64 n))] []) w
theorem f5_s16_eq (a : Addr) (c : Option Addr) (d e : Nat) (f : Bool) (g : Int) (h : Bool) (i : Option Addr) (j k : Nat) (l m n : Int) (w : World) (K : KT) (Y13 : YT) : f5_s16 a c d e f g h i j k l m n w K Y13 = (Y13 (Env.mk 176 [(51, (Value.int .i64 (IntKind.wrap .i64 ((n : Int) + 1)))), (10, (Value.pointer (some a))), (49, (Value.slice c d e)), (8, (Value.bool f)), (2, (Value.int .u32 g)), (9, (Value.bool h)), (0, (Value.slice i j k)), (1, (Value.int .u32 l)), (50, (Value.int .i64 m))] []) w) := Eq.trans (b := CS P (codeAt c5 [1, 1, 1, 1, 1, 0, 1, 0, 0, 1, 1, 1]) none [51, 10, 49, 8, 2, 9, 0, 1, 50] [8, 10, 2, 9, 0, 1] (f5_kl13 K Y13) (Env.mk 176 [(10, (Value.pointer (some a))), (49, (Value.slice c d e)), (8, (Value.bool f)), (2, (Value.int .u32 g)), (9, (Value.bool h)), (0, (Value.slice i j k)), (1, (Value.int .u32 l)), (50, (Value.int .i64 m)), (51, (Value.int .i64 n))] []) w) (by kernel_rfl) (by kernel_rfl)
theorem f5_s15_eq (d : Addr) (e : Option Addr) (f h : Nat) (i : Bool) (j : Int) (k : Bool) (l : Option Addr) (m n : Nat) (o p c : Int) (w : World) (K : KT) (Y13 : YT) : f5_s15 d e f h i j k l m n o p c w K Y13 = (optS e (fun s => 0 ≤ (c : Int) ∧ (c : Int) < (f : Nat) ∧ ∃ g : Int, w.cell? (s.add (Int.toNat c * 1)) = some (Value.int .i64 g) ∧ (7 : Int) ≠ 0 ∧ (7 : Int) ≠ 0 ∧ 0 ≤ ((IntKind.wrap .i64 ((1 : Int) + (IntKind.wrap .i64 (((IntKind.wrap .u64 g) : Int).tmod 7)))) : Int) ∧ ((IntKind.wrap .i64 ((1 : Int) + (IntKind.wrap .i64 (((IntKind.wrap .u64 g) : Int).tmod 7)))) : Int) < (8 : Nat) ∧ 0 ≤ ((IntKind.wrap .i64 ((1 : Int) + ((c : Int).tmod 7))) : Int) ∧ ((IntKind.wrap .i64 ((1 : Int) + ((c : Int).tmod 7))) : Int) < (8 : Nat) ∧ ∃ q : Int, w.drew.cell? (d.add (Int.toNat (IntKind.wrap .i64 ((1 : Int) + (IntKind.wrap .i64 (((IntKind.wrap .u64 g) : Int).tmod 7)))) * 1)) = some (Value.int .i64 q) ∧ ∃ r : Int, w.drew.cell? (d.add (Int.toNat (IntKind.wrap .i64 ((1 : Int) + ((c : Int).tmod 7))) * 1)) = some (Value.int .i64 r) ∧ 0 ≤ ((IntKind.wrap .i64 ((1 : Int) + ((c : Int).tmod 7))) : Int) ∧ ((IntKind.wrap .i64 ((1 : Int) + ((c : Int).tmod 7))) : Int) < (8 : Nat) ∧ St1 (d.add (Int.toNat (IntKind.wrap .i64 ((1 : Int) + ((c : Int).tmod 7))) * 1)) (Value.int .i64 q) w.drew (fun t => 0 ≤ ((IntKind.wrap .i64 ((1 : Int) + (IntKind.wrap .i64 (((IntKind.wrap .u64 g) : Int).tmod 7)))) : Int) ∧ ((IntKind.wrap .i64 ((1 : Int) + (IntKind.wrap .i64 (((IntKind.wrap .u64 g) : Int).tmod 7)))) : Int) < (8 : Nat) ∧ St1 (d.add (Int.toNat (IntKind.wrap .i64 ((1 : Int) + (IntKind.wrap .i64 (((IntKind.wrap .u64 g) : Int).tmod 7)))) * 1)) (Value.int .i64 r) t (fun u => f5_s16 d e f h i j k l m n o p c u K Y13)))) := Eq.trans (b := CS P (codeAt c5 [1, 1, 1, 1, 1, 0, 1, 0, 0, 1, 1]) none [51, 10, 49, 8, 2, 9, 0, 1, 50] [8, 10, 2, 9, 0, 1] (f5_kl13 K Y13) (Env.mk 176 [(10, (Value.pointer (some d))), (49, (Value.slice e f h)), (8, (Value.bool i)), (2, (Value.int .u32 j)), (9, (Value.bool k)), (0, (Value.slice l m n)), (1, (Value.int .u32 o)), (50, (Value.int .i64 p)), (51, (Value.int .i64 c))] []) w) (by kernel_rfl) (Eq.trans (b := (CS P (codeAt c5 [1, 1, 1, 1, 1, 0, 1, 0, 0, 1, 1, 0]) none [10, 49, 8, 2, 9, 0, 1, 50, 51] [8, 10, 2, 9, 0, 1] (f5_k19 K Y13) (Env.mk 176 [(10, (Value.pointer (some d))), (49, (Value.slice e f h)), (8, (Value.bool i)), (2, (Value.int .u32 j)), (9, (Value.bool k)), (0, (Value.slice l m n)), (1, (Value.int .u32 o)), (50, (Value.int .i64 p)), (51, (Value.int .i64 c))] []) w)) (CS_seq' (a := (codeAt c5 [1, 1, 1, 1, 1, 0, 1, 0, 0, 1, 1, 0])) (b := (codeAt c5 [1, 1, 1, 1, 1, 0, 1, 0, 0, 1, 1, 1])) (by kernel_rfl) (by kernel_rfl)) (Eq.trans (b := (CS P (codeAt c5 [1, 1, 1, 1, 1, 0, 1, 0, 0, 1, 1, 0, 0]) none [10, 49, 8, 2, 9, 0, 1, 50, 51] [8, 10, 2, 9, 0, 1, 49, 50, 51] (f5_k20 K Y13) (Env.mk 176 [(10, (Value.pointer (some d))), (49, (Value.slice e f h)), (8, (Value.bool i)), (2, (Value.int .u32 j)), (9, (Value.bool k)), (0, (Value.slice l m n)), (1, (Value.int .u32 o)), (50, (Value.int .i64 p)), (51, (Value.int .i64 c))] []) w)) (CS_block' (b := (codeAt c5 [1, 1, 1, 1, 1, 0, 1, 0, 0, 1, 1, 0, 0])) (by kernel_rfl) (by kernel_rfl)) (Eq.trans (b := (CS P (codeAt c5 [1, 1, 1, 1, 1, 0, 1, 0, 0, 1, 1, 0, 0, 0]) none [10, 49, 8, 2, 9, 0, 1, 50, 51, 13, 12] [8, 10, 2, 9, 0, 1, 49, 50, 51] (f5_k21 K Y13) (Env.mk 176 [(10, (Value.pointer (some d))), (49, (Value.slice e f h)), (8, (Value.bool i)), (2, (Value.int .u32 j)), (9, (Value.bool k)), (0, (Value.slice l m n)), (1, (Value.int .u32 o)), (50, (Value.int .i64 p)), (51, (Value.int .i64 c))] []) w)) (CS_seq' (a := (codeAt c5 [1, 1, 1, 1, 1, 0, 1, 0, 0, 1, 1, 0, 0, 0])) (b := (codeAt c5 [1, 1, 1, 1, 1, 0, 1, 0, 0, 1, 1, 0, 0, 1])) (by kernel_rfl) (by kernel_rfl)) (by kernel_rfl))))
def f5_s17 (a : Addr) (b : Int) (c d : Bool) (f : Option Addr) (g h : Nat) (i : Int) (w : World) (K : KT) : Prop := Join (fun e w => CS P (codeAt c5 [1, 1, 1, 1, 1, 1]) none [8] [8] (f5_kb K) e w) (Env.mk 176 [(10, (Value.pointer (some a))), (2, (Value.int .u32 b)), (8, (Value.bool c)), (9, (Value.bool d)), (0, (Value.slice f g h)), (1, (Value.int .u32 i))] []) w
abbrev f5_k23 (K : KT) : Exit → YT := kseq P (codeAt c5 [1, 1, 1, 1, 1, 1, 0]) (codeAt c5 [1, 1, 1, 1, 1, 1, 1]) none [8] [8] (f5_kb K)
def f5_s18 (a b c : Int) (d : Addr) (e : Int) (f g : Bool) (h : Option Addr) (i j : Nat) (k : Int) (w : World) (K : KT) : Prop := CS P (codeAt c5 [1, 1, 1, 1, 1, 1, 1]) none [8] [8] (f5_kb K) (Env.mk 176 [(16, (Value.int .u32 a)), (76, (Value.int .u32 b)), (75, (Value.int .u32 c)), (10, (Value.pointer (some d))), (2, (Value.int .u32 e)), (8, (Value.bool f)), (9, (Value.bool g)), (0, (Value.slice h i j)), (1, (Value.int .u32 k))] []) w
abbrev f5_k24 (K : KT) : Exit → YT := kseq P (codeAt c5 [1, 1, 1, 1, 1, 1, 1, 0]) (codeAt c5 [1, 1, 1, 1, 1, 1, 1, 1]) none [8] [8] (f5_kb K)
def f5_s19 (a : Option Addr) (b c : Nat) (d : Option Addr) (e f : Nat) (g h i : Int) (j : Addr) (k : Int) (l m : Bool) (n : Option Addr) (o p : Nat) (q : Int) (w : World) (K : KT) : Prop := CS P (codeAt c5 [1, 1, 1, 1, 1, 1, 1, 1]) none [8] [8] (f5_kb K) (Env.mk 176 [(17, (Value.slice a b c)), (77, (Value.slice d e f)), (16, (Value.int .u32 g)), (76, (Value.int .u32 h)), (75, (Value.int .u32 i)), (10, (Value.pointer (some j))), (2, (Value.int .u32 k)), (8, (Value.bool l)), (9, (Value.bool m)), (0, (Value.slice n o p)), (1, (Value.int .u32 q))] []) w
abbrev f5_k25 (K : KT) : Exit → YT := kseq P (codeAt c5 [1, 1, 1, 1, 1, 1, 1, 1, 0]) (codeAt c5 [1, 1, 1, 1, 1, 1, 1, 1, 1]) none [8] [8] (f5_kb K)
abbrev f5_k26 (K : KT) : Exit → YT := kseq P (codeAt c5 [1, 1, 1, 1, 1, 1, 1, 1, 0, 0]) (codeAt c5 [1, 1, 1, 1, 1, 1, 1, 1, 0, 1]) none [9, 10, 8, 16, 17, 0] [8] (f5_k25 K)
def f5_s20 (a b : Int) (c : Option Addr) (d e : Nat) (f : Option Addr) (g h : Nat) (i : Option Addr) (j k : Nat) (l m n : Int) (o : Addr) (p : Int) (q r : Bool) (s : Option Addr) (t u : Nat) (v : Int) (w : World) (K : KT) : Prop := CS P (codeAt c5 [1, 1, 1, 1, 1, 1, 1, 1, 0, 1]) none [9, 10, 8, 16, 17, 0] [8] (f5_k25 K) (Env.mk 176 [(80, (Value.int .i64 a)), (79, (Value.int .i64 b)), (78, (Value.slice c d e)), (17, (Value.slice f g h)), (77, (Value.slice i j k)), (16, (Value.int .u32 l)), (76, (Value.int .u32 m)), (75, (Value.int .u32 n)), (10, (Value.pointer (some o))), (2, (Value.int .u32 p)), (8, (Value.bool q)), (9, (Value.bool r)), (0, (Value.slice s t u)), (1, (Value.int .u32 v))] []) w
abbrev f5_k27 (K : KT) : Exit → YT := kblock 4 (f5_k25 K)
def f5_lp21 (K : KT) (Y21 : YT) (e : Env) (w : World) : Prop := Join (fun e w => CS P (codeAt c5 [1, 1, 1, 1, 1, 1, 1, 1, 0, 1, 0, 0]) none [80, 10, 2, 16, 17, 78, 8, 9, 0, 79] [8, 9, 10, 16, 17, 0] (kloop [80, 10, 2, 16, 17, 78, 8, 9, 0, 79] Y21 (f5_k27 K)) e w) e w
abbrev f5_kl21 (K : KT) (Y21 : YT) : Exit → YT := kloop [80, 10, 2, 16, 17, 78, 8, 9, 0, 79] Y21 (f5_k27 K)
def f5_lb21 (a : Int) (b : Addr) (c d : Int) (f : Option Addr) (g h : Nat) (i : Option Addr) (j k : Nat) (l m : Bool) (n : Option Addr) (o p : Nat) (q : Int) (w : World) (K : KT) (Y21 : YT) : Prop := Join (fun e w => CS P (codeAt c5 [1, 1, 1, 1, 1, 1, 1, 1, 0, 1, 0, 0]) none [80, 10, 2, 16, 17, 78, 8, 9, 0, 79] [8, 9, 10, 16, 17, 0] (f5_kl21 K Y21) e w) (Env.mk 176 [(80, (Value.int .i64 a)), (10, (Value.pointer (some b))), (2, (Value.int .u32 c)), (16, (Value.int .u32 d)), (17, (Value.slice f g h)), (78, (Value.slice i j k)), (8, (Value.bool l)), (9, (Value.bool m)), (0, (Value.slice n o p)), (79, (Value.int .i64 q))] []) w
abbrev f5_k28 (K : KT) (Y21 : YT) : Exit → YT := kseq P (codeAt c5 [1, 1, 1, 1, 1, 1, 1, 1, 0, 1, 0, 0, 0]) (codeAt c5 [1, 1, 1, 1, 1, 1, 1, 1, 0, 1, 0, 0, 1]) none [80, 10, 2, 16, 17, 78, 8, 9, 0, 79] [8, 9, 10, 16, 17, 0] (f5_kl21 K Y21)
def f5_s22 (a : Bool) (b : Int) (c : Addr) (d e : Int) (f : Option Addr) (g h : Nat) (i : Option Addr) (j k : Nat) (l m : Bool) (n : Option Addr) (o p : Nat) (q : Int) (w : World) (K : KT) (Y21 : YT) : Prop := CS P (codeAt c5 [1, 1, 1, 1, 1, 1, 1, 1, 0, 1, 0, 0, 1]) none [80, 10, 2, 16, 17, 78, 8, 9, 0, 79] [8, 9, 10, 16, 17, 0] (f5_kl21 K Y21) (Env.mk 176 [(81, (Value.bool a)), (80, (Value.int .i64 b)), (10, (Value.pointer (some c))), (2, (Value.int .u32 d)), (16, (Value.int .u32 e)), (17, (Value.slice f g h)), (78, (Value.slice i j k)), (8, (Value.bool l)), (9, (Value.bool m)), (0, (Value.slice n o p)), (79, (Value.int .i64 q))] []) w
abbrev f5_k29 (K : KT) (Y21 : YT) : Exit → YT := kseq P (codeAt c5 [1, 1, 1, 1, 1, 1, 1, 1, 0, 1, 0, 0, 1, 0]) (codeAt c5 [1, 1, 1, 1, 1, 1, 1, 1, 0, 1, 0, 0, 1, 1]) none [80, 10, 2, 16, 17, 78, 8, 9, 0, 79] [8, 9, 10, 16, 17, 0] (f5_kl21 K Y21)
def f5_s23 (a : Addr) (b c : Int) (d : Option Addr) (f g : Nat) (h i : Bool) (j : Option Addr) (k l : Nat) (m n : Int) (o : Option Addr) (p q : Nat) (w : World) (K : KT) (Y21 : YT) : Prop := Join (fun e w => CS P (codeAt c5 [1, 1, 1, 1, 1, 1, 1, 1, 0, 1, 0, 0, 1, 1]) none [80, 10, 2, 16, 17, 78, 8, 9, 0, 79] [8, 9, 10, 16, 17, 0] (f5_kl21 K Y21) e w) (Env.mk 176 [(10, (Value.pointer (some a))), (2, (Value.int .u32 b)), (16, (Value.int .u32 c)), (78, (Value.slice d f g)), (8, (Value.bool h)), (9, (Value.bool i)), (0, (Value.slice j k l)), (79, (Value.int .i64 m)), (80, (Value.int .i64 n)), (17, (Value.slice o p q))] []) w
abbrev f5_k30 (K : KT) (Y21 : YT) : Exit → YT := kseq P (codeAt c5 [1, 1, 1, 1, 1, 1, 1, 1, 0, 1, 0, 0, 1, 1, 0]) (codeAt c5 [1, 1, 1, 1, 1, 1, 1, 1, 0, 1, 0, 0, 1, 1, 1]) none [80, 10, 2, 16, 17, 78, 8, 9, 0, 79] [8, 9, 10, 16, 17, 0] (f5_kl21 K Y21)
abbrev f5_k31 (K : KT) (Y21 : YT) : Exit → YT := kblock 5 (f5_k30 K Y21)
abbrev f5_k32 (K : KT) (Y21 : YT) : Exit → YT := kseq P (codeAt c5 [1, 1, 1, 1, 1, 1, 1, 1, 0, 1, 0, 0, 1, 1, 0, 0, 0]) (codeAt c5 [1, 1, 1, 1, 1, 1, 1, 1, 0, 1, 0, 0, 1, 1, 0, 0, 1]) none [10, 2, 16, 17, 78, 8, 9, 0, 79, 80] [8, 9, 10, 16, 17, 0, 2, 78, 79, 80] (f5_k31 K Y21)
def f5_s24 (a : Addr) (b c : Int) (d : Option Addr) (f g : Nat) (h : Option Addr) (i j : Nat) (k l : Bool) (m : Option Addr) (n o : Nat) (p q : Int) (w : World) (K : KT) (Y21 : YT) : Prop := Join (fun e w => CS P (codeAt c5 [1, 1, 1, 1, 1, 1, 1, 1, 0, 1, 0, 0, 1, 1, 1]) none [80, 10, 2, 16, 17, 78, 8, 9, 0, 79] [8, 9, 10, 16, 17, 0] (f5_kl21 K Y21) e w) (Env.mk 176 [(10, (Value.pointer (some a))), (2, (Value.int .u32 b)), (16, (Value.int .u32 c)), (17, (Value.slice d f g)), (78, (Value.slice h i j)), (8, (Value.bool k)), (9, (Value.bool l)), (0, (Value.slice m n o)), (79, (Value.int .i64 p)), (80, (Value.int .i64 q))] []) w
theorem f5_s24_eq (a : Addr) (c d : Int) (e : Option Addr) (f g : Nat) (h : Option Addr) (i j : Nat) (k l : Bool) (m : Option Addr) (n o : Nat) (p q : Int) (w : World) (K : KT) (Y21 : YT) : f5_s24 a c d e f g h i j k l m n o p q w K Y21 = (Y21 (Env.mk 176 [(80, (Value.int .i64 (IntKind.wrap .i64 ((q : Int) + 1)))), (10, (Value.pointer (some a))), (2, (Value.int .u32 c)), (16, (Value.int .u32 d)), (17, (Value.slice e f g)), (78, (Value.slice h i j)), (8, (Value.bool k)), (9, (Value.bool l)), (0, (Value.slice m n o)), (79, (Value.int .i64 p))] []) w) := Eq.trans (b := CS P (codeAt c5 [1, 1, 1, 1, 1, 1, 1, 1, 0, 1, 0, 0, 1, 1, 1]) none [80, 10, 2, 16, 17, 78, 8, 9, 0, 79] [8, 9, 10, 16, 17, 0] (f5_kl21 K Y21) (Env.mk 176 [(10, (Value.pointer (some a))), (2, (Value.int .u32 c)), (16, (Value.int .u32 d)), (17, (Value.slice e f g)), (78, (Value.slice h i j)), (8, (Value.bool k)), (9, (Value.bool l)), (0, (Value.slice m n o)), (79, (Value.int .i64 p)), (80, (Value.int .i64 q))] []) w) (by kernel_rfl) (by kernel_rfl)
theorem f5_s23_eq (d : Addr) (e f : Int) (g : Option Addr) (h i : Nat) (j k : Bool) (l : Option Addr) (m n : Nat) (o c : Int) (p : Option Addr) (q r : Nat) (w : World) (K : KT) (Y21 : YT) : f5_s23 d e f g h i j k l m n o c p q r w K Y21 = (optS g (fun b0 => 0 ≤ (c : Int) ∧ (c : Int) < (h : Nat) ∧ LdA 6 (b0.add (Int.toNat c * 6)) w (fun c0 => NewC (zcells P 35) 35 w (fun u d0 => StA 6 (Addr.mk u 0 none) c0 d0 (fun s => LdA 6 (Addr.mk u 0 none) s (fun e0 => LdA 8 d s (fun f0 => CallL P 19 [(Value.agg e0), (Value.int .u32 f), (Value.int .u32 e), (Value.agg f0)] s (fun g0 h0 => ∃ t : Array Value, g0 = (Value.agg t) ∧ sizesAre 6 [(Value.agg t)] ∧ NewC (([(Value.agg t)].map fun (v : Value) => v.cells.toList).flatten.toArray) 35 h0 (fun i0 j0 => ∃ (x : Option Addr) (y z : Nat), ∃ a0 : World, (Builtin.append_ #[22, 22] 22 [(Value.slice p q r), (Value.slice (some (Addr.mk i0 0 none)) 1 1)].toArray).run P j0 = .ok (Value.slice x y z) a0 ∧ f5_s24 d e f x y z g h i j k l m n o c a0 K Y21))))))))) := Eq.trans (b := CS P (codeAt c5 [1, 1, 1, 1, 1, 1, 1, 1, 0, 1, 0, 0, 1, 1]) none [80, 10, 2, 16, 17, 78, 8, 9, 0, 79] [8, 9, 10, 16, 17, 0] (f5_kl21 K Y21) (Env.mk 176 [(10, (Value.pointer (some d))), (2, (Value.int .u32 e)), (16, (Value.int .u32 f)), (78, (Value.slice g h i)), (8, (Value.bool j)), (9, (Value.bool k)), (0, (Value.slice l m n)), (79, (Value.int .i64 o)), (80, (Value.int .i64 c)), (17, (Value.slice p q r))] []) w) (by kernel_rfl) (Eq.trans (b := (CS P (codeAt c5 [1, 1, 1, 1, 1, 1, 1, 1, 0, 1, 0, 0, 1, 1, 0]) none [10, 2, 16, 17, 78, 8, 9, 0, 79, 80] [8, 9, 10, 16, 17, 0] (f5_k30 K Y21) (Env.mk 176 [(10, (Value.pointer (some d))), (2, (Value.int .u32 e)), (16, (Value.int .u32 f)), (78, (Value.slice g h i)), (8, (Value.bool j)), (9, (Value.bool k)), (0, (Value.slice l m n)), (79, (Value.int .i64 o)), (80, (Value.int .i64 c)), (17, (Value.slice p q r))] []) w)) (CS_seq' (a := (codeAt c5 [1, 1, 1, 1, 1, 1, 1, 1, 0, 1, 0, 0, 1, 1, 0])) (b := (codeAt c5 [1, 1, 1, 1, 1, 1, 1, 1, 0, 1, 0, 0, 1, 1, 1])) (by kernel_rfl) (by kernel_rfl)) (Eq.trans (b := (CS P (codeAt c5 [1, 1, 1, 1, 1, 1, 1, 1, 0, 1, 0, 0, 1, 1, 0, 0]) none [10, 2, 16, 17, 78, 8, 9, 0, 79, 80] [8, 9, 10, 16, 17, 0, 2, 78, 79, 80] (f5_k31 K Y21) (Env.mk 176 [(10, (Value.pointer (some d))), (2, (Value.int .u32 e)), (16, (Value.int .u32 f)), (78, (Value.slice g h i)), (8, (Value.bool j)), (9, (Value.bool k)), (0, (Value.slice l m n)), (79, (Value.int .i64 o)), (80, (Value.int .i64 c)), (17, (Value.slice p q r))] []) w)) (CS_block' (b := (codeAt c5 [1, 1, 1, 1, 1, 1, 1, 1, 0, 1, 0, 0, 1, 1, 0, 0])) (by kernel_rfl) (by kernel_rfl)) (Eq.trans (b := (CS P (codeAt c5 [1, 1, 1, 1, 1, 1, 1, 1, 0, 1, 0, 0, 1, 1, 0, 0, 0]) none [10, 2, 16, 78, 8, 9, 0, 79, 80, 19, 17] [8, 9, 10, 16, 17, 0, 2, 78, 79, 80] (f5_k32 K Y21) (Env.mk 176 [(10, (Value.pointer (some d))), (2, (Value.int .u32 e)), (16, (Value.int .u32 f)), (78, (Value.slice g h i)), (8, (Value.bool j)), (9, (Value.bool k)), (0, (Value.slice l m n)), (79, (Value.int .i64 o)), (80, (Value.int .i64 c)), (17, (Value.slice p q r))] []) w)) (CS_seq' (a := (codeAt c5 [1, 1, 1, 1, 1, 1, 1, 1, 0, 1, 0, 0, 1, 1, 0, 0, 0])) (b := (codeAt c5 [1, 1, 1, 1, 1, 1, 1, 1, 0, 1, 0, 0, 1, 1, 0, 0, 1])) (by kernel_rfl) (by kernel_rfl)) (by kernel_rfl))))
def f5_s25 (a : Bool) (b : Addr) (c : Bool) (d : Int) (f : Option Addr) (g h : Nat) (i : Option Addr) (j k : Nat) (w : World) (K : KT) : Prop := Join (fun e w => CS P (codeAt c5 [1, 1, 1, 1, 1, 1, 1, 1, 1]) none [8] [8] (f5_kb K) e w) (Env.mk 176 [(9, (Value.bool a)), (10, (Value.pointer (some b))), (8, (Value.bool c)), (16, (Value.int .u32 d)), (17, (Value.slice f g h)), (0, (Value.slice i j k))] []) w
abbrev f5_k33 (K : KT) : Exit → YT := kseq P (codeAt c5 [1, 1, 1, 1, 1, 1, 1, 1, 1, 0]) (codeAt c5 [1, 1, 1, 1, 1, 1, 1, 1, 1, 1]) none [8] [8] (f5_kb K)
def f5_s26 (a : Int) (b : Option Addr) (c d : Nat) (e : Int) (f : Option Addr) (g h : Nat) (i : Option Addr) (j k : Nat) (l : Int) (m : Option Addr) (n o : Nat) (p : Int) (q : Option Addr) (r s : Nat) (t : Bool) (u : Addr) (v : Bool) (x : Int) (y : Option Addr) (z a0 : Nat) (b0 : Option Addr) (c0 d0 : Nat) (w : World) (K : KT) : Prop := CS P (codeAt c5 [1, 1, 1, 1, 1, 1, 1, 1, 1, 1]) none [8] [8] (f5_kb K) (Env.mk 176 [(21, (Value.int .i64 a)), (20, (Value.slice b c d)), (97, (Value.int .i64 e)), (96, (Value.slice f g h)), (93, (Value.tuple [(Value.slice i j k), (Value.int .i64 l)].toArray)), (95, (Value.tuple [(Value.slice m n o), (Value.int .i64 p)].toArray)), (94, (Value.slice q r s)), (9, (Value.bool t)), (10, (Value.pointer (some u))), (8, (Value.bool v)), (16, (Value.int .u32 x)), (17, (Value.slice y z a0)), (0, (Value.slice b0 c0 d0))] []) w
abbrev f5_k34 (K : KT) : Exit → YT := kseq P (codeAt c5 [1, 1, 1, 1, 1, 1, 1, 1, 1, 1, 0]) (codeAt c5 [1, 1, 1, 1, 1, 1, 1, 1, 1, 1, 1]) none [8] [8] (f5_kb K)
def f5_s27 (a : Int) (b : Option Addr) (c d : Nat) (e : Int) (f : Option Addr) (g h : Nat) (i : Option Addr) (j k : Nat) (l : Int) (m : Option Addr) (n o : Nat) (p : Int) (q : Option Addr) (r s : Nat) (t : Int) (u : Option Addr) (v x : Nat) (y : Int) (z : Option Addr) (a0 b0 : Nat) (c0 : Option Addr) (d0 e0 : Nat) (f0 : Int) (g0 : Option Addr) (h0 i0 : Nat) (j0 : Int) (l0 : Option Addr) (m0 n0 : Nat) (o0 : Bool) (p0 : Addr) (q0 : Bool) (r0 : Int) (s0 : Option Addr) (t0 u0 : Nat) (v0 : Option Addr) (x0 y0 : Nat) (w : World) (K : KT) : Prop := CS P (codeAt c5 [1, 1, 1, 1, 1, 1, 1, 1, 1, 1, 1]) none [8] [8] (f5_kb K) (Env.mk 176 [(23, (Value.int .i64 a)), (22, (Value.slice b c d)), (102, (Value.int .i64 e)), (101, (Value.slice f g h)), (98, (Value.tuple [(Value.slice i j k), (Value.int .i64 l)].toArray)), (100, (Value.tuple [(Value.slice m n o), (Value.int .i64 p)].toArray)), (99, (Value.slice q r s)), (21, (Value.int .i64 t)), (20, (Value.slice u v x)), (97, (Value.int .i64 y)), (96, (Value.slice z a0 b0)), (93, (Value.tuple [(Value.slice c0 d0 e0), (Value.int .i64 f0)].toArray)), (95, (Value.tuple [(Value.slice g0 h0 i0), (Value.int .i64 j0)].toArray)), (94, (Value.slice l0 m0 n0)), (9, (Value.bool o0)), (10, (Value.pointer (some p0))), (8, (Value.bool q0)), (16, (Value.int .u32 r0)), (17, (Value.slice s0 t0 u0)), (0, (Value.slice v0 x0 y0))] []) w
abbrev f5_k35 (K : KT) : Exit → YT := kseq P (codeAt c5 [1, 1, 1, 1, 1, 1, 1, 1, 1, 1, 1, 0]) (codeAt c5 [1, 1, 1, 1, 1, 1, 1, 1, 1, 1, 1, 1]) none [8] [8] (f5_kb K)
abbrev f5_k36 (K : KT) : Exit → YT := kseq P (codeAt c5 [1, 1, 1, 1, 1, 1, 1, 1, 1, 1, 1, 0, 0]) (codeAt c5 [1, 1, 1, 1, 1, 1, 1, 1, 1, 1, 1, 0, 1]) none [9, 22, 10, 8, 16, 20] [8] (f5_k35 K)
def f5_s28 (a b : Bool) (c d : Int) (f : Option Addr) (g h : Nat) (i : Addr) (j : Bool) (k : Int) (l : Option Addr) (m n : Nat) (w : World) (K : KT) : Prop := Join (fun e w => CS P (codeAt c5 [1, 1, 1, 1, 1, 1, 1, 1, 1, 1, 1, 0, 1]) none [9, 22, 10, 8, 16, 20] [8] (f5_k35 K) e w) (Env.mk 176 [(108, (Value.bool a)), (9, (Value.bool b)), (23, (Value.int .i64 c)), (21, (Value.int .i64 d)), (22, (Value.slice f g h)), (10, (Value.pointer (some i))), (8, (Value.bool j)), (16, (Value.int .u32 k)), (20, (Value.slice l m n))] []) w
abbrev f5_k37 (K : KT) : Exit → YT := kseq P (codeAt c5 [1, 1, 1, 1, 1, 1, 1, 1, 1, 1, 1, 0, 1, 0, 0]) (codeAt c5 [1, 1, 1, 1, 1, 1, 1, 1, 1, 1, 1, 0, 1, 0, 1]) none [9, 22, 10, 8, 16, 20] [8] (f5_k35 K)
def f5_s29 (a : Bool) (w : World) (K : KT) : Prop := Join (fun e w => CS P (codeAt c5 [1, 1, 1, 1, 1, 1, 1, 1, 1, 1, 1, 0, 1, 0, 1]) none [9, 22, 10, 8, 16, 20] [8] (f5_k35 K) e w) (Env.mk 176 [(8, (Value.bool a))] []) w
theorem f5_s29_eq (a : Bool) (w : World) (K : KT) : f5_s29 a w K = (K (Value.bool a) w) := Eq.trans (b := CS P (codeAt c5 [1, 1, 1, 1, 1, 1, 1, 1, 1, 1, 1, 0, 1, 0, 1]) none [9, 22, 10, 8, 16, 20] [8] (f5_k35 K) (Env.mk 176 [(8, (Value.bool a))] []) w) (by kernel_rfl) (by kernel_rfl)
def f5_s30 (a : Bool) (b : Option Addr) (c d : Nat) (f : Addr) (g : Bool) (h : Int) (i : Option Addr) (j k : Nat) (w : World) (K : KT) : Prop := Join (fun e w => CS P (codeAt c5 [1, 1, 1, 1, 1, 1, 1, 1, 1, 1, 1, 1]) none [8] [8] (f5_kb K) e w) (Env.mk 176 [(9, (Value.bool a)), (22, (Value.slice b c d)), (10, (Value.pointer (some f))), (8, (Value.bool g)), (16, (Value.int .u32 h)), (20, (Value.slice i j k))] []) w
abbrev f5_k38 (K : KT) : Exit → YT := kseq P (codeAt c5 [1, 1, 1, 1, 1, 1, 1, 1, 1, 1, 1, 1, 0]) (codeAt c5 [1, 1, 1, 1, 1, 1, 1, 1, 1, 1, 1, 1, 1]) none [8] [8] (f5_kb K)
def f5_s31 (a : Option Addr) (b c : Nat) (d : Option Addr) (e f : Nat) (g : Option Addr) (h i : Nat) (j : Bool) (k : Option Addr) (l m : Nat) (n : Addr) (o : Bool) (p : Int) (q : Option Addr) (r s : Nat) (w : World) (K : KT) : Prop := CS P (codeAt c5 [1, 1, 1, 1, 1, 1, 1, 1, 1, 1, 1, 1, 1]) none [8] [8] (f5_kb K) (Env.mk 176 [(20, (Value.slice a b c)), (116, (Value.slice d e f)), (115, (Value.slice g h i)), (9, (Value.bool j)), (22, (Value.slice k l m)), (10, (Value.pointer (some n))), (8, (Value.bool o)), (16, (Value.int .u32 p)), (20, (Value.slice q r s))] []) w
abbrev f5_k39 (K : KT) : Exit → YT := kseq P (codeAt c5 [1, 1, 1, 1, 1, 1, 1, 1, 1, 1, 1, 1, 1, 0]) (codeAt c5 [1, 1, 1, 1, 1, 1, 1, 1, 1, 1, 1, 1, 1, 1]) none [8] [8] (f5_kb K)
abbrev f5_k40 (K : KT) : Exit → YT := kseq P (codeAt c5 [1, 1, 1, 1, 1, 1, 1, 1, 1, 1, 1, 1, 1, 0, 0]) (codeAt c5 [1, 1, 1, 1, 1, 1, 1, 1, 1, 1, 1, 1, 1, 0, 1]) none [9, 22, 20] [8] (f5_k39 K)
def f5_s32 (a b : Int) (c : Option Addr) (d e : Nat) (f : Option Addr) (g h : Nat) (i : Option Addr) (j k : Nat) (l : Option Addr) (m n : Nat) (o : Bool) (p : Option Addr) (q r : Nat) (s : Addr) (t : Bool) (u : Int) (v : Option Addr) (x y : Nat) (w : World) (K : KT) : Prop := CS P (codeAt c5 [1, 1, 1, 1, 1, 1, 1, 1, 1, 1, 1, 1, 1, 0, 1]) none [9, 22, 20] [8] (f5_k39 K) (Env.mk 176 [(119, (Value.int .i64 a)), (118, (Value.int .i64 b)), (117, (Value.slice c d e)), (20, (Value.slice f g h)), (116, (Value.slice i j k)), (115, (Value.slice l m n)), (9, (Value.bool o)), (22, (Value.slice p q r)), (10, (Value.pointer (some s))), (8, (Value.bool t)), (16, (Value.int .u32 u)), (20, (Value.slice v x y))] []) w
abbrev f5_k41 (K : KT) : Exit → YT := kblock 6 (f5_k39 K)
def f5_lp33 (K : KT) (Y33 : YT) (e : Env) (w : World) : Prop := Join (fun e w => CS P (codeAt c5 [1, 1, 1, 1, 1, 1, 1, 1, 1, 1, 1, 1, 1, 0, 1, 0, 0]) none [9, 22, 20, 119, 10, 8, 16, 118] [8, 9, 22, 20] (kloop [9, 22, 20, 119, 10, 8, 16, 118] Y33 (f5_k41 K)) e w) e w
abbrev f5_kl33 (K : KT) (Y33 : YT) : Exit → YT := kloop [9, 22, 20, 119, 10, 8, 16, 118] Y33 (f5_k41 K)
def f5_lb33 (a : Bool) (b : Option Addr) (c d : Nat) (f : Option Addr) (g h : Nat) (i : Int) (j : Addr) (k : Bool) (l m : Int) (w : World) (K : KT) (Y33 : YT) : Prop := Join (fun e w => CS P (codeAt c5 [1, 1, 1, 1, 1, 1, 1, 1, 1, 1, 1, 1, 1, 0, 1, 0, 0]) none [9, 22, 20, 119, 10, 8, 16, 118] [8, 9, 22, 20] (f5_kl33 K Y33) e w) (Env.mk 176 [(9, (Value.bool a)), (22, (Value.slice b c d)), (20, (Value.slice f g h)), (119, (Value.int .i64 i)), (10, (Value.pointer (some j))), (8, (Value.bool k)), (16, (Value.int .u32 l)), (118, (Value.int .i64 m))] []) w
abbrev f5_k42 (K : KT) (Y33 : YT) : Exit → YT := kseq P (codeAt c5 [1, 1, 1, 1, 1, 1, 1, 1, 1, 1, 1, 1, 1, 0, 1, 0, 0, 0]) (codeAt c5 [1, 1, 1, 1, 1, 1, 1, 1, 1, 1, 1, 1, 1, 0, 1, 0, 0, 1]) none [9, 22, 20, 119, 10, 8, 16, 118] [8, 9, 22, 20] (f5_kl33 K Y33)
def f5_s34 (a b : Bool) (c : Option Addr) (d e : Nat) (f : Option Addr) (g h : Nat) (i : Int) (j : Addr) (k : Bool) (l m : Int) (w : World) (K : KT) (Y33 : YT) : Prop := CS P (codeAt c5 [1, 1, 1, 1, 1, 1, 1, 1, 1, 1, 1, 1, 1, 0, 1, 0, 0, 1]) none [9, 22, 20, 119, 10, 8, 16, 118] [8, 9, 22, 20] (f5_kl33 K Y33) (Env.mk 176 [(120, (Value.bool a)), (9, (Value.bool b)), (22, (Value.slice c d e)), (20, (Value.slice f g h)), (119, (Value.int .i64 i)), (10, (Value.pointer (some j))), (8, (Value.bool k)), (16, (Value.int .u32 l)), (118, (Value.int .i64 m))] []) w
abbrev f5_k43 (K : KT) (Y33 : YT) : Exit → YT := kseq P (codeAt c5 [1, 1, 1, 1, 1, 1, 1, 1, 1, 1, 1, 1, 1, 0, 1, 0, 0, 1, 0]) (codeAt c5 [1, 1, 1, 1, 1, 1, 1, 1, 1, 1, 1, 1, 1, 0, 1, 0, 0, 1, 1]) none [9, 22, 20, 119, 10, 8, 16, 118] [8, 9, 22, 20] (f5_kl33 K Y33)
def f5_s35 (a : Bool) (b : Option Addr) (c d : Nat) (f : Option Addr) (g h : Nat) (i : Addr) (j k l : Int) (m : Bool) (w : World) (K : KT) (Y33 : YT) : Prop := Join (fun e w => CS P (codeAt c5 [1, 1, 1, 1, 1, 1, 1, 1, 1, 1, 1, 1, 1, 0, 1, 0, 0, 1, 1]) none [9, 22, 20, 119, 10, 8, 16, 118] [8, 9, 22, 20] (f5_kl33 K Y33) e w) (Env.mk 176 [(9, (Value.bool a)), (22, (Value.slice b c d)), (20, (Value.slice f g h)), (10, (Value.pointer (some i))), (16, (Value.int .u32 j)), (118, (Value.int .i64 k)), (119, (Value.int .i64 l)), (8, (Value.bool m))] []) w
abbrev f5_k44 (K : KT) (Y33 : YT) : Exit → YT := kseq P (codeAt c5 [1, 1, 1, 1, 1, 1, 1, 1, 1, 1, 1, 1, 1, 0, 1, 0, 0, 1, 1, 0]) (codeAt c5 [1, 1, 1, 1, 1, 1, 1, 1, 1, 1, 1, 1, 1, 0, 1, 0, 0, 1, 1, 1]) none [9, 22, 20, 119, 10, 8, 16, 118] [8, 9, 22, 20] (f5_kl33 K Y33)
abbrev f5_k45 (K : KT) (Y33 : YT) : Exit → YT := kblock 7 (f5_k44 K Y33)
abbrev f5_k46 (K : KT) (Y33 : YT) : Exit → YT := kseq P (codeAt c5 [1, 1, 1, 1, 1, 1, 1, 1, 1, 1, 1, 1, 1, 0, 1, 0, 0, 1, 1, 0, 0, 0]) (codeAt c5 [1, 1, 1, 1, 1, 1, 1, 1, 1, 1, 1, 1, 1, 0, 1, 0, 0, 1, 1, 0, 0, 1]) none [9, 22, 20, 10, 8, 16, 118, 119] [8, 9, 22, 20, 10, 16, 118, 119] (f5_k45 K Y33)
def f5_s36 (a b : Int) (c : Bool) (d : Option Addr) (e f : Nat) (g : Option Addr) (h i : Nat) (j : Addr) (k l m : Int) (n : Bool) (w : World) (K : KT) (Y33 : YT) : Prop := CS P (codeAt c5 [1, 1, 1, 1, 1, 1, 1, 1, 1, 1, 1, 1, 1, 0, 1, 0, 0, 1, 1, 0, 0, 1]) none [9, 22, 20, 10, 8, 16, 118, 119] [8, 9, 22, 20, 10, 16, 118, 119] (f5_k45 K Y33) (Env.mk 176 [(24, (Value.int .i64 a)), (121, (Value.int .i64 b)), (9, (Value.bool c)), (22, (Value.slice d e f)), (20, (Value.slice g h i)), (10, (Value.pointer (some j))), (16, (Value.int .u32 k)), (118, (Value.int .i64 l)), (119, (Value.int .i64 m)), (8, (Value.bool n))] []) w
abbrev f5_k47 (K : KT) (Y33 : YT) : Exit → YT := kseq P (codeAt c5 [1, 1, 1, 1, 1, 1, 1, 1, 1, 1, 1, 1, 1, 0, 1, 0, 0, 1, 1, 0, 0, 1, 0]) (codeAt c5 [1, 1, 1, 1, 1, 1, 1, 1, 1, 1, 1, 1, 1, 0, 1, 0, 0, 1, 1, 0, 0, 1, 1]) none [9, 22, 20, 10, 8, 16, 118, 119] [8, 9, 22, 20, 10, 16, 118, 119] (f5_k45 K Y33)
def f5_s37 (a b : Addr) (c d e : Int) (f g : Addr) (h : Int) (i : Option Addr) (j k : Nat) (l m : Int) (n : Bool) (o : Option Addr) (p q : Nat) (r : Option Addr) (s t : Nat) (u : Addr) (v x y : Int) (z : Bool) (w : World) (K : KT) (Y33 : YT) : Prop := CS P (codeAt c5 [1, 1, 1, 1, 1, 1, 1, 1, 1, 1, 1, 1, 1, 0, 1, 0, 0, 1, 1, 0, 0, 1, 1]) none [9, 22, 20, 10, 8, 16, 118, 119] [8, 9, 22, 20, 10, 16, 118, 119] (f5_k45 K Y33) (Env.mk 176 [(130, (Value.pointer (some a))), (129, (Value.pointer (some b))), (128, (Value.int .u32 c)), (127, (Value.int .u32 d)), (126, (Value.int .u32 e)), (125, (Value.pointer (some f))), (124, (Value.pointer (some g))), (123, (Value.int .i64 h)), (122, (Value.slice i j k)), (24, (Value.int .i64 l)), (121, (Value.int .i64 m)), (9, (Value.bool n)), (22, (Value.slice o p q)), (20, (Value.slice r s t)), (10, (Value.pointer (some u))), (16, (Value.int .u32 v)), (118, (Value.int .i64 x)), (119, (Value.int .i64 y)), (8, (Value.bool z))] []) w
abbrev f5_k48 (K : KT) (Y33 : YT) : Exit → YT := kseq P (codeAt c5 [1, 1, 1, 1, 1, 1, 1, 1, 1, 1, 1, 1, 1, 0, 1, 0, 0, 1, 1, 0, 0, 1, 1, 0]) (codeAt c5 [1, 1, 1, 1, 1, 1, 1, 1, 1, 1, 1, 1, 1, 0, 1, 0, 0, 1, 1, 0, 0, 1, 1, 1]) none [9, 22, 20, 10, 8, 16, 118, 119] [8, 9, 22, 20, 10, 16, 118, 119] (f5_k45 K Y33)
def f5_s38 (a : Bool) (b : Option Addr) (c d : Nat) (f : Option Addr) (g h : Nat) (i : Addr) (j k l m : Int) (n : Option Addr) (o p : Nat) (q : Bool) (r : Int) (w : World) (K : KT) (Y33 : YT) : Prop := Join (fun e w => CS P (codeAt c5 [1, 1, 1, 1, 1, 1, 1, 1, 1, 1, 1, 1, 1, 0, 1, 0, 0, 1, 1, 0, 0, 1, 1, 1]) none [9, 22, 20, 10, 8, 16, 118, 119] [8, 9, 22, 20, 10, 16, 118, 119] (f5_k45 K Y33) e w) (Env.mk 176 [(9, (Value.bool a)), (22, (Value.slice b c d)), (20, (Value.slice f g h)), (10, (Value.pointer (some i))), (16, (Value.int .u32 j)), (118, (Value.int .i64 k)), (119, (Value.int .i64 l)), (141, (Value.int .i64 m)), (139, (Value.slice n o p)), (8, (Value.bool q)), (140, (Value.int .i64 r))] []) w
abbrev f5_k49 (K : KT) (Y33 : YT) : Exit → YT := kblock 8 (f5_k45 K Y33)
def f5_lp39 (K : KT) (Y33 Y39 : YT) (e : Env) (w : World) : Prop := Join (fun e w => CS P (codeAt c5 [1, 1, 1, 1, 1, 1, 1, 1, 1, 1, 1, 1, 1, 0, 1, 0, 0, 1, 1, 0, 0, 1, 1, 1, 0, 0]) none [9, 22, 20, 10, 16, 118, 119, 141, 139, 8, 140] [8, 9, 22, 20, 10, 16, 118, 119] (kloop [9, 22, 20, 10, 16, 118, 119, 141, 139, 8, 140] Y39 (f5_k49 K Y33)) e w) e w
abbrev f5_kl39 (K : KT) (Y33 Y39 : YT) : Exit → YT := kloop [9, 22, 20, 10, 16, 118, 119, 141, 139, 8, 140] Y39 (f5_k49 K Y33)
def f5_lb39 (a : Bool) (b : Option Addr) (c d : Nat) (f : Option Addr) (g h : Nat) (i : Addr) (j k l m : Int) (n : Option Addr) (o p : Nat) (q : Bool) (r : Int) (w : World) (K : KT) (Y33 Y39 : YT) : Prop := Join (fun e w => CS P (codeAt c5 [1, 1, 1, 1, 1, 1, 1, 1, 1, 1, 1, 1, 1, 0, 1, 0, 0, 1, 1, 0, 0, 1, 1, 1, 0, 0]) none [9, 22, 20, 10, 16, 118, 119, 141, 139, 8, 140] [8, 9, 22, 20, 10, 16, 118, 119] (f5_kl39 K Y33 Y39) e w) (Env.mk 176 [(9, (Value.bool a)), (22, (Value.slice b c d)), (20, (Value.slice f g h)), (10, (Value.pointer (some i))), (16, (Value.int .u32 j)), (118, (Value.int .i64 k)), (119, (Value.int .i64 l)), (141, (Value.int .i64 m)), (139, (Value.slice n o p)), (8, (Value.bool q)), (140, (Value.int .i64 r))] []) w
abbrev f5_k50 (K : KT) (Y33 Y39 : YT) : Exit → YT := kseq P (codeAt c5 [1, 1, 1, 1, 1, 1, 1, 1, 1, 1, 1, 1, 1, 0, 1, 0, 0, 1, 1, 0, 0, 1, 1, 1, 0, 0, 0]) (codeAt c5 [1, 1, 1, 1, 1, 1, 1, 1, 1, 1, 1, 1, 1, 0, 1, 0, 0, 1, 1, 0, 0, 1, 1, 1, 0, 0, 1]) none [9, 22, 20, 10, 16, 118, 119, 141, 139, 8, 140] [8, 9, 22, 20, 10, 16, 118, 119] (f5_kl39 K Y33 Y39)
def f5_s40 (a b : Bool) (c : Option Addr) (d e : Nat) (f : Option Addr) (g h : Nat) (i : Addr) (j k l m : Int) (n : Option Addr) (o p : Nat) (q : Bool) (r : Int) (w : World) (K : KT) (Y33 Y39 : YT) : Prop := CS P (codeAt c5 [1, 1, 1, 1, 1, 1, 1, 1, 1, 1, 1, 1, 1, 0, 1, 0, 0, 1, 1, 0, 0, 1, 1, 1, 0, 0, 1]) none [9, 22, 20, 10, 16, 118, 119, 141, 139, 8, 140] [8, 9, 22, 20, 10, 16, 118, 119] (f5_kl39 K Y33 Y39) (Env.mk 176 [(142, (Value.bool a)), (9, (Value.bool b)), (22, (Value.slice c d e)), (20, (Value.slice f g h)), (10, (Value.pointer (some i))), (16, (Value.int .u32 j)), (118, (Value.int .i64 k)), (119, (Value.int .i64 l)), (141, (Value.int .i64 m)), (139, (Value.slice n o p)), (8, (Value.bool q)), (140, (Value.int .i64 r))] []) w
abbrev f5_k51 (K : KT) (Y33 Y39 : YT) : Exit → YT := kseq P (codeAt c5 [1, 1, 1, 1, 1, 1, 1, 1, 1, 1, 1, 1, 1, 0, 1, 0, 0, 1, 1, 0, 0, 1, 1, 1, 0, 0, 1, 0]) (codeAt c5 [1, 1, 1, 1, 1, 1, 1, 1, 1, 1, 1, 1, 1, 0, 1, 0, 0, 1, 1, 0, 0, 1, 1, 1, 0, 0, 1, 1]) none [9, 22, 20, 10, 16, 118, 119, 141, 139, 8, 140] [8, 9, 22, 20, 10, 16, 118, 119] (f5_kl39 K Y33 Y39)
def f5_s41 (a : Bool) (b : Option Addr) (c d : Nat) (f : Option Addr) (g h : Nat) (i : Addr) (j k l : Int) (m : Option Addr) (n o : Nat) (p q : Int) (r : Bool) (w : World) (K : KT) (Y33 Y39 : YT) : Prop := Join (fun e w => CS P (codeAt c5 [1, 1, 1, 1, 1, 1, 1, 1, 1, 1, 1, 1, 1, 0, 1, 0, 0, 1, 1, 0, 0, 1, 1, 1, 0, 0, 1, 1]) none [9, 22, 20, 10, 16, 118, 119, 141, 139, 8, 140] [8, 9, 22, 20, 10, 16, 118, 119] (f5_kl39 K Y33 Y39) e w) (Env.mk 176 [(9, (Value.bool a)), (22, (Value.slice b c d)), (20, (Value.slice f g h)), (10, (Value.pointer (some i))), (16, (Value.int .u32 j)), (118, (Value.int .i64 k)), (119, (Value.int .i64 l)), (139, (Value.slice m n o)), (140, (Value.int .i64 p)), (141, (Value.int .i64 q)), (8, (Value.bool r))] []) w
abbrev f5_k52 (K : KT) (Y33 Y39 : YT) : Exit → YT := kseq P (codeAt c5 [1, 1, 1, 1, 1, 1, 1, 1, 1, 1, 1, 1, 1, 0, 1, 0, 0, 1, 1, 0, 0, 1, 1, 1, 0, 0, 1, 1, 0]) (codeAt c5 [1, 1, 1, 1, 1, 1, 1, 1, 1, 1, 1, 1, 1, 0, 1, 0, 0, 1, 1, 0, 0, 1, 1, 1, 0, 0, 1, 1, 1]) none [9, 22, 20, 10, 16, 118, 119, 141, 139, 8, 140] [8, 9, 22, 20, 10, 16, 118, 119] (f5_kl39 K Y33 Y39)
abbrev f5_k53 (K : KT) (Y33 Y39 : YT) : Exit → YT := kblock 9 (f5_k52 K Y33 Y39)
abbrev f5_k54 (K : KT) (Y33 Y39 : YT) : Exit → YT := kseq P (codeAt c5 [1, 1, 1, 1, 1, 1, 1, 1, 1, 1, 1, 1, 1, 0, 1, 0, 0, 1, 1, 0, 0, 1, 1, 1, 0, 0, 1, 1, 0, 0, 0]) (codeAt c5 [1, 1, 1, 1, 1, 1, 1, 1, 1, 1, 1, 1, 1, 0, 1, 0, 0, 1, 1, 0, 0, 1, 1, 1, 0, 0, 1, 1, 0, 0, 1]) none [9, 22, 20, 10, 16, 118, 119, 139, 8, 140, 141] [8, 9, 22, 20, 10, 16, 118, 119, 139, 140, 141] (f5_k53 K Y33 Y39)
abbrev f5_k55 (K : KT) (Y33 Y39 : YT) : Exit → YT := kseq P (codeAt c5 [1, 1, 1, 1, 1, 1, 1, 1, 1, 1, 1, 1, 1, 0, 1, 0, 0, 1, 1, 0, 0, 1, 1, 1, 0, 0, 1, 1, 0, 0, 1, 0]) (codeAt c5 [1, 1, 1, 1, 1, 1, 1, 1, 1, 1, 1, 1, 1, 0, 1, 0, 0, 1, 1, 0, 0, 1, 1, 1, 0, 0, 1, 1, 0, 0, 1, 1]) none [9, 22, 20, 10, 16, 118, 119, 139, 8, 140, 141] [8, 9, 22, 20, 10, 16, 118, 119, 139, 140, 141] (f5_k53 K Y33 Y39)
abbrev f5_k56 (K : KT) (Y33 Y39 : YT) : Exit → YT := kseq P (codeAt c5 [1, 1, 1, 1, 1, 1, 1, 1, 1, 1, 1, 1, 1, 0, 1, 0, 0, 1, 1, 0, 0, 1, 1, 1, 0, 0, 1, 1, 0, 0, 1, 0, 0]) (codeAt c5 [1, 1, 1, 1, 1, 1, 1, 1, 1, 1, 1, 1, 1, 0, 1, 0, 0, 1, 1, 0, 0, 1, 1, 1, 0, 0, 1, 1, 0, 0, 1, 0, 1]) none [9, 22, 20, 10, 16, 118, 119, 139, 8, 140, 141, 26] [8, 9, 22, 20, 10, 16, 118, 119, 139, 140, 141] (f5_k55 K Y33 Y39)
def f5_s42 (a b : Bool) (c : Option Addr) (d f : Nat) (g : Option Addr) (h i : Nat) (j : Addr) (k l m : Int) (n : Option Addr) (o p : Nat) (q r : Int) (s : Bool) (t : Option Addr) (w : World) (K : KT) (Y33 Y39 : YT) : Prop := Join (fun e w => CS P (codeAt c5 [1, 1, 1, 1, 1, 1, 1, 1, 1, 1, 1, 1, 1, 0, 1, 0, 0, 1, 1, 0, 0, 1, 1, 1, 0, 0, 1, 1, 0, 0, 1, 0, 1]) none [9, 22, 20, 10, 16, 118, 119, 139, 8, 140, 141, 26] [8, 9, 22, 20, 10, 16, 118, 119, 139, 140, 141] (f5_k55 K Y33 Y39) e w) (Env.mk 176 [(156, (Value.bool a)), (9, (Value.bool b)), (22, (Value.slice c d f)), (20, (Value.slice g h i)), (10, (Value.pointer (some j))), (16, (Value.int .u32 k)), (118, (Value.int .i64 l)), (119, (Value.int .i64 m)), (139, (Value.slice n o p)), (140, (Value.int .i64 q)), (141, (Value.int .i64 r)), (8, (Value.bool s)), (26, (Value.pointer t))] []) w
abbrev f5_k57 (K : KT) (Y33 Y39 : YT) : Exit → YT := kseq P (codeAt c5 [1, 1, 1, 1, 1, 1, 1, 1, 1, 1, 1, 1, 1, 0, 1, 0, 0, 1, 1, 0, 0, 1, 1, 1, 0, 0, 1, 1, 0, 0, 1, 0, 1, 0, 0]) (codeAt c5 [1, 1, 1, 1, 1, 1, 1, 1, 1, 1, 1, 1, 1, 0, 1, 0, 0, 1, 1, 0, 0, 1, 1, 1, 0, 0, 1, 1, 0, 0, 1, 0, 1, 0, 1]) none [9, 22, 20, 10, 16, 118, 119, 139, 8, 140, 141, 26] [8, 9, 22, 20, 10, 16, 118, 119, 139, 140, 141] (f5_k55 K Y33 Y39)
def f5_s43 (a : Bool) (b : Option Addr) (c d : Nat) (f : Option Addr) (g h : Nat) (i : Addr) (j k l : Int) (m : Option Addr) (n o : Nat) (p : Bool) (q r : Int) (s : Option Addr) (w : World) (K : KT) (Y33 Y39 : YT) : Prop := Join (fun e w => CS P (codeAt c5 [1, 1, 1, 1, 1, 1, 1, 1, 1, 1, 1, 1, 1, 0, 1, 0, 0, 1, 1, 0, 0, 1, 1, 1, 0, 0, 1, 1, 0, 0, 1, 1]) none [9, 22, 20, 10, 16, 118, 119, 139, 8, 140, 141] [8, 9, 22, 20, 10, 16, 118, 119, 139, 140, 141] (f5_k53 K Y33 Y39) e w) (Env.mk 176 [(9, (Value.bool a)), (22, (Value.slice b c d)), (20, (Value.slice f g h)), (10, (Value.pointer (some i))), (16, (Value.int .u32 j)), (118, (Value.int .i64 k)), (119, (Value.int .i64 l)), (139, (Value.slice m n o)), (8, (Value.bool p)), (140, (Value.int .i64 q)), (141, (Value.int .i64 r)), (26, (Value.pointer s))] []) w
def f5_s44 (a : Bool) (b : Option Addr) (c d : Nat) (f : Option Addr) (g h : Nat) (i : Addr) (j k l : Int) (m : Option Addr) (n o : Nat) (p : Bool) (q r : Int) (w : World) (K : KT) (Y33 Y39 : YT) : Prop := Join (fun e w => CS P (codeAt c5 [1, 1, 1, 1, 1, 1, 1, 1, 1, 1, 1, 1, 1, 0, 1, 0, 0, 1, 1, 0, 0, 1, 1, 1, 0, 0, 1, 1, 1]) none [9, 22, 20, 10, 16, 118, 119, 141, 139, 8, 140] [8, 9, 22, 20, 10, 16, 118, 119] (f5_kl39 K Y33 Y39) e w) (Env.mk 176 [(9, (Value.bool a)), (22, (Value.slice b c d)), (20, (Value.slice f g h)), (10, (Value.pointer (some i))), (16, (Value.int .u32 j)), (118, (Value.int .i64 k)), (119, (Value.int .i64 l)), (139, (Value.slice m n o)), (8, (Value.bool p)), (140, (Value.int .i64 q)), (141, (Value.int .i64 r))] []) w
theorem f5_s44_eq (a : Bool) (c : Option Addr) (d e : Nat) (f : Option Addr) (g h : Nat) (i : Addr) (j k l : Int) (m : Option Addr) (n o : Nat) (p : Bool) (q r : Int) (w : World) (K : KT) (Y33 Y39 : YT) : f5_s44 a c d e f g h i j k l m n o p q r w K Y33 Y39 = (Y39 (Env.mk 176 [(9, (Value.bool a)), (22, (Value.slice c d e)), (20, (Value.slice f g h)), (10, (Value.pointer (some i))), (16, (Value.int .u32 j)), (118, (Value.int .i64 k)), (119, (Value.int .i64 l)), (141, (Value.int .i64 (IntKind.wrap .i64 ((r : Int) + 1)))), (139, (Value.slice m n o)), (8, (Value.bool p)), (140, (Value.int .i64 q))] []) w) := Eq.trans (b := CS P (codeAt c5 [1, 1, 1, 1, 1, 1, 1, 1, 1, 1, 1, 1, 1, 0, 1, 0, 0, 1, 1, 0, 0, 1, 1, 1, 0, 0, 1, 1, 1]) none [9, 22, 20, 10, 16, 118, 119, 141, 139, 8, 140] [8, 9, 22, 20, 10, 16, 118, 119] (f5_kl39 K Y33 Y39) (Env.mk 176 [(9, (Value.bool a)), (22, (Value.slice c d e)), (20, (Value.slice f g h)), (10, (Value.pointer (some i))), (16, (Value.int .u32 j)), (118, (Value.int .i64 k)), (119, (Value.int .i64 l)), (139, (Value.slice m n o)), (8, (Value.bool p)), (140, (Value.int .i64 q)), (141, (Value.int .i64 r))] []) w) (by kernel_rfl) (by kernel_rfl)
theorem f5_s43_eq (e : Bool) (f : Option Addr) (g h : Nat) (i : Option Addr) (j k : Nat) (a : Addr) (l m n : Int) (o : Option Addr) (p q : Nat) (r : Bool) (s t : Int) (c : Option Addr) (w : World) (K : KT) (Y33 Y39 : YT) : f5_s43 e f g h i j k a l m n o p q r s t c w K Y33 Y39 = (optS c (fun v => ∃ d : Int, w.cell? (v.add 1) = some (Value.int .i64 d) ∧ 0 ≤ (d : Int) ∧ (d : Int) < (8 : Nat) ∧ ∃ u : Int, w.cell? (a.add (Int.toNat d * 1)) = some (Value.int .i64 u) ∧ optS c (fun x => St1 (x.add 1) (Value.int .i64 u) w (fun y => f5_s44 e f g h i j k a l m n o p q r s t y K Y33 Y39)))) := Eq.trans (b := CS P (codeAt c5 [1, 1, 1, 1, 1, 1, 1, 1, 1, 1, 1, 1, 1, 0, 1, 0, 0, 1, 1, 0, 0, 1, 1, 1, 0, 0, 1, 1, 0, 0, 1, 1]) none [9, 22, 20, 10, 16, 118, 119, 139, 8, 140, 141] [8, 9, 22, 20, 10, 16, 118, 119, 139, 140, 141] (f5_k53 K Y33 Y39) (Env.mk 176 [(9, (Value.bool e)), (22, (Value.slice f g h)), (20, (Value.slice i j k)), (10, (Value.pointer (some a))), (16, (Value.int .u32 l)), (118, (Value.int .i64 m)), (119, (Value.int .i64 n)), (139, (Value.slice o p q)), (8, (Value.bool r)), (140, (Value.int .i64 s)), (141, (Value.int .i64 t)), (26, (Value.pointer c))] []) w) (by kernel_rfl) (by kernel_rfl)
theorem f5_s42_eq (a c : Bool) (d : Option Addr) (e f : Nat) (g : Option Addr) (h i : Nat) (j : Addr) (k l m : Int) (n : Option Addr) (o p : Nat) (q r : Int) (s : Bool) (t : Option Addr) (w : World) (K : KT) (Y33 Y39 : YT) : f5_s42 a c d e f g h i j k l m n o p q r s t w K Y33 Y39 = (BIf a (K (Value.bool false) w) (f5_s43 c d e f g h i j k l m n o p s q r t w K Y33 Y39)) := Eq.trans (b := CS P (codeAt c5 [1, 1, 1, 1, 1, 1, 1, 1, 1, 1, 1, 1, 1, 0, 1, 0, 0, 1, 1, 0, 0, 1, 1, 1, 0, 0, 1, 1, 0, 0, 1, 0, 1]) none [9, 22, 20, 10, 16, 118, 119, 139, 8, 140, 141, 26] [8, 9, 22, 20, 10, 16, 118, 119, 139, 140, 141] (f5_k55 K Y33 Y39) (Env.mk 176 [(156, (Value.bool a)), (9, (Value.bool c)), (22, (Value.slice d e f)), (20, (Value.slice g h i)), (10, (Value.pointer (some j))), (16, (Value.int .u32 k)), (118, (Value.int .i64 l)), (119, (Value.int .i64 m)), (139, (Value.slice n o p)), (140, (Value.int .i64 q)), (141, (Value.int .i64 r)), (8, (Value.bool s)), (26, (Value.pointer t))] []) w) (by kernel_rfl) (by kernel_rfl)
theorem f5_s41_eq (f : Bool) (g : Option Addr) (h i : Nat) (j : Option Addr) (k l : Nat) (m : Addr) (n o p : Int) (d : Option Addr) (e q : Nat) (r c : Int) (s : Bool) (w : World) (K : KT) (Y33 Y39 : YT) : f5_s41 f g h i j k l m n o p d e q r c s w K Y33 Y39 = (optS d (fun x => 0 ≤ (c : Int) ∧ (c : Int) < (e : Nat) ∧ ∃ t : Option Addr, w.cell? (x.add (Int.toNat c * 1)) = some (Value.pointer t) ∧ optS t (fun y => ∃ u : Int, w.cell? (y.add 1) = some (Value.int .i64 u) ∧ BIf (decide ((u : Int) < 0)) (f5_s42 true f g h i j k l m n o p d e q r c s t w K Y33 Y39) (optS t (fun z => ∃ v : Int, w.cell? (z.add 1) = some (Value.int .i64 v) ∧ f5_s42 (decide ((v : Int) ≥ 8)) f g h i j k l m n o p d e q r c s t w K Y33 Y39))))) := Eq.trans (b := CS P (codeAt c5 [1, 1, 1, 1, 1, 1, 1, 1, 1, 1, 1, 1, 1, 0, 1, 0, 0, 1, 1, 0, 0, 1, 1, 1, 0, 0, 1, 1]) none [9, 22, 20, 10, 16, 118, 119, 141, 139, 8, 140] [8, 9, 22, 20, 10, 16, 118, 119] (f5_kl39 K Y33 Y39) (Env.mk 176 [(9, (Value.bool f)), (22, (Value.slice g h i)), (20, (Value.slice j k l)), (10, (Value.pointer (some m))), (16, (Value.int .u32 n)), (118, (Value.int .i64 o)), (119, (Value.int .i64 p)), (139, (Value.slice d e q)), (140, (Value.int .i64 r)), (141, (Value.int .i64 c)), (8, (Value.bool s))] []) w) (by kernel_rfl) (Eq.trans (b := (CS P (codeAt c5 [1, 1, 1, 1, 1, 1, 1, 1, 1, 1, 1, 1, 1, 0, 1, 0, 0, 1, 1, 0, 0, 1, 1, 1, 0, 0, 1, 1, 0]) none [9, 22, 20, 10, 16, 118, 119, 139, 8, 140, 141] [8, 9, 22, 20, 10, 16, 118, 119] (f5_k52 K Y33 Y39) (Env.mk 176 [(9, (Value.bool f)), (22, (Value.slice g h i)), (20, (Value.slice j k l)), (10, (Value.pointer (some m))), (16, (Value.int .u32 n)), (118, (Value.int .i64 o)), (119, (Value.int .i64 p)), (139, (Value.slice d e q)), (140, (Value.int .i64 r)), (141, (Value.int .i64 c)), (8, (Value.bool s))] []) w)) (CS_seq' (a := (codeAt c5 [1, 1, 1, 1, 1, 1, 1, 1, 1, 1, 1, 1, 1, 0, 1, 0, 0, 1, 1, 0, 0, 1, 1, 1, 0, 0, 1, 1, 0])) (b := (codeAt c5 [1, 1, 1, 1, 1, 1, 1, 1, 1, 1, 1, 1, 1, 0, 1, 0, 0, 1, 1, 0, 0, 1, 1, 1, 0, 0, 1, 1, 1])) (by kernel_rfl) (by kernel_rfl)) (Eq.trans (b := (CS P (codeAt c5 [1, 1, 1, 1, 1, 1, 1, 1, 1, 1, 1, 1, 1, 0, 1, 0, 0, 1, 1, 0, 0, 1, 1, 1, 0, 0, 1, 1, 0, 0]) none [9, 22, 20, 10, 16, 118, 119, 139, 8, 140, 141] [8, 9, 22, 20, 10, 16, 118, 119, 139, 140, 141] (f5_k53 K Y33 Y39) (Env.mk 176 [(9, (Value.bool f)), (22, (Value.slice g h i)), (20, (Value.slice j k l)), (10, (Value.pointer (some m))), (16, (Value.int .u32 n)), (118, (Value.int .i64 o)), (119, (Value.int .i64 p)), (139, (Value.slice d e q)), (140, (Value.int .i64 r)), (141, (Value.int .i64 c)), (8, (Value.bool s))] []) w)) (CS_block' (b := (codeAt c5 [1, 1, 1, 1, 1, 1, 1, 1, 1, 1, 1, 1, 1, 0, 1, 0, 0, 1, 1, 0, 0, 1, 1, 1, 0, 0, 1, 1, 0, 0])) (by kernel_rfl) (by kernel_rfl)) (Eq.trans (b := (CS P (codeAt c5 [1, 1, 1, 1, 1, 1, 1, 1, 1, 1, 1, 1, 1, 0, 1, 0, 0, 1, 1, 0, 0, 1, 1, 1, 0, 0, 1, 1, 0, 0, 0]) none [9, 22, 20, 10, 16, 118, 119, 139, 140, 141, 8, 26] [8, 9, 22, 20, 10, 16, 118, 119, 139, 140, 141] (f5_k54 K Y33 Y39) (Env.mk 176 [(9, (Value.bool f)), (22, (Value.slice g h i)), (20, (Value.slice j k l)), (10, (Value.pointer (some m))), (16, (Value.int .u32 n)), (118, (Value.int .i64 o)), (119, (Value.int .i64 p)), (139, (Value.slice d e q)), (140, (Value.int .i64 r)), (141, (Value.int .i64 c)), (8, (Value.bool s))] []) w)) (CS_seq' (a := (codeAt c5 [1, 1, 1, 1, 1, 1, 1, 1, 1, 1, 1, 1, 1, 0, 1, 0, 0, 1, 1, 0, 0, 1, 1, 1, 0, 0, 1, 1, 0, 0, 0])) (b := (codeAt c5 [1, 1, 1, 1, 1, 1, 1, 1, 1, 1, 1, 1, 1, 0, 1, 0, 0, 1, 1, 0, 0, 1, 1, 1, 0, 0, 1, 1, 0, 0, 1])) (by kernel_rfl) (by kernel_rfl)) (by kernel_rfl))))
def f5_s45 (a : Bool) (b : Option Addr) (c d : Nat) (f : Option Addr) (g h : Nat) (i : Addr) (j : Bool) (k l m : Int) (w : World) (K : KT) (Y33 : YT) : Prop := Join (fun e w => CS P (codeAt c5 [1, 1, 1, 1, 1, 1, 1, 1, 1, 1, 1, 1, 1, 0, 1, 0, 0, 1, 1, 1]) none [9, 22, 20, 119, 10, 8, 16, 118] [8, 9, 22, 20] (f5_kl33 K Y33) e w) (Env.mk 176 [(9, (Value.bool a)), (22, (Value.slice b c d)), (20, (Value.slice f g h)), (10, (Value.pointer (some i))), (8, (Value.bool j)), (16, (Value.int .u32 k)), (118, (Value.int .i64 l)), (119, (Value.int .i64 m))] []) w
theorem f5_s45_eq (a : Bool) (c : Option Addr) (d e : Nat) (f : Option Addr) (g h : Nat) (i : Addr) (j : Bool) (k l m : Int) (w : World) (K : KT) (Y33 : YT) : f5_s45 a c d e f g h i j k l m w K Y33 = (Y33 (Env.mk 176 [(9, (Value.bool a)), (22, (Value.slice c d e)), (20, (Value.slice f g h)), (119, (Value.int .i64 (IntKind.wrap .i64 ((m : Int) + 1)))), (10, (Value.pointer (some i))), (8, (Value.bool j)), (16, (Value.int .u32 k)), (118, (Value.int .i64 l))] []) w) := Eq.trans (b := CS P (codeAt c5 [1, 1, 1, 1, 1, 1, 1, 1, 1, 1, 1, 1, 1, 0, 1, 0, 0, 1, 1, 1]) none [9, 22, 20, 119, 10, 8, 16, 118] [8, 9, 22, 20] (f5_kl33 K Y33) (Env.mk 176 [(9, (Value.bool a)), (22, (Value.slice c d e)), (20, (Value.slice f g h)), (10, (Value.pointer (some i))), (8, (Value.bool j)), (16, (Value.int .u32 k)), (118, (Value.int .i64 l)), (119, (Value.int .i64 m))] []) w) (by kernel_rfl) (by kernel_rfl)
theorem f5_s40_eq (o c : Bool) (d : Option Addr) (e f : Nat) (g : Option Addr) (h i : Nat) (j : Addr) (k l m p : Int) (q : Option Addr) (r s : Nat) (n : Bool) (t : Int) (w : World) (K : KT) (Y33 Y39 : YT) : f5_s40 o c d e f g h i j k l m p q r s n t w K Y33 Y39 = (BIf o (f5_s41 c d e f g h i j k l m q r s t p n w K Y33 Y39) (f5_s45 c d e f g h i j n k l m w K Y33)) := Eq.trans (b := CS P (codeAt c5 [1, 1, 1, 1, 1, 1, 1, 1, 1, 1, 1, 1, 1, 0, 1, 0, 0, 1, 1, 0, 0, 1, 1, 1, 0, 0, 1]) none [9, 22, 20, 10, 16, 118, 119, 141, 139, 8, 140] [8, 9, 22, 20, 10, 16, 118, 119] (f5_kl39 K Y33 Y39) (Env.mk 176 [(142, (Value.bool o)), (9, (Value.bool c)), (22, (Value.slice d e f)), (20, (Value.slice g h i)), (10, (Value.pointer (some j))), (16, (Value.int .u32 k)), (118, (Value.int .i64 l)), (119, (Value.int .i64 m)), (141, (Value.int .i64 p)), (139, (Value.slice q r s)), (8, (Value.bool n)), (140, (Value.int .i64 t))] []) w) (by kernel_rfl) (Eq.trans (b := (CS P (codeAt c5 [1, 1, 1, 1, 1, 1, 1, 1, 1, 1, 1, 1, 1, 0, 1, 0, 0, 1, 1, 0, 0, 1, 1, 1, 0, 0, 1, 0]) none [9, 22, 20, 10, 16, 118, 119, 139, 140, 141, 8] [8, 9, 22, 20, 10, 16, 118, 119] (f5_k51 K Y33 Y39) (Env.mk 176 [(142, (Value.bool o)), (9, (Value.bool c)), (22, (Value.slice d e f)), (20, (Value.slice g h i)), (10, (Value.pointer (some j))), (16, (Value.int .u32 k)), (118, (Value.int .i64 l)), (119, (Value.int .i64 m)), (141, (Value.int .i64 p)), (139, (Value.slice q r s)), (8, (Value.bool n)), (140, (Value.int .i64 t))] []) w)) (CS_seq' (a := (codeAt c5 [1, 1, 1, 1, 1, 1, 1, 1, 1, 1, 1, 1, 1, 0, 1, 0, 0, 1, 1, 0, 0, 1, 1, 1, 0, 0, 1, 0])) (b := (codeAt c5 [1, 1, 1, 1, 1, 1, 1, 1, 1, 1, 1, 1, 1, 0, 1, 0, 0, 1, 1, 0, 0, 1, 1, 1, 0, 0, 1, 1])) (by kernel_rfl) (by kernel_rfl)) (by kernel_rfl))
theorem f5_lb39_eq (e : Bool) (f : Option Addr) (g h : Nat) (i : Option Addr) (j k : Nat) (l : Addr) (m n o c : Int) (p : Option Addr) (q r : Nat) (s : Bool) (d : Int) (w : World) (K : KT) (Y33 Y39 : YT) : f5_lb39 e f g h i j k l m n o c p q r s d w K Y33 Y39 = (f5_s40 (decide ((c : Int) < d)) e f g h i j k l m n o c p q r s d w K Y33 Y39) := Eq.trans (b := CS P (codeAt c5 [1, 1, 1, 1, 1, 1, 1, 1, 1, 1, 1, 1, 1, 0, 1, 0, 0, 1, 1, 0, 0, 1, 1, 1, 0, 0]) none [9, 22, 20, 10, 16, 118, 119, 141, 139, 8, 140] [8, 9, 22, 20, 10, 16, 118, 119] (f5_kl39 K Y33 Y39) (Env.mk 176 [(9, (Value.bool e)), (22, (Value.slice f g h)), (20, (Value.slice i j k)), (10, (Value.pointer (some l))), (16, (Value.int .u32 m)), (118, (Value.int .i64 n)), (119, (Value.int .i64 o)), (141, (Value.int .i64 c)), (139, (Value.slice p q r)), (8, (Value.bool s)), (140, (Value.int .i64 d))] []) w) (by kernel_rfl) (Eq.trans (b := (CS P (codeAt c5 [1, 1, 1, 1, 1, 1, 1, 1, 1, 1, 1, 1, 1, 0, 1, 0, 0, 1, 1, 0, 0, 1, 1, 1, 0, 0, 0]) none [142, 9, 22, 20, 10, 16, 118, 119, 139, 140, 141, 8] [8, 9, 22, 20, 10, 16, 118, 119] (f5_k50 K Y33 Y39) (Env.mk 176 [(9, (Value.bool e)), (22, (Value.slice f g h)), (20, (Value.slice i j k)), (10, (Value.pointer (some l))), (16, (Value.int .u32 m)), (118, (Value.int .i64 n)), (119, (Value.int .i64 o)), (141, (Value.int .i64 c)), (139, (Value.slice p q r)), (8, (Value.bool s)), (140, (Value.int .i64 d))] []) w)) (CS_seq' (a := (codeAt c5 [1, 1, 1, 1, 1, 1, 1, 1, 1, 1, 1, 1, 1, 0, 1, 0, 0, 1, 1, 0, 0, 1, 1, 1, 0, 0, 0])) (b := (codeAt c5 [1, 1, 1, 1, 1, 1, 1, 1, 1, 1, 1, 1, 1, 0, 1, 0, 0, 1, 1, 0, 0, 1, 1, 1, 0, 0, 1])) (by kernel_rfl) (by kernel_rfl)) (by kernel_rfl))
theorem f5_s38_eq (a : Bool) (c : Option Addr) (d e : Nat) (f : Option Addr) (g h : Nat) (i : Addr) (j k l m : Int) (n : Option Addr) (o p : Nat) (q : Bool) (r : Int) (w : World) (K : KT) (Y33 : YT) : f5_s38 a c d e f g h i j k l m n o p q r w K Y33 = (LoopE (f5_lp39 K Y33) (Env.mk 176 [(9, (Value.bool a)), (22, (Value.slice c d e)), (20, (Value.slice f g h)), (10, (Value.pointer (some i))), (16, (Value.int .u32 j)), (118, (Value.int .i64 k)), (119, (Value.int .i64 l)), (141, (Value.int .i64 m)), (139, (Value.slice n o p)), (8, (Value.bool q)), (140, (Value.int .i64 r))] []) w) := Eq.trans (b := CS P (codeAt c5 [1, 1, 1, 1, 1, 1, 1, 1, 1, 1, 1, 1, 1, 0, 1, 0, 0, 1, 1, 0, 0, 1, 1, 1]) none [9, 22, 20, 10, 8, 16, 118, 119] [8, 9, 22, 20, 10, 16, 118, 119] (f5_k45 K Y33) (Env.mk 176 [(9, (Value.bool a)), (22, (Value.slice c d e)), (20, (Value.slice f g h)), (10, (Value.pointer (some i))), (16, (Value.int .u32 j)), (118, (Value.int .i64 k)), (119, (Value.int .i64 l)), (141, (Value.int .i64 m)), (139, (Value.slice n o p)), (8, (Value.bool q)), (140, (Value.int .i64 r))] []) w) (by kernel_rfl) (Eq.trans (b := (CS P (codeAt c5 [1, 1, 1, 1, 1, 1, 1, 1, 1, 1, 1, 1, 1, 0, 1, 0, 0, 1, 1, 0, 0, 1, 1, 1, 0]) none [9, 22, 20, 10, 8, 16, 118, 119] [8, 9, 22, 20, 10, 16, 118, 119] (f5_k49 K Y33) (Env.mk 176 [(9, (Value.bool a)), (22, (Value.slice c d e)), (20, (Value.slice f g h)), (10, (Value.pointer (some i))), (16, (Value.int .u32 j)), (118, (Value.int .i64 k)), (119, (Value.int .i64 l)), (141, (Value.int .i64 m)), (139, (Value.slice n o p)), (8, (Value.bool q)), (140, (Value.int .i64 r))] []) w)) (CS_block' (b := (codeAt c5 [1, 1, 1, 1, 1, 1, 1, 1, 1, 1, 1, 1, 1, 0, 1, 0, 0, 1, 1, 0, 0, 1, 1, 1, 0])) (by kernel_rfl) (by kernel_rfl)) ((CS_loop' (b := (codeAt c5 [1, 1, 1, 1, 1, 1, 1, 1, 1, 1, 1, 1, 1, 0, 1, 0, 0, 1, 1, 0, 0, 1, 1, 1, 0, 0])) (X' := [8, 9, 22, 20, 10, 16, 118, 119]) (H := [9, 22, 20, 10, 16, 118, 119, 141, 139, 8, 140]) (by kernel_rfl) (by kernel_rfl) (by kernel_rfl)).trans (by kernel_rfl)))
theorem f5_s37_eq (p q : Addr) (r s t : Int) (u x : Addr) (y : Int) (z : Option Addr) (a0 b0 : Nat) (c c0 : Int) (f : Bool) (g : Option Addr) (h i : Nat) (d : Option Addr) (e j : Nat) (k : Addr) (l m n : Int) (o : Bool) (w : World) (K : KT) (Y33 : YT) : f5_s37 p q r s t u x y z a0 b0 c c0 f g h i d e j k l m n o w K Y33 = (optS d (fun d0 => 0 ≤ (c : Int) ∧ (c : Int) < (e : Nat) ∧ optS d (fun e0 => 0 ≤ (c : Int) ∧ (c : Int) < (e : Nat) ∧ sizesAre 1 [(Value.pointer (some ((d0.add (Int.toNat c * 11)).add 1))), (Value.pointer (some ((e0.add (Int.toNat c * 11)).add 6)))] ∧ NewC (([(Value.pointer (some ((d0.add (Int.toNat c * 11)).add 1))), (Value.pointer (some ((e0.add (Int.toNat c * 11)).add 6)))].map fun (v : Value) => v.cells.toList).flatten.toArray) 48 w.drew (fun f0 g0 => ∃ h0 : Int, (∀ wq, Ext g0 wq → (Builtin.len_ #[49] 3 [(Value.slice (some (Addr.mk f0 0 none)) 2 2)].toArray).run P wq = .ok (Value.int .i64 h0) wq) ∧ f5_s38 f g h i d e j k l m n 0 (some (Addr.mk f0 0 none)) 2 2 o h0 g0 K Y33)))) := Eq.trans (b := CS P (codeAt c5 [1, 1, 1, 1, 1, 1, 1, 1, 1, 1, 1, 1, 1, 0, 1, 0, 0, 1, 1, 0, 0, 1, 1]) none [9, 22, 20, 10, 8, 16, 118, 119] [8, 9, 22, 20, 10, 16, 118, 119] (f5_k45 K Y33) (Env.mk 176 [(130, (Value.pointer (some p))), (129, (Value.pointer (some q))), (128, (Value.int .u32 r)), (127, (Value.int .u32 s)), (126, (Value.int .u32 t)), (125, (Value.pointer (some u))), (124, (Value.pointer (some x))), (123, (Value.int .i64 y)), (122, (Value.slice z a0 b0)), (24, (Value.int .i64 c)), (121, (Value.int .i64 c0)), (9, (Value.bool f)), (22, (Value.slice g h i)), (20, (Value.slice d e j)), (10, (Value.pointer (some k))), (16, (Value.int .u32 l)), (118, (Value.int .i64 m)), (119, (Value.int .i64 n)), (8, (Value.bool o))] []) w) (by kernel_rfl) (Eq.trans (b := (CS P (codeAt c5 [1, 1, 1, 1, 1, 1, 1, 1, 1, 1, 1, 1, 1, 0, 1, 0, 0, 1, 1, 0, 0, 1, 1, 0]) none [9, 22, 20, 10, 16, 118, 119, 141, 139, 8, 140] [8, 9, 22, 20, 10, 16, 118, 119] (f5_k48 K Y33) (Env.mk 176 [(130, (Value.pointer (some p))), (129, (Value.pointer (some q))), (128, (Value.int .u32 r)), (127, (Value.int .u32 s)), (126, (Value.int .u32 t)), (125, (Value.pointer (some u))), (124, (Value.pointer (some x))), (123, (Value.int .i64 y)), (122, (Value.slice z a0 b0)), (24, (Value.int .i64 c)), (121, (Value.int .i64 c0)), (9, (Value.bool f)), (22, (Value.slice g h i)), (20, (Value.slice d e j)), (10, (Value.pointer (some k))), (16, (Value.int .u32 l)), (118, (Value.int .i64 m)), (119, (Value.int .i64 n)), (8, (Value.bool o))] []) w)) (CS_seq' (a := (codeAt c5 [1, 1, 1, 1, 1, 1, 1, 1, 1, 1, 1, 1, 1, 0, 1, 0, 0, 1, 1, 0, 0, 1, 1, 0])) (b := (codeAt c5 [1, 1, 1, 1, 1, 1, 1, 1, 1, 1, 1, 1, 1, 0, 1, 0, 0, 1, 1, 0, 0, 1, 1, 1])) (by kernel_rfl) (by kernel_rfl)) (by kernel_rfl))
theorem f5_s36_eq (c h : Int) (i : Bool) (j : Option Addr) (k l : Nat) (d : Option Addr) (e g : Nat) (m : Addr) (f n o : Int) (p : Bool) (w : World) (K : KT) (Y33 : YT) : f5_s36 c h i j k l d e g m f n o p w K Y33 = (optS d (fun r => 0 ≤ (c : Int) ∧ (c : Int) < (e : Nat) ∧ ∃ q : Int, w.cell? (r.add (Int.toNat c * 11)) = some (Value.int .u32 q) ∧ optS d (fun s => 0 ≤ (c : Int) ∧ (c : Int) < (e : Nat) ∧ St1 (s.add (Int.toNat c * 11)) (Value.int .u32 (IntKind.wrap .u32 ((q : Int) + f))) w (fun t => f5_s37 (s.add (Int.toNat c * 11)) (s.add (Int.toNat c * 11)) (IntKind.wrap .u32 ((q : Int) + f)) f q (r.add (Int.toNat c * 11)) (r.add (Int.toNat c * 11)) c d e g c h i j k l d e g m f n o p t K Y33)))) := Eq.trans (b := CS P (codeAt c5 [1, 1, 1, 1, 1, 1, 1, 1, 1, 1, 1, 1, 1, 0, 1, 0, 0, 1, 1, 0, 0, 1]) none [9, 22, 20, 10, 8, 16, 118, 119] [8, 9, 22, 20, 10, 16, 118, 119] (f5_k45 K Y33) (Env.mk 176 [(24, (Value.int .i64 c)), (121, (Value.int .i64 h)), (9, (Value.bool i)), (22, (Value.slice j k l)), (20, (Value.slice d e g)), (10, (Value.pointer (some m))), (16, (Value.int .u32 f)), (118, (Value.int .i64 n)), (119, (Value.int .i64 o)), (8, (Value.bool p))] []) w) (by kernel_rfl) (Eq.trans (b := (CS P (codeAt c5 [1, 1, 1, 1, 1, 1, 1, 1, 1, 1, 1, 1, 1, 0, 1, 0, 0, 1, 1, 0, 0, 1, 0]) none [9, 22, 20, 10, 16, 118, 119, 8, 24] [8, 9, 22, 20, 10, 16, 118, 119] (f5_k47 K Y33) (Env.mk 176 [(24, (Value.int .i64 c)), (121, (Value.int .i64 h)), (9, (Value.bool i)), (22, (Value.slice j k l)), (20, (Value.slice d e g)), (10, (Value.pointer (some m))), (16, (Value.int .u32 f)), (118, (Value.int .i64 n)), (119, (Value.int .i64 o)), (8, (Value.bool p))] []) w)) (CS_seq' (a := (codeAt c5 [1, 1, 1, 1, 1, 1, 1, 1, 1, 1, 1, 1, 1, 0, 1, 0, 0, 1, 1, 0, 0, 1, 0])) (b := (codeAt c5 [1, 1, 1, 1, 1, 1, 1, 1, 1, 1, 1, 1, 1, 0, 1, 0, 0, 1, 1, 0, 0, 1, 1])) (by kernel_rfl) (by kernel_rfl)) (by kernel_rfl))
theorem f5_s35_eq (d : Bool) (e : Option Addr) (f g : Nat) (h : Option Addr) (i j : Nat) (k : Addr) (l m c : Int) (n : Bool) (w : World) (K : KT) (Y33 : YT) : f5_s35 d e f g h i j k l m c n w K Y33 = (f5_s36 c c d e f g h i j k l m c n w K Y33) := Eq.trans (b := CS P (codeAt c5 [1, 1, 1, 1, 1, 1, 1, 1, 1, 1, 1, 1, 1, 0, 1, 0, 0, 1, 1]) none [9, 22, 20, 119, 10, 8, 16, 118] [8, 9, 22, 20] (f5_kl33 K Y33) (Env.mk 176 [(9, (Value.bool d)), (22, (Value.slice e f g)), (20, (Value.slice h i j)), (10, (Value.pointer (some k))), (16, (Value.int .u32 l)), (118, (Value.int .i64 m)), (119, (Value.int .i64 c)), (8, (Value.bool n))] []) w) (by kernel_rfl) (Eq.trans (b := (CS P (codeAt c5 [1, 1, 1, 1, 1, 1, 1, 1, 1, 1, 1, 1, 1, 0, 1, 0, 0, 1, 1, 0]) none [9, 22, 20, 10, 8, 16, 118, 119] [8, 9, 22, 20] (f5_k44 K Y33) (Env.mk 176 [(9, (Value.bool d)), (22, (Value.slice e f g)), (20, (Value.slice h i j)), (10, (Value.pointer (some k))), (16, (Value.int .u32 l)), (118, (Value.int .i64 m)), (119, (Value.int .i64 c)), (8, (Value.bool n))] []) w)) (CS_seq' (a := (codeAt c5 [1, 1, 1, 1, 1, 1, 1, 1, 1, 1, 1, 1, 1, 0, 1, 0, 0, 1, 1, 0])) (b := (codeAt c5 [1, 1, 1, 1, 1, 1, 1, 1, 1, 1, 1, 1, 1, 0, 1, 0, 0, 1, 1, 1])) (by kernel_rfl) (by kernel_rfl)) (Eq.trans (b := (CS P (codeAt c5 [1, 1, 1, 1, 1, 1, 1, 1, 1, 1, 1, 1, 1, 0, 1, 0, 0, 1, 1, 0, 0]) none [9, 22, 20, 10, 8, 16, 118, 119] [8, 9, 22, 20, 10, 16, 118, 119] (f5_k45 K Y33) (Env.mk 176 [(9, (Value.bool d)), (22, (Value.slice e f g)), (20, (Value.slice h i j)), (10, (Value.pointer (some k))), (16, (Value.int .u32 l)), (118, (Value.int .i64 m)), (119, (Value.int .i64 c)), (8, (Value.bool n))] []) w)) (CS_block' (b := (codeAt c5 [1, 1, 1, 1, 1, 1, 1, 1, 1, 1, 1, 1, 1, 0, 1, 0, 0, 1, 1, 0, 0])) (by kernel_rfl) (by kernel_rfl)) (Eq.trans (b := (CS P (codeAt c5 [1, 1, 1, 1, 1, 1, 1, 1, 1, 1, 1, 1, 1, 0, 1, 0, 0, 1, 1, 0, 0, 0]) none [9, 22, 20, 10, 16, 118, 119, 8, 24] [8, 9, 22, 20, 10, 16, 118, 119] (f5_k46 K Y33) (Env.mk 176 [(9, (Value.bool d)), (22, (Value.slice e f g)), (20, (Value.slice h i j)), (10, (Value.pointer (some k))), (16, (Value.int .u32 l)), (118, (Value.int .i64 m)), (119, (Value.int .i64 c)), (8, (Value.bool n))] []) w)) (CS_seq' (a := (codeAt c5 [1, 1, 1, 1, 1, 1, 1, 1, 1, 1, 1, 1, 1, 0, 1, 0, 0, 1, 1, 0, 0, 0])) (b := (codeAt c5 [1, 1, 1, 1, 1, 1, 1, 1, 1, 1, 1, 1, 1, 0, 1, 0, 0, 1, 1, 0, 0, 1])) (by kernel_rfl) (by kernel_rfl)) (by kernel_rfl))))
def f5_s46 (a : Bool) (b : Option Addr) (c d : Nat) (f : Option Addr) (g h : Nat) (w : World) (K : KT) : Prop := Join (fun e w => CS P (codeAt c5 [1, 1, 1, 1, 1, 1, 1, 1, 1, 1, 1, 1, 1, 1]) none [8] [8] (f5_kb K) e w) (Env.mk 176 [(9, (Value.bool a)), (22, (Value.slice b c d)), (20, (Value.slice f g h))] []) w
abbrev f5_k58 (K : KT) : Exit → YT := kseq P (codeAt c5 [1, 1, 1, 1, 1, 1, 1, 1, 1, 1, 1, 1, 1, 1, 0]) (codeAt c5 [1, 1, 1, 1, 1, 1, 1, 1, 1, 1, 1, 1, 1, 1, 1]) none [8] [8] (f5_kb K)
abbrev f5_k59 (K : KT) : Exit → YT := kseq P (codeAt c5 [1, 1, 1, 1, 1, 1, 1, 1, 1, 1, 1, 1, 1, 1, 1, 0]) (codeAt c5 [1, 1, 1, 1, 1, 1, 1, 1, 1, 1, 1, 1, 1, 1, 1, 1]) none [8] [8] (f5_kb K)
def f5_s47 (a : Bool) (w : World) (K : KT) : Prop := Join (fun e w => CS P (codeAt c5 [1, 1, 1, 1, 1, 1, 1, 1, 1, 1, 1, 1, 1, 1, 1, 1]) none [8] [8] (f5_kb K) e w) (Env.mk 176 [(8, (Value.bool a))] []) w
theorem f5_s47_eq (a : Bool) (w : World) (K : KT) : f5_s47 a w K = (K (Value.bool a) w) := Eq.trans (b := CS P (codeAt c5 [1, 1, 1, 1, 1, 1, 1, 1, 1, 1, 1, 1, 1, 1, 1, 1]) none [8] [8] (f5_kb K) (Env.mk 176 [(8, (Value.bool a))] []) w) (by kernel_rfl) (by kernel_rfl)
theorem f5_s46_eq (f : Bool) (g : Option Addr) (h i : Nat) (c : Option Addr) (d e : Nat) (w : World) (K : KT) : f5_s46 f g h i c d e w K = (CallL P 21 [(Value.slice c d e), (Value.func (.func 22) #[] #[])] w (fun l m => l = (Value.tuple [].toArray) ∧ CallL P 17 [(Value.slice c d e), (Value.slice g h i)] m (fun n j => ∃ k : Bool, n = (Value.bool k) ∧ BIf k (f5_s47 f j K) (f5_s47 false j K)))) := Eq.trans (b := CS P (codeAt c5 [1, 1, 1, 1, 1, 1, 1, 1, 1, 1, 1, 1, 1, 1]) none [8] [8] (f5_kb K) (Env.mk 176 [(9, (Value.bool f)), (22, (Value.slice g h i)), (20, (Value.slice c d e))] []) w) (by kernel_rfl) (Eq.trans (b := (CS P (codeAt c5 [1, 1, 1, 1, 1, 1, 1, 1, 1, 1, 1, 1, 1, 1, 0]) none [9, 22, 20] [8] (f5_k58 K) (Env.mk 176 [(9, (Value.bool f)), (22, (Value.slice g h i)), (20, (Value.slice c d e))] []) w)) (CS_seq' (a := (codeAt c5 [1, 1, 1, 1, 1, 1, 1, 1, 1, 1, 1, 1, 1, 1, 0])) (b := (codeAt c5 [1, 1, 1, 1, 1, 1, 1, 1, 1, 1, 1, 1, 1, 1, 1])) (by kernel_rfl) (by kernel_rfl)) (by kernel_rfl))
theorem f5_s34_eq (j c : Bool) (d : Option Addr) (e f : Nat) (g : Option Addr) (h i : Nat) (k : Int) (l : Addr) (m : Bool) (n o : Int) (w : World) (K : KT) (Y33 : YT) : f5_s34 j c d e f g h i k l m n o w K Y33 = (BIf j (f5_s35 c d e f g h i l n o k m w K Y33) (f5_s46 c d e f g h i w K)) := Eq.trans (b := CS P (codeAt c5 [1, 1, 1, 1, 1, 1, 1, 1, 1, 1, 1, 1, 1, 0, 1, 0, 0, 1]) none [9, 22, 20, 119, 10, 8, 16, 118] [8, 9, 22, 20] (f5_kl33 K Y33) (Env.mk 176 [(120, (Value.bool j)), (9, (Value.bool c)), (22, (Value.slice d e f)), (20, (Value.slice g h i)), (119, (Value.int .i64 k)), (10, (Value.pointer (some l))), (8, (Value.bool m)), (16, (Value.int .u32 n)), (118, (Value.int .i64 o))] []) w) (by kernel_rfl) (Eq.trans (b := (CS P (codeAt c5 [1, 1, 1, 1, 1, 1, 1, 1, 1, 1, 1, 1, 1, 0, 1, 0, 0, 1, 0]) none [9, 22, 20, 10, 16, 118, 119, 8] [8, 9, 22, 20] (f5_k43 K Y33) (Env.mk 176 [(120, (Value.bool j)), (9, (Value.bool c)), (22, (Value.slice d e f)), (20, (Value.slice g h i)), (119, (Value.int .i64 k)), (10, (Value.pointer (some l))), (8, (Value.bool m)), (16, (Value.int .u32 n)), (118, (Value.int .i64 o))] []) w)) (CS_seq' (a := (codeAt c5 [1, 1, 1, 1, 1, 1, 1, 1, 1, 1, 1, 1, 1, 0, 1, 0, 0, 1, 0])) (b := (codeAt c5 [1, 1, 1, 1, 1, 1, 1, 1, 1, 1, 1, 1, 1, 0, 1, 0, 0, 1, 1])) (by kernel_rfl) (by kernel_rfl)) (by kernel_rfl))
theorem f5_lb33_eq (e : Bool) (f : Option Addr) (g h : Nat) (i : Option Addr) (j k : Nat) (c : Int) (l : Addr) (m : Bool) (n d : Int) (w : World) (K : KT) (Y33 : YT) : f5_lb33 e f g h i j k c l m n d w K Y33 = (f5_s34 (decide ((c : Int) < d)) e f g h i j k c l m n d w K Y33) := Eq.trans (b := CS P (codeAt c5 [1, 1, 1, 1, 1, 1, 1, 1, 1, 1, 1, 1, 1, 0, 1, 0, 0]) none [9, 22, 20, 119, 10, 8, 16, 118] [8, 9, 22, 20] (f5_kl33 K Y33) (Env.mk 176 [(9, (Value.bool e)), (22, (Value.slice f g h)), (20, (Value.slice i j k)), (119, (Value.int .i64 c)), (10, (Value.pointer (some l))), (8, (Value.bool m)), (16, (Value.int .u32 n)), (118, (Value.int .i64 d))] []) w) (by kernel_rfl) (Eq.trans (b := (CS P (codeAt c5 [1, 1, 1, 1, 1, 1, 1, 1, 1, 1, 1, 1, 1, 0, 1, 0, 0, 0]) none [120, 9, 22, 20, 10, 16, 118, 119, 8] [8, 9, 22, 20] (f5_k42 K Y33) (Env.mk 176 [(9, (Value.bool e)), (22, (Value.slice f g h)), (20, (Value.slice i j k)), (119, (Value.int .i64 c)), (10, (Value.pointer (some l))), (8, (Value.bool m)), (16, (Value.int .u32 n)), (118, (Value.int .i64 d))] []) w)) (CS_seq' (a := (codeAt c5 [1, 1, 1, 1, 1, 1, 1, 1, 1, 1, 1, 1, 1, 0, 1, 0, 0, 0])) (b := (codeAt c5 [1, 1, 1, 1, 1, 1, 1, 1, 1, 1, 1, 1, 1, 0, 1, 0, 0, 1])) (by kernel_rfl) (by kernel_rfl)) (by kernel_rfl))
theorem f5_s32_eq (a c : Int) (n : Option Addr) (o p : Nat) (d : Option Addr) (e f : Nat) (q : Option Addr) (r s : Nat) (t : Option Addr) (u v : Nat) (g : Bool) (h : Option Addr) (i j : Nat) (k : Addr) (l : Bool) (m : Int) (x : Option Addr) (y z : Nat) (w : World) (K : KT) : f5_s32 a c n o p d e f q r s t u v g h i j k l m x y z w K = (LoopE (f5_lp33 K) (Env.mk 176 [(9, (Value.bool g)), (22, (Value.slice h i j)), (20, (Value.slice d e f)), (119, (Value.int .i64 a)), (10, (Value.pointer (some k))), (8, (Value.bool l)), (16, (Value.int .u32 m)), (118, (Value.int .i64 c))] []) w) := Eq.trans (b := CS P (codeAt c5 [1, 1, 1, 1, 1, 1, 1, 1, 1, 1, 1, 1, 1, 0, 1]) none [9, 22, 20] [8] (f5_k39 K) (Env.mk 176 [(119, (Value.int .i64 a)), (118, (Value.int .i64 c)), (117, (Value.slice n o p)), (20, (Value.slice d e f)), (116, (Value.slice q r s)), (115, (Value.slice t u v)), (9, (Value.bool g)), (22, (Value.slice h i j)), (10, (Value.pointer (some k))), (8, (Value.bool l)), (16, (Value.int .u32 m)), (20, (Value.slice x y z))] []) w) (by kernel_rfl) (Eq.trans (b := (CS P (codeAt c5 [1, 1, 1, 1, 1, 1, 1, 1, 1, 1, 1, 1, 1, 0, 1, 0]) none [9, 22, 20] [8, 9, 22, 20] (f5_k41 K) (Env.mk 176 [(119, (Value.int .i64 a)), (118, (Value.int .i64 c)), (117, (Value.slice n o p)), (20, (Value.slice d e f)), (116, (Value.slice q r s)), (115, (Value.slice t u v)), (9, (Value.bool g)), (22, (Value.slice h i j)), (10, (Value.pointer (some k))), (8, (Value.bool l)), (16, (Value.int .u32 m)), (20, (Value.slice x y z))] []) w)) (CS_block' (b := (codeAt c5 [1, 1, 1, 1, 1, 1, 1, 1, 1, 1, 1, 1, 1, 0, 1, 0])) (by kernel_rfl) (by kernel_rfl)) ((CS_loop' (b := (codeAt c5 [1, 1, 1, 1, 1, 1, 1, 1, 1, 1, 1, 1, 1, 0, 1, 0, 0])) (X' := [8, 9, 22, 20]) (H := [9, 22, 20, 119, 10, 8, 16, 118]) (by kernel_rfl) (by kernel_rfl) (by kernel_rfl)).trans (by kernel_rfl)))
theorem f5_s31_eq (c : Option Addr) (d e : Nat) (f : Option Addr) (g h : Nat) (i : Option Addr) (j k : Nat) (l : Bool) (m : Option Addr) (n o : Nat) (p : Addr) (q : Bool) (r : Int) (s : Option Addr) (t u : Nat) (w : World) (K : KT) : f5_s31 c d e f g h i j k l m n o p q r s t u w K = (∃ v : Int, (∀ wq, Ext w wq → (Builtin.len_ #[25] 3 [(Value.slice c d e)].toArray).run P wq = .ok (Value.int .i64 v) wq) ∧ f5_s32 0 v c d e c d e f g h i j k l m n o p q r s t u w K) := Eq.trans (b := CS P (codeAt c5 [1, 1, 1, 1, 1, 1, 1, 1, 1, 1, 1, 1, 1]) none [8] [8] (f5_kb K) (Env.mk 176 [(20, (Value.slice c d e)), (116, (Value.slice f g h)), (115, (Value.slice i j k)), (9, (Value.bool l)), (22, (Value.slice m n o)), (10, (Value.pointer (some p))), (8, (Value.bool q)), (16, (Value.int .u32 r)), (20, (Value.slice s t u))] []) w) (by kernel_rfl) (Eq.trans (b := (CS P (codeAt c5 [1, 1, 1, 1, 1, 1, 1, 1, 1, 1, 1, 1, 1, 0]) none [9, 22, 20] [8] (f5_k39 K) (Env.mk 176 [(20, (Value.slice c d e)), (116, (Value.slice f g h)), (115, (Value.slice i j k)), (9, (Value.bool l)), (22, (Value.slice m n o)), (10, (Value.pointer (some p))), (8, (Value.bool q)), (16, (Value.int .u32 r)), (20, (Value.slice s t u))] []) w)) (CS_seq' (a := (codeAt c5 [1, 1, 1, 1, 1, 1, 1, 1, 1, 1, 1, 1, 1, 0])) (b := (codeAt c5 [1, 1, 1, 1, 1, 1, 1, 1, 1, 1, 1, 1, 1, 1])) (by kernel_rfl) (by kernel_rfl)) (Eq.trans (b := (CS P (codeAt c5 [1, 1, 1, 1, 1, 1, 1, 1, 1, 1, 1, 1, 1, 0, 0]) none [9, 22, 20, 119, 10, 8, 16, 118] [8] (f5_k40 K) (Env.mk 176 [(20, (Value.slice c d e)), (116, (Value.slice f g h)), (115, (Value.slice i j k)), (9, (Value.bool l)), (22, (Value.slice m n o)), (10, (Value.pointer (some p))), (8, (Value.bool q)), (16, (Value.int .u32 r)), (20, (Value.slice s t u))] []) w)) (CS_seq' (a := (codeAt c5 [1, 1, 1, 1, 1, 1, 1, 1, 1, 1, 1, 1, 1, 0, 0])) (b := (codeAt c5 [1, 1, 1, 1, 1, 1, 1, 1, 1, 1, 1, 1, 1, 0, 1])) (by kernel_rfl) (by kernel_rfl)) (by kernel_rfl)))
theorem f5_s30_eq (f : Bool) (g : Option Addr) (h i : Nat) (j : Addr) (k : Bool) (l : Int) (c : Option Addr) (d e : Nat) (w : World) (K : KT) : f5_s30 f g h i j k l c d e w K = (CallL P 20 [(Value.slice c d e)] w (fun p q => ∃ (m : Option Addr) (n o : Nat), p = (Value.slice m n o) ∧ f5_s31 m n o m n o c d e f g h i j k l c d e q K)) := Eq.trans (b := CS P (codeAt c5 [1, 1, 1, 1, 1, 1, 1, 1, 1, 1, 1, 1]) none [8] [8] (f5_kb K) (Env.mk 176 [(9, (Value.bool f)), (22, (Value.slice g h i)), (10, (Value.pointer (some j))), (8, (Value.bool k)), (16, (Value.int .u32 l)), (20, (Value.slice c d e))] []) w) (by kernel_rfl) (Eq.trans (b := (CS P (codeAt c5 [1, 1, 1, 1, 1, 1, 1, 1, 1, 1, 1, 1, 0]) none [9, 22, 20, 10, 8, 16] [8] (f5_k38 K) (Env.mk 176 [(9, (Value.bool f)), (22, (Value.slice g h i)), (10, (Value.pointer (some j))), (8, (Value.bool k)), (16, (Value.int .u32 l)), (20, (Value.slice c d e))] []) w)) (CS_seq' (a := (codeAt c5 [1, 1, 1, 1, 1, 1, 1, 1, 1, 1, 1, 1, 0])) (b := (codeAt c5 [1, 1, 1, 1, 1, 1, 1, 1, 1, 1, 1, 1, 1])) (by kernel_rfl) (by kernel_rfl)) (by kernel_rfl))
theorem f5_s28_eq (c a : Bool) (d e : Int) (f : Option Addr) (g h : Nat) (i : Addr) (j : Bool) (k : Int) (l : Option Addr) (m n : Nat) (w : World) (K : KT) : f5_s28 c a d e f g h i j k l m n w K = (BIf c (BIf ((e : Int) == d) (f5_s29 a w K) (f5_s29 false w K)) (f5_s30 a f g h i j k l m n w K)) := Eq.trans (b := CS P (codeAt c5 [1, 1, 1, 1, 1, 1, 1, 1, 1, 1, 1, 0, 1]) none [9, 22, 10, 8, 16, 20] [8] (f5_k35 K) (Env.mk 176 [(108, (Value.bool c)), (9, (Value.bool a)), (23, (Value.int .i64 d)), (21, (Value.int .i64 e)), (22, (Value.slice f g h)), (10, (Value.pointer (some i))), (8, (Value.bool j)), (16, (Value.int .u32 k)), (20, (Value.slice l m n))] []) w) (by kernel_rfl) (by kernel_rfl)
theorem f5_s27_eq (c : Int) (e : Option Addr) (f g : Nat) (o : Int) (p : Option Addr) (q r : Nat) (s : Option Addr) (t u : Nat) (v : Int) (x : Option Addr) (y z : Nat) (a0 : Int) (b0 : Option Addr) (c0 d0 : Nat) (d : Int) (h : Option Addr) (i j : Nat) (e0 : Int) (f0 : Option Addr) (g0 h0 : Nat) (i0 : Option Addr) (j0 l0 : Nat) (m0 : Int) (n0 : Option Addr) (o0 p0 : Nat) (q0 : Int) (r0 : Option Addr) (s0 t0 : Nat) (k : Bool) (l : Addr) (m : Bool) (n : Int) (u0 : Option Addr) (v0 x0 : Nat) (y0 : Option Addr) (z0 A0 : Nat) (w : World) (K : KT) : f5_s27 c e f g o p q r s t u v x y z a0 b0 c0 d0 d h i j e0 f0 g0 h0 i0 j0 l0 m0 n0 o0 p0 q0 r0 s0 t0 k l m n u0 v0 x0 y0 z0 A0 w K = (BIf ((d : Int) != 0) (f5_s28 true k c d e f g l m n h i j w K) (f5_s28 ((c : Int) != 0) k c d e f g l m n h i j w K)) := Eq.trans (b := CS P (codeAt c5 [1, 1, 1, 1, 1, 1, 1, 1, 1, 1, 1]) none [8] [8] (f5_kb K) (Env.mk 176 [(23, (Value.int .i64 c)), (22, (Value.slice e f g)), (102, (Value.int .i64 o)), (101, (Value.slice p q r)), (98, (Value.tuple [(Value.slice s t u), (Value.int .i64 v)].toArray)), (100, (Value.tuple [(Value.slice x y z), (Value.int .i64 a0)].toArray)), (99, (Value.slice b0 c0 d0)), (21, (Value.int .i64 d)), (20, (Value.slice h i j)), (97, (Value.int .i64 e0)), (96, (Value.slice f0 g0 h0)), (93, (Value.tuple [(Value.slice i0 j0 l0), (Value.int .i64 m0)].toArray)), (95, (Value.tuple [(Value.slice n0 o0 p0), (Value.int .i64 q0)].toArray)), (94, (Value.slice r0 s0 t0)), (9, (Value.bool k)), (10, (Value.pointer (some l))), (8, (Value.bool m)), (16, (Value.int .u32 n)), (17, (Value.slice u0 v0 x0)), (0, (Value.slice y0 z0 A0))] []) w) (by kernel_rfl) (Eq.trans (b := (CS P (codeAt c5 [1, 1, 1, 1, 1, 1, 1, 1, 1, 1, 1, 0]) none [9, 22, 10, 8, 16, 20] [8] (f5_k35 K) (Env.mk 176 [(23, (Value.int .i64 c)), (22, (Value.slice e f g)), (102, (Value.int .i64 o)), (101, (Value.slice p q r)), (98, (Value.tuple [(Value.slice s t u), (Value.int .i64 v)].toArray)), (100, (Value.tuple [(Value.slice x y z), (Value.int .i64 a0)].toArray)), (99, (Value.slice b0 c0 d0)), (21, (Value.int .i64 d)), (20, (Value.slice h i j)), (97, (Value.int .i64 e0)), (96, (Value.slice f0 g0 h0)), (93, (Value.tuple [(Value.slice i0 j0 l0), (Value.int .i64 m0)].toArray)), (95, (Value.tuple [(Value.slice n0 o0 p0), (Value.int .i64 q0)].toArray)), (94, (Value.slice r0 s0 t0)), (9, (Value.bool k)), (10, (Value.pointer (some l))), (8, (Value.bool m)), (16, (Value.int .u32 n)), (17, (Value.slice u0 v0 x0)), (0, (Value.slice y0 z0 A0))] []) w)) (CS_seq' (a := (codeAt c5 [1, 1, 1, 1, 1, 1, 1, 1, 1, 1, 1, 0])) (b := (codeAt c5 [1, 1, 1, 1, 1, 1, 1, 1, 1, 1, 1, 1])) (by kernel_rfl) (by kernel_rfl)) (Eq.trans (b := (CS P (codeAt c5 [1, 1, 1, 1, 1, 1, 1, 1, 1, 1, 1, 0, 0]) none [108, 9, 23, 21, 22, 10, 8, 16, 20] [8] (f5_k36 K) (Env.mk 176 [(23, (Value.int .i64 c)), (22, (Value.slice e f g)), (102, (Value.int .i64 o)), (101, (Value.slice p q r)), (98, (Value.tuple [(Value.slice s t u), (Value.int .i64 v)].toArray)), (100, (Value.tuple [(Value.slice x y z), (Value.int .i64 a0)].toArray)), (99, (Value.slice b0 c0 d0)), (21, (Value.int .i64 d)), (20, (Value.slice h i j)), (97, (Value.int .i64 e0)), (96, (Value.slice f0 g0 h0)), (93, (Value.tuple [(Value.slice i0 j0 l0), (Value.int .i64 m0)].toArray)), (95, (Value.tuple [(Value.slice n0 o0 p0), (Value.int .i64 q0)].toArray)), (94, (Value.slice r0 s0 t0)), (9, (Value.bool k)), (10, (Value.pointer (some l))), (8, (Value.bool m)), (16, (Value.int .u32 n)), (17, (Value.slice u0 v0 x0)), (0, (Value.slice y0 z0 A0))] []) w)) (CS_seq' (a := (codeAt c5 [1, 1, 1, 1, 1, 1, 1, 1, 1, 1, 1, 0, 0])) (b := (codeAt c5 [1, 1, 1, 1, 1, 1, 1, 1, 1, 1, 1, 0, 1])) (by kernel_rfl) (by kernel_rfl)) (by kernel_rfl)))
theorem f5_s26_eq (j : Int) (k : Option Addr) (l m : Nat) (n : Int) (o : Option Addr) (p q : Nat) (r : Option Addr) (s t : Nat) (u : Int) (v : Option Addr) (x y : Nat) (z : Int) (a0 : Option Addr) (b0 c0 : Nat) (d0 : Bool) (e0 : Addr) (f0 : Bool) (g0 : Int) (c : Option Addr) (d e : Nat) (h0 : Option Addr) (i0 j0 : Nat) (w : World) (K : KT) : f5_s26 j k l m n o p q r s t u v x y z a0 b0 c0 d0 e0 f0 g0 c d e h0 i0 j0 w K = (CallL P 16 [(Value.slice c d e)] w (fun l0 m0 => ∃ (f : Option Addr) (g h : Nat), ∃ i : Int, l0 = (Value.tuple [(Value.slice f g h), (Value.int .i64 i)].toArray) ∧ f5_s27 i f g h i f g h f g h i f g h i c d e j k l m n o p q r s t u v x y z a0 b0 c0 d0 e0 f0 g0 c d e h0 i0 j0 m0 K)) := Eq.trans (b := CS P (codeAt c5 [1, 1, 1, 1, 1, 1, 1, 1, 1, 1]) none [8] [8] (f5_kb K) (Env.mk 176 [(21, (Value.int .i64 j)), (20, (Value.slice k l m)), (97, (Value.int .i64 n)), (96, (Value.slice o p q)), (93, (Value.tuple [(Value.slice r s t), (Value.int .i64 u)].toArray)), (95, (Value.tuple [(Value.slice v x y), (Value.int .i64 z)].toArray)), (94, (Value.slice a0 b0 c0)), (9, (Value.bool d0)), (10, (Value.pointer (some e0))), (8, (Value.bool f0)), (16, (Value.int .u32 g0)), (17, (Value.slice c d e)), (0, (Value.slice h0 i0 j0))] []) w) (by kernel_rfl) (Eq.trans (b := (CS P (codeAt c5 [1, 1, 1, 1, 1, 1, 1, 1, 1, 1, 0]) none [9, 23, 21, 22, 10, 8, 16, 20] [8] (f5_k34 K) (Env.mk 176 [(21, (Value.int .i64 j)), (20, (Value.slice k l m)), (97, (Value.int .i64 n)), (96, (Value.slice o p q)), (93, (Value.tuple [(Value.slice r s t), (Value.int .i64 u)].toArray)), (95, (Value.tuple [(Value.slice v x y), (Value.int .i64 z)].toArray)), (94, (Value.slice a0 b0 c0)), (9, (Value.bool d0)), (10, (Value.pointer (some e0))), (8, (Value.bool f0)), (16, (Value.int .u32 g0)), (17, (Value.slice c d e)), (0, (Value.slice h0 i0 j0))] []) w)) (CS_seq' (a := (codeAt c5 [1, 1, 1, 1, 1, 1, 1, 1, 1, 1, 0])) (b := (codeAt c5 [1, 1, 1, 1, 1, 1, 1, 1, 1, 1, 1])) (by kernel_rfl) (by kernel_rfl)) (by kernel_rfl))
theorem f5_s25_eq (j : Bool) (k : Addr) (l : Bool) (m : Int) (n : Option Addr) (o p : Nat) (c : Option Addr) (d e : Nat) (w : World) (K : KT) : f5_s25 j k l m n o p c d e w K = (CallL P 16 [(Value.slice c d e)] w (fun q r => ∃ (f : Option Addr) (g h : Nat), ∃ i : Int, q = (Value.tuple [(Value.slice f g h), (Value.int .i64 i)].toArray) ∧ f5_s26 i f g h i f g h f g h i f g h i c d e j k l m n o p c d e r K)) := Eq.trans (b := CS P (codeAt c5 [1, 1, 1, 1, 1, 1, 1, 1, 1]) none [8] [8] (f5_kb K) (Env.mk 176 [(9, (Value.bool j)), (10, (Value.pointer (some k))), (8, (Value.bool l)), (16, (Value.int .u32 m)), (17, (Value.slice n o p)), (0, (Value.slice c d e))] []) w) (by kernel_rfl) (Eq.trans (b := (CS P (codeAt c5 [1, 1, 1, 1, 1, 1, 1, 1, 1, 0]) none [9, 21, 10, 8, 16, 20, 17] [8] (f5_k33 K) (Env.mk 176 [(9, (Value.bool j)), (10, (Value.pointer (some k))), (8, (Value.bool l)), (16, (Value.int .u32 m)), (17, (Value.slice n o p)), (0, (Value.slice c d e))] []) w)) (CS_seq' (a := (codeAt c5 [1, 1, 1, 1, 1, 1, 1, 1, 1, 0])) (b := (codeAt c5 [1, 1, 1, 1, 1, 1, 1, 1, 1, 1])) (by kernel_rfl) (by kernel_rfl)) (by kernel_rfl))
theorem f5_s22_eq (m : Bool) (n : Int) (c : Addr) (o d : Int) (e : Option Addr) (f g : Nat) (p : Option Addr) (q r : Nat) (h i : Bool) (j : Option Addr) (k l : Nat) (s : Int) (w : World) (K : KT) (Y21 : YT) : f5_s22 m n c o d e f g p q r h i j k l s w K Y21 = (BIf m (f5_s23 c o d p q r h i j k l s n e f g w K Y21) (f5_s25 i c h d e f g j k l w K)) := Eq.trans (b := CS P (codeAt c5 [1, 1, 1, 1, 1, 1, 1, 1, 0, 1, 0, 0, 1]) none [80, 10, 2, 16, 17, 78, 8, 9, 0, 79] [8, 9, 10, 16, 17, 0] (f5_kl21 K Y21) (Env.mk 176 [(81, (Value.bool m)), (80, (Value.int .i64 n)), (10, (Value.pointer (some c))), (2, (Value.int .u32 o)), (16, (Value.int .u32 d)), (17, (Value.slice e f g)), (78, (Value.slice p q r)), (8, (Value.bool h)), (9, (Value.bool i)), (0, (Value.slice j k l)), (79, (Value.int .i64 s))] []) w) (by kernel_rfl) (Eq.trans (b := (CS P (codeAt c5 [1, 1, 1, 1, 1, 1, 1, 1, 0, 1, 0, 0, 1, 0]) none [10, 2, 16, 78, 8, 9, 0, 79, 80, 17] [8, 9, 10, 16, 17, 0] (f5_k29 K Y21) (Env.mk 176 [(81, (Value.bool m)), (80, (Value.int .i64 n)), (10, (Value.pointer (some c))), (2, (Value.int .u32 o)), (16, (Value.int .u32 d)), (17, (Value.slice e f g)), (78, (Value.slice p q r)), (8, (Value.bool h)), (9, (Value.bool i)), (0, (Value.slice j k l)), (79, (Value.int .i64 s))] []) w)) (CS_seq' (a := (codeAt c5 [1, 1, 1, 1, 1, 1, 1, 1, 0, 1, 0, 0, 1, 0])) (b := (codeAt c5 [1, 1, 1, 1, 1, 1, 1, 1, 0, 1, 0, 0, 1, 1])) (by kernel_rfl) (by kernel_rfl)) (by kernel_rfl))
theorem f5_lb21_eq (c : Int) (e : Addr) (f g : Int) (h : Option Addr) (i j : Nat) (k : Option Addr) (l m : Nat) (n o : Bool) (p : Option Addr) (q r : Nat) (d : Int) (w : World) (K : KT) (Y21 : YT) : f5_lb21 c e f g h i j k l m n o p q r d w K Y21 = (f5_s22 (decide ((c : Int) < d)) c e f g h i j k l m n o p q r d w K Y21) := Eq.trans (b := CS P (codeAt c5 [1, 1, 1, 1, 1, 1, 1, 1, 0, 1, 0, 0]) none [80, 10, 2, 16, 17, 78, 8, 9, 0, 79] [8, 9, 10, 16, 17, 0] (f5_kl21 K Y21) (Env.mk 176 [(80, (Value.int .i64 c)), (10, (Value.pointer (some e))), (2, (Value.int .u32 f)), (16, (Value.int .u32 g)), (17, (Value.slice h i j)), (78, (Value.slice k l m)), (8, (Value.bool n)), (9, (Value.bool o)), (0, (Value.slice p q r)), (79, (Value.int .i64 d))] []) w) (by kernel_rfl) (Eq.trans (b := (CS P (codeAt c5 [1, 1, 1, 1, 1, 1, 1, 1, 0, 1, 0, 0, 0]) none [81, 10, 2, 16, 78, 8, 9, 0, 79, 80, 17] [8, 9, 10, 16, 17, 0] (f5_k28 K Y21) (Env.mk 176 [(80, (Value.int .i64 c)), (10, (Value.pointer (some e))), (2, (Value.int .u32 f)), (16, (Value.int .u32 g)), (17, (Value.slice h i j)), (78, (Value.slice k l m)), (8, (Value.bool n)), (9, (Value.bool o)), (0, (Value.slice p q r)), (79, (Value.int .i64 d))] []) w)) (CS_seq' (a := (codeAt c5 [1, 1, 1, 1, 1, 1, 1, 1, 0, 1, 0, 0, 0])) (b := (codeAt c5 [1, 1, 1, 1, 1, 1, 1, 1, 0, 1, 0, 0, 1])) (by kernel_rfl) (by kernel_rfl)) (by kernel_rfl))
theorem f5_s20_eq (a c : Int) (d : Option Addr) (e f : Nat) (g : Option Addr) (h i : Nat) (r : Option Addr) (s t : Nat) (j u v : Int) (k : Addr) (l : Int) (m n : Bool) (o : Option Addr) (p q : Nat) (x : Int) (w : World) (K : KT) : f5_s20 a c d e f g h i r s t j u v k l m n o p q x w K = (LoopE (f5_lp21 K) (Env.mk 176 [(80, (Value.int .i64 a)), (10, (Value.pointer (some k))), (2, (Value.int .u32 l)), (16, (Value.int .u32 j)), (17, (Value.slice g h i)), (78, (Value.slice d e f)), (8, (Value.bool m)), (9, (Value.bool n)), (0, (Value.slice o p q)), (79, (Value.int .i64 c))] []) w) := Eq.trans (b := CS P (codeAt c5 [1, 1, 1, 1, 1, 1, 1, 1, 0, 1]) none [9, 10, 8, 16, 17, 0] [8] (f5_k25 K) (Env.mk 176 [(80, (Value.int .i64 a)), (79, (Value.int .i64 c)), (78, (Value.slice d e f)), (17, (Value.slice g h i)), (77, (Value.slice r s t)), (16, (Value.int .u32 j)), (76, (Value.int .u32 u)), (75, (Value.int .u32 v)), (10, (Value.pointer (some k))), (2, (Value.int .u32 l)), (8, (Value.bool m)), (9, (Value.bool n)), (0, (Value.slice o p q)), (1, (Value.int .u32 x))] []) w) (by kernel_rfl) (Eq.trans (b := (CS P (codeAt c5 [1, 1, 1, 1, 1, 1, 1, 1, 0, 1, 0]) none [9, 10, 8, 16, 17, 0] [8, 9, 10, 16, 17, 0] (f5_k27 K) (Env.mk 176 [(80, (Value.int .i64 a)), (79, (Value.int .i64 c)), (78, (Value.slice d e f)), (17, (Value.slice g h i)), (77, (Value.slice r s t)), (16, (Value.int .u32 j)), (76, (Value.int .u32 u)), (75, (Value.int .u32 v)), (10, (Value.pointer (some k))), (2, (Value.int .u32 l)), (8, (Value.bool m)), (9, (Value.bool n)), (0, (Value.slice o p q)), (1, (Value.int .u32 x))] []) w)) (CS_block' (b := (codeAt c5 [1, 1, 1, 1, 1, 1, 1, 1, 0, 1, 0])) (by kernel_rfl) (by kernel_rfl)) ((CS_loop' (b := (codeAt c5 [1, 1, 1, 1, 1, 1, 1, 1, 0, 1, 0, 0])) (X' := [8, 9, 10, 16, 17, 0]) (H := [80, 10, 2, 16, 17, 78, 8, 9, 0, 79]) (by kernel_rfl) (by kernel_rfl) (by kernel_rfl)).trans (by kernel_rfl)))
theorem f5_s19_eq (f : Option Addr) (g h : Nat) (i : Option Addr) (j k : Nat) (l m n : Int) (o : Addr) (p : Int) (q r : Bool) (c : Option Addr) (d e : Nat) (s : Int) (w : World) (K : KT) : f5_s19 f g h i j k l m n o p q r c d e s w K = (∃ t : Int, (∀ wq, Ext w wq → (Builtin.len_ #[22] 3 [(Value.slice c d e)].toArray).run P wq = .ok (Value.int .i64 t) wq) ∧ f5_s20 0 t c d e f g h i j k l m n o p q r c d e s w K) := Eq.trans (b := CS P (codeAt c5 [1, 1, 1, 1, 1, 1, 1, 1]) none [8] [8] (f5_kb K) (Env.mk 176 [(17, (Value.slice f g h)), (77, (Value.slice i j k)), (16, (Value.int .u32 l)), (76, (Value.int .u32 m)), (75, (Value.int .u32 n)), (10, (Value.pointer (some o))), (2, (Value.int .u32 p)), (8, (Value.bool q)), (9, (Value.bool r)), (0, (Value.slice c d e)), (1, (Value.int .u32 s))] []) w) (by kernel_rfl) (Eq.trans (b := (CS P (codeAt c5 [1, 1, 1, 1, 1, 1, 1, 1, 0]) none [9, 10, 8, 16, 17, 0] [8] (f5_k25 K) (Env.mk 176 [(17, (Value.slice f g h)), (77, (Value.slice i j k)), (16, (Value.int .u32 l)), (76, (Value.int .u32 m)), (75, (Value.int .u32 n)), (10, (Value.pointer (some o))), (2, (Value.int .u32 p)), (8, (Value.bool q)), (9, (Value.bool r)), (0, (Value.slice c d e)), (1, (Value.int .u32 s))] []) w)) (CS_seq' (a := (codeAt c5 [1, 1, 1, 1, 1, 1, 1, 1, 0])) (b := (codeAt c5 [1, 1, 1, 1, 1, 1, 1, 1, 1])) (by kernel_rfl) (by kernel_rfl)) (Eq.trans (b := (CS P (codeAt c5 [1, 1, 1, 1, 1, 1, 1, 1, 0, 0]) none [80, 10, 2, 16, 17, 78, 8, 9, 0, 79] [8] (f5_k26 K) (Env.mk 176 [(17, (Value.slice f g h)), (77, (Value.slice i j k)), (16, (Value.int .u32 l)), (76, (Value.int .u32 m)), (75, (Value.int .u32 n)), (10, (Value.pointer (some o))), (2, (Value.int .u32 p)), (8, (Value.bool q)), (9, (Value.bool r)), (0, (Value.slice c d e)), (1, (Value.int .u32 s))] []) w)) (CS_seq' (a := (codeAt c5 [1, 1, 1, 1, 1, 1, 1, 1, 0, 0])) (b := (codeAt c5 [1, 1, 1, 1, 1, 1, 1, 1, 0, 1])) (by kernel_rfl) (by kernel_rfl)) (by kernel_rfl)))
theorem f5_s18_eq (c d e : Int) (f : Addr) (g : Int) (h i : Bool) (j : Option Addr) (k l : Nat) (m : Int) (w : World) (K : KT) : f5_s18 c d e f g h i j k l m w K = (∃ (n : Option Addr) (o p : Nat), ∃ q : World, (Instr.buildSlice 22 0 ([] : List (Nat × Value)).toArray).run P w = .ok (Value.slice n o p) q ∧ f5_s19 n o p n o p c d e f g h i j k l m q K) := Eq.trans (b := CS P (codeAt c5 [1, 1, 1, 1, 1, 1, 1]) none [8] [8] (f5_kb K) (Env.mk 176 [(16, (Value.int .u32 c)), (76, (Value.int .u32 d)), (75, (Value.int .u32 e)), (10, (Value.pointer (some f))), (2, (Value.int .u32 g)), (8, (Value.bool h)), (9, (Value.bool i)), (0, (Value.slice j k l)), (1, (Value.int .u32 m))] []) w) (by kernel_rfl) (Eq.trans (b := (CS P (codeAt c5 [1, 1, 1, 1, 1, 1, 1, 0]) none [10, 2, 16, 17, 8, 9, 0] [8] (f5_k24 K) (Env.mk 176 [(16, (Value.int .u32 c)), (76, (Value.int .u32 d)), (75, (Value.int .u32 e)), (10, (Value.pointer (some f))), (2, (Value.int .u32 g)), (8, (Value.bool h)), (9, (Value.bool i)), (0, (Value.slice j k l)), (1, (Value.int .u32 m))] []) w)) (CS_seq' (a := (codeAt c5 [1, 1, 1, 1, 1, 1, 1, 0])) (b := (codeAt c5 [1, 1, 1, 1, 1, 1, 1, 1])) (by kernel_rfl) (by kernel_rfl)) (by kernel_rfl))
theorem f5_s17_eq (d : Addr) (e : Int) (f g : Bool) (h : Option Addr) (i j : Nat) (c : Int) (w : World) (K : KT) : f5_s17 d e f g h i j c w K = (f5_s18 (IntKind.wrap .u32 ((4 : Int) * c)) (IntKind.wrap .u32 ((4 : Int) * c)) c d e f g h i j c w K) := Eq.trans (b := CS P (codeAt c5 [1, 1, 1, 1, 1, 1]) none [8] [8] (f5_kb K) (Env.mk 176 [(10, (Value.pointer (some d))), (2, (Value.int .u32 e)), (8, (Value.bool f)), (9, (Value.bool g)), (0, (Value.slice h i j)), (1, (Value.int .u32 c))] []) w) (by kernel_rfl) (Eq.trans (b := (CS P (codeAt c5 [1, 1, 1, 1, 1, 1, 0]) none [10, 2, 16, 8, 9, 0] [8] (f5_k23 K) (Env.mk 176 [(10, (Value.pointer (some d))), (2, (Value.int .u32 e)), (8, (Value.bool f)), (9, (Value.bool g)), (0, (Value.slice h i j)), (1, (Value.int .u32 c))] []) w)) (CS_seq' (a := (codeAt c5 [1, 1, 1, 1, 1, 1, 0])) (b := (codeAt c5 [1, 1, 1, 1, 1, 1, 1])) (by kernel_rfl) (by kernel_rfl)) (by kernel_rfl))
theorem f5_s14_eq (k : Bool) (l : Int) (c : Addr) (m : Option Addr) (n o : Nat) (d : Bool) (e : Int) (f : Bool) (g : Option Addr) (h i : Nat) (j p : Int) (w : World) (K : KT) (Y13 : YT) : f5_s14 k l c m n o d e f g h i j p w K Y13 = (BIf k (f5_s15 c m n o d e f g h i j p l w K Y13) (f5_s17 c e d f g h i j w K)) := Eq.trans (b := CS P (codeAt c5 [1, 1, 1, 1, 1, 0, 1, 0, 0, 1]) none [51, 10, 49, 8, 2, 9, 0, 1, 50] [8, 10, 2, 9, 0, 1] (f5_kl13 K Y13) (Env.mk 176 [(52, (Value.bool k)), (51, (Value.int .i64 l)), (10, (Value.pointer (some c))), (49, (Value.slice m n o)), (8, (Value.bool d)), (2, (Value.int .u32 e)), (9, (Value.bool f)), (0, (Value.slice g h i)), (1, (Value.int .u32 j)), (50, (Value.int .i64 p))] []) w) (by kernel_rfl) (Eq.trans (b := (CS P (codeAt c5 [1, 1, 1, 1, 1, 0, 1, 0, 0, 1, 0]) none [10, 49, 8, 2, 9, 0, 1, 50, 51] [8, 10, 2, 9, 0, 1] (f5_k18 K Y13) (Env.mk 176 [(52, (Value.bool k)), (51, (Value.int .i64 l)), (10, (Value.pointer (some c))), (49, (Value.slice m n o)), (8, (Value.bool d)), (2, (Value.int .u32 e)), (9, (Value.bool f)), (0, (Value.slice g h i)), (1, (Value.int .u32 j)), (50, (Value.int .i64 p))] []) w)) (CS_seq' (a := (codeAt c5 [1, 1, 1, 1, 1, 0, 1, 0, 0, 1, 0])) (b := (codeAt c5 [1, 1, 1, 1, 1, 0, 1, 0, 0, 1, 1])) (by kernel_rfl) (by kernel_rfl)) (by kernel_rfl))
theorem f5_lb13_eq (c : Int) (e : Addr) (f : Option Addr) (g h : Nat) (i : Bool) (j : Int) (k : Bool) (l : Option Addr) (m n : Nat) (o d : Int) (w : World) (K : KT) (Y13 : YT) : f5_lb13 c e f g h i j k l m n o d w K Y13 = (f5_s14 (decide ((c : Int) < d)) c e f g h i j k l m n o d w K Y13) := Eq.trans (b := CS P (codeAt c5 [1, 1, 1, 1, 1, 0, 1, 0, 0]) none [51, 10, 49, 8, 2, 9, 0, 1, 50] [8, 10, 2, 9, 0, 1] (f5_kl13 K Y13) (Env.mk 176 [(51, (Value.int .i64 c)), (10, (Value.pointer (some e))), (49, (Value.slice f g h)), (8, (Value.bool i)), (2, (Value.int .u32 j)), (9, (Value.bool k)), (0, (Value.slice l m n)), (1, (Value.int .u32 o)), (50, (Value.int .i64 d))] []) w) (by kernel_rfl) (Eq.trans (b := (CS P (codeAt c5 [1, 1, 1, 1, 1, 0, 1, 0, 0, 0]) none [52, 10, 49, 8, 2, 9, 0, 1, 50, 51] [8, 10, 2, 9, 0, 1] (f5_k17 K Y13) (Env.mk 176 [(51, (Value.int .i64 c)), (10, (Value.pointer (some e))), (49, (Value.slice f g h)), (8, (Value.bool i)), (2, (Value.int .u32 j)), (9, (Value.bool k)), (0, (Value.slice l m n)), (1, (Value.int .u32 o)), (50, (Value.int .i64 d))] []) w)) (CS_seq' (a := (codeAt c5 [1, 1, 1, 1, 1, 0, 1, 0, 0, 0])) (b := (codeAt c5 [1, 1, 1, 1, 1, 0, 1, 0, 0, 1])) (by kernel_rfl) (by kernel_rfl)) (by kernel_rfl))
theorem f5_s12_eq (a c : Int) (d : Option Addr) (e f : Nat) (g : Addr) (h : Bool) (i : Int) (j : Bool) (k : Option Addr) (l m : Nat) (n : Int) (o : Option Addr) (p q : Nat) (w : World) (K : KT) : f5_s12 a c d e f g h i j k l m n o p q w K = (LoopE (f5_lp13 K) (Env.mk 176 [(51, (Value.int .i64 a)), (10, (Value.pointer (some g))), (49, (Value.slice d e f)), (8, (Value.bool h)), (2, (Value.int .u32 i)), (9, (Value.bool j)), (0, (Value.slice k l m)), (1, (Value.int .u32 n)), (50, (Value.int .i64 c))] []) w) := Eq.trans (b := CS P (codeAt c5 [1, 1, 1, 1, 1, 0, 1]) none [10, 2, 8, 9, 0, 1] [8] (f5_k14 K) (Env.mk 176 [(51, (Value.int .i64 a)), (50, (Value.int .i64 c)), (49, (Value.slice d e f)), (10, (Value.pointer (some g))), (8, (Value.bool h)), (2, (Value.int .u32 i)), (9, (Value.bool j)), (0, (Value.slice k l m)), (1, (Value.int .u32 n)), (3, (Value.slice o p q))] []) w) (by kernel_rfl) (Eq.trans (b := (CS P (codeAt c5 [1, 1, 1, 1, 1, 0, 1, 0]) none [10, 2, 8, 9, 0, 1] [8, 10, 2, 9, 0, 1] (f5_k16 K) (Env.mk 176 [(51, (Value.int .i64 a)), (50, (Value.int .i64 c)), (49, (Value.slice d e f)), (10, (Value.pointer (some g))), (8, (Value.bool h)), (2, (Value.int .u32 i)), (9, (Value.bool j)), (0, (Value.slice k l m)), (1, (Value.int .u32 n)), (3, (Value.slice o p q))] []) w)) (CS_block' (b := (codeAt c5 [1, 1, 1, 1, 1, 0, 1, 0])) (by kernel_rfl) (by kernel_rfl)) ((CS_loop' (b := (codeAt c5 [1, 1, 1, 1, 1, 0, 1, 0, 0])) (X' := [8, 10, 2, 9, 0, 1]) (H := [51, 10, 49, 8, 2, 9, 0, 1, 50]) (by kernel_rfl) (by kernel_rfl) (by kernel_rfl)).trans (by kernel_rfl)))
theorem f5_s11_eq (f : Addr) (g : Bool) (h : Int) (i : Bool) (j : Option Addr) (k l : Nat) (m : Int) (c : Option Addr) (d e : Nat) (w : World) (K : KT) : f5_s11 f g h i j k l m c d e w K = (∃ n : Int, (∀ wq, Ext w wq → (Builtin.len_ #[39] 3 [(Value.slice c d e)].toArray).run P wq = .ok (Value.int .i64 n) wq) ∧ f5_s12 0 n c d e f g h i j k l m c d e w K) := Eq.trans (b := CS P (codeAt c5 [1, 1, 1, 1, 1]) none [8] [8] (f5_kb K) (Env.mk 176 [(10, (Value.pointer (some f))), (8, (Value.bool g)), (2, (Value.int .u32 h)), (9, (Value.bool i)), (0, (Value.slice j k l)), (1, (Value.int .u32 m)), (3, (Value.slice c d e))] []) w) (by kernel_rfl) (Eq.trans (b := (CS P (codeAt c5 [1, 1, 1, 1, 1, 0]) none [10, 2, 8, 9, 0, 1] [8] (f5_k14 K) (Env.mk 176 [(10, (Value.pointer (some f))), (8, (Value.bool g)), (2, (Value.int .u32 h)), (9, (Value.bool i)), (0, (Value.slice j k l)), (1, (Value.int .u32 m)), (3, (Value.slice c d e))] []) w)) (CS_seq' (a := (codeAt c5 [1, 1, 1, 1, 1, 0])) (b := (codeAt c5 [1, 1, 1, 1, 1, 1])) (by kernel_rfl) (by kernel_rfl)) (Eq.trans (b := (CS P (codeAt c5 [1, 1, 1, 1, 1, 0, 0]) none [51, 10, 49, 8, 2, 9, 0, 1, 50] [8] (f5_k15 K) (Env.mk 176 [(10, (Value.pointer (some f))), (8, (Value.bool g)), (2, (Value.int .u32 h)), (9, (Value.bool i)), (0, (Value.slice j k l)), (1, (Value.int .u32 m)), (3, (Value.slice c d e))] []) w)) (CS_seq' (a := (codeAt c5 [1, 1, 1, 1, 1, 0, 0])) (b := (codeAt c5 [1, 1, 1, 1, 1, 0, 1])) (by kernel_rfl) (by kernel_rfl)) (by kernel_rfl)))
theorem f5_s8_eq (n : Bool) (o : Int) (c : Addr) (d : Bool) (e : Int) (f : Bool) (g : Option Addr) (h i : Nat) (j : Int) (k : Option Addr) (l m : Nat) (w : World) (K : KT) (Y7 : YT) : f5_s8 n o c d e f g h i j k l m w K Y7 = (BIf n (f5_s9 c d e f g h i j k l m o w K Y7) (f5_s11 c d e f g h i j k l m w K)) := Eq.trans (b := CS P (codeAt c5 [1, 1, 1, 1, 0, 1, 0, 0, 1]) none [42, 10, 8, 2, 9, 0, 1, 3] [8, 10, 2, 9, 0, 1, 3] (f5_kl7 K Y7) (Env.mk 176 [(43, (Value.bool n)), (42, (Value.int .i64 o)), (10, (Value.pointer (some c))), (8, (Value.bool d)), (2, (Value.int .u32 e)), (9, (Value.bool f)), (0, (Value.slice g h i)), (1, (Value.int .u32 j)), (3, (Value.slice k l m))] []) w) (by kernel_rfl) (Eq.trans (b := (CS P (codeAt c5 [1, 1, 1, 1, 0, 1, 0, 0, 1, 0]) none [10, 8, 2, 9, 0, 1, 3, 42] [8, 10, 2, 9, 0, 1, 3] (f5_k10 K Y7) (Env.mk 176 [(43, (Value.bool n)), (42, (Value.int .i64 o)), (10, (Value.pointer (some c))), (8, (Value.bool d)), (2, (Value.int .u32 e)), (9, (Value.bool f)), (0, (Value.slice g h i)), (1, (Value.int .u32 j)), (3, (Value.slice k l m))] []) w)) (CS_seq' (a := (codeAt c5 [1, 1, 1, 1, 0, 1, 0, 0, 1, 0])) (b := (codeAt c5 [1, 1, 1, 1, 0, 1, 0, 0, 1, 1])) (by kernel_rfl) (by kernel_rfl)) (by kernel_rfl))
theorem f5_lb7_eq (c : Int) (d : Addr) (e : Bool) (f : Int) (g : Bool) (h : Option Addr) (i j : Nat) (k : Int) (l : Option Addr) (m n : Nat) (w : World) (K : KT) (Y7 : YT) : f5_lb7 c d e f g h i j k l m n w K Y7 = (f5_s8 (decide ((c : Int) < 8)) c d e f g h i j k l m n w K Y7) := Eq.trans (b := CS P (codeAt c5 [1, 1, 1, 1, 0, 1, 0, 0]) none [42, 10, 8, 2, 9, 0, 1, 3] [8, 10, 2, 9, 0, 1, 3] (f5_kl7 K Y7) (Env.mk 176 [(42, (Value.int .i64 c)), (10, (Value.pointer (some d))), (8, (Value.bool e)), (2, (Value.int .u32 f)), (9, (Value.bool g)), (0, (Value.slice h i j)), (1, (Value.int .u32 k)), (3, (Value.slice l m n))] []) w) (by kernel_rfl) (Eq.trans (b := (CS P (codeAt c5 [1, 1, 1, 1, 0, 1, 0, 0, 0]) none [43, 10, 8, 2, 9, 0, 1, 3, 42] [8, 10, 2, 9, 0, 1, 3] (f5_k9 K Y7) (Env.mk 176 [(42, (Value.int .i64 c)), (10, (Value.pointer (some d))), (8, (Value.bool e)), (2, (Value.int .u32 f)), (9, (Value.bool g)), (0, (Value.slice h i j)), (1, (Value.int .u32 k)), (3, (Value.slice l m n))] []) w)) (CS_seq' (a := (codeAt c5 [1, 1, 1, 1, 0, 1, 0, 0, 0])) (b := (codeAt c5 [1, 1, 1, 1, 0, 1, 0, 0, 1])) (by kernel_rfl) (by kernel_rfl)) (by kernel_rfl))
theorem f5_s6_eq (a : Int) (c : Addr) (d : Bool) (e : Int) (f : Bool) (g : Option Addr) (h i : Nat) (j : Int) (k : Option Addr) (l m : Nat) (w : World) (K : KT) : f5_s6 a c d e f g h i j k l m w K = (LoopE (f5_lp7 K) (Env.mk 176 [(42, (Value.int .i64 a)), (10, (Value.pointer (some c))), (8, (Value.bool d)), (2, (Value.int .u32 e)), (9, (Value.bool f)), (0, (Value.slice g h i)), (1, (Value.int .u32 j)), (3, (Value.slice k l m))] []) w) := Eq.trans (b := CS P (codeAt c5 [1, 1, 1, 1, 0, 1]) none [10, 8, 2, 9, 0, 1, 3] [8] (f5_k6 K) (Env.mk 176 [(42, (Value.int .i64 a)), (10, (Value.pointer (some c))), (8, (Value.bool d)), (2, (Value.int .u32 e)), (9, (Value.bool f)), (0, (Value.slice g h i)), (1, (Value.int .u32 j)), (3, (Value.slice k l m))] []) w) (by kernel_rfl) (Eq.trans (b := (CS P (codeAt c5 [1, 1, 1, 1, 0, 1, 0]) none [10, 8, 2, 9, 0, 1, 3] [8, 10, 2, 9, 0, 1, 3] (f5_k8 K) (Env.mk 176 [(42, (Value.int .i64 a)), (10, (Value.pointer (some c))), (8, (Value.bool d)), (2, (Value.int .u32 e)), (9, (Value.bool f)), (0, (Value.slice g h i)), (1, (Value.int .u32 j)), (3, (Value.slice k l m))] []) w)) (CS_block' (b := (codeAt c5 [1, 1, 1, 1, 0, 1, 0])) (by kernel_rfl) (by kernel_rfl)) ((CS_loop' (b := (codeAt c5 [1, 1, 1, 1, 0, 1, 0, 0])) (X' := [8, 10, 2, 9, 0, 1, 3]) (H := [42, 10, 8, 2, 9, 0, 1, 3]) (by kernel_rfl) (by kernel_rfl) (by kernel_rfl)).trans (by kernel_rfl)))
theorem f5_s5_eq (c : Addr) (d : Bool) (e : Int) (f : Bool) (g : Option Addr) (h i : Nat) (j : Int) (k : Option Addr) (l m : Nat) (w : World) (K : KT) : f5_s5 c d e f g h i j k l m w K = (f5_s6 0 c d e f g h i j k l m w K) := Eq.trans (b := CS P (codeAt c5 [1, 1, 1, 1]) none [8] [8] (f5_kb K) (Env.mk 176 [(10, (Value.pointer (some c))), (8, (Value.bool d)), (2, (Value.int .u32 e)), (9, (Value.bool f)), (0, (Value.slice g h i)), (1, (Value.int .u32 j)), (3, (Value.slice k l m))] []) w) (by kernel_rfl) (Eq.trans (b := (CS P (codeAt c5 [1, 1, 1, 1, 0]) none [10, 8, 2, 9, 0, 1, 3] [8] (f5_k6 K) (Env.mk 176 [(10, (Value.pointer (some c))), (8, (Value.bool d)), (2, (Value.int .u32 e)), (9, (Value.bool f)), (0, (Value.slice g h i)), (1, (Value.int .u32 j)), (3, (Value.slice k l m))] []) w)) (CS_seq' (a := (codeAt c5 [1, 1, 1, 1, 0])) (b := (codeAt c5 [1, 1, 1, 1, 1])) (by kernel_rfl) (by kernel_rfl)) (Eq.trans (b := (CS P (codeAt c5 [1, 1, 1, 1, 0, 0]) none [42, 10, 8, 2, 9, 0, 1, 3] [8] (f5_k7 K) (Env.mk 176 [(10, (Value.pointer (some c))), (8, (Value.bool d)), (2, (Value.int .u32 e)), (9, (Value.bool f)), (0, (Value.slice g h i)), (1, (Value.int .u32 j)), (3, (Value.slice k l m))] []) w)) (CS_seq' (a := (codeAt c5 [1, 1, 1, 1, 0, 0])) (b := (codeAt c5 [1, 1, 1, 1, 0, 1])) (by kernel_rfl) (by kernel_rfl)) (by kernel_rfl)))
theorem f5_s4_eq (c : Bool) (d : Int) (e : Bool) (f : Option Addr) (g h : Nat) (i : Int) (j : Option Addr) (k l : Nat) (w : World) (K : KT) : f5_s4 c d e f g h i j k l w K = (NewC (zcells P 40) 40 w (fun m n => f5_s5 (Addr.mk m 0 none) c d e f g h i j k l n K)) := Eq.trans (b := CS P (codeAt c5 [1, 1, 1]) none [8] [8] (f5_kb K) (Env.mk 176 [(8, (Value.bool c)), (2, (Value.int .u32 d)), (9, (Value.bool e)), (0, (Value.slice f g h)), (1, (Value.int .u32 i)), (3, (Value.slice j k l))] []) w) (by kernel_rfl) (Eq.trans (b := (CS P (codeAt c5 [1, 1, 1, 0]) none [10, 8, 2, 9, 0, 1, 3] [8] (f5_k5 K) (Env.mk 176 [(8, (Value.bool c)), (2, (Value.int .u32 d)), (9, (Value.bool e)), (0, (Value.slice f g h)), (1, (Value.int .u32 i)), (3, (Value.slice j k l))] []) w)) (CS_seq' (a := (codeAt c5 [1, 1, 1, 0])) (b := (codeAt c5 [1, 1, 1, 1])) (by kernel_rfl) (by kernel_rfl)) (by kernel_rfl))
theorem f5_s3_eq (c a d : Bool) (e : Int) (f : Option Addr) (g h : Nat) (i : Int) (j : Option Addr) (k l : Nat) (w : World) (K : KT) : f5_s3 c a d e f g h i j k l w K = (BIf c (K (Value.bool a) w) (f5_s4 d e a f g h i j k l w K)) := Eq.trans (b := CS P (codeAt c5 [1, 1, 0, 1]) none [8, 2, 9, 0, 1, 3] [8] (f5_k2 K) (Env.mk 176 [(40, (Value.bool c)), (9, (Value.bool a)), (8, (Value.bool d)), (2, (Value.int .u32 e)), (0, (Value.slice f g h)), (1, (Value.int .u32 i)), (3, (Value.slice j k l))] []) w) (by kernel_rfl) (by kernel_rfl)
theorem f5_s2_eq (i l : Bool) (c : Option Addr) (d e : Nat) (j k : Int) (f : Option Addr) (g h : Nat) (w : World) (K : KT) : f5_s2 i l c d e j k f g h w K = (∃ n : Int, (∀ wq, Ext w wq → (Builtin.len_ #[22] 3 [(Value.slice c d e)].toArray).run P wq = .ok (Value.int .i64 n) wq) ∧ BIf (decide ((n : Int) > 200)) (f5_s3 true i false k c d e j f g h w K) (CallL P 14 [(Value.slice c d e)] w (fun q m => ∃ o : Int, q = (Value.int .i64 o) ∧ BIf (decide ((o : Int) > 2000)) (f5_s3 true i false k c d e j f g h m K) (∃ p : Int, (∀ wq, Ext m wq → (Builtin.len_ #[39] 3 [(Value.slice f g h)].toArray).run P wq = .ok (Value.int .i64 p) wq) ∧ f5_s3 (decide ((p : Int) > 20)) i false k c d e j f g h m K)))) := Eq.trans (b := CS P (codeAt c5 [1, 1]) none [8] [8] (f5_kb K) (Env.mk 176 [(9, (Value.bool i)), (27, (Value.bool l)), (8, (Value.bool false)), (0, (Value.slice c d e)), (1, (Value.int .u32 j)), (2, (Value.int .u32 k)), (3, (Value.slice f g h))] []) w) (by kernel_rfl) (Eq.trans (b := (CS P (codeAt c5 [1, 1, 0]) none [8, 2, 9, 0, 1, 3] [8] (f5_k2 K) (Env.mk 176 [(9, (Value.bool i)), (27, (Value.bool l)), (8, (Value.bool false)), (0, (Value.slice c d e)), (1, (Value.int .u32 j)), (2, (Value.int .u32 k)), (3, (Value.slice f g h))] []) w)) (CS_seq' (a := (codeAt c5 [1, 1, 0])) (b := (codeAt c5 [1, 1, 1])) (by kernel_rfl) (by kernel_rfl)) (Eq.trans (b := (CS P (codeAt c5 [1, 1, 0, 0]) none [40, 9, 8, 2, 0, 1, 3] [8] (f5_k3 K) (Env.mk 176 [(9, (Value.bool i)), (27, (Value.bool l)), (8, (Value.bool false)), (0, (Value.slice c d e)), (1, (Value.int .u32 j)), (2, (Value.int .u32 k)), (3, (Value.slice f g h))] []) w)) (CS_seq' (a := (codeAt c5 [1, 1, 0, 0])) (b := (codeAt c5 [1, 1, 0, 1])) (by kernel_rfl) (by kernel_rfl)) (by kernel_rfl)))
theorem f5_s1_eq (c : Option Addr) (d e : Nat) (f g : Int) (h : Option Addr) (i j : Nat) (w : World) (K : KT) : f5_s1 c d e f g h i j w K = (CallL P 13 [] w (fun l m => ∃ k : Bool, l = (Value.bool k) ∧ f5_s2 k k c d e f g h i j m K)) := Eq.trans (b := CS P (codeAt c5 [1]) none [8] [8] (f5_kb K) (Env.mk 176 [(8, (Value.bool false)), (0, (Value.slice c d e)), (1, (Value.int .u32 f)), (2, (Value.int .u32 g)), (3, (Value.slice h i j))] []) w) (by kernel_rfl) (Eq.trans (b := (CS P (codeAt c5 [1, 0]) none [9, 8, 2, 0, 1, 3] [8] (f5_k1 K) (Env.mk 176 [(8, (Value.bool false)), (0, (Value.slice c d e)), (1, (Value.int .u32 f)), (2, (Value.int .u32 g)), (3, (Value.slice h i j))] []) w)) (CS_seq' (a := (codeAt c5 [1, 0])) (b := (codeAt c5 [1, 1])) (by kernel_rfl) (by kernel_rfl)) (by kernel_rfl))
theorem f5_s0_eq (c : Option Addr) (d e : Nat) (f g : Int) (h : Option Addr) (i j : Nat) (w : World) (K : KT) : f5_s0 c d e f g h i j w K = (f5_s1 c d e f g h i j w K) := Eq.trans (b := CS P (codeAt c5 []) none [8] [8] (f5_kb K) (Env.mk 176 [(0, (Value.slice c d e)), (1, (Value.int .u32 f)), (2, (Value.int .u32 g)), (3, (Value.slice h i j))] []) w) (by kernel_rfl) (Eq.trans (b := (CS P (codeAt c5 [0]) none [8, 2, 0, 1, 3] [8] (f5_k0 K) (Env.mk 176 [(0, (Value.slice c d e)), (1, (Value.int .u32 f)), (2, (Value.int .u32 g)), (3, (Value.slice h i j))] []) w)) (CS_seq' (a := (codeAt c5 [0])) (b := (codeAt c5 [1])) (by kernel_rfl) (by kernel_rfl)) (by kernel_rfl))
theorem f5_eq (a : Option Addr) (b c : Nat) (d e : Int) (f : Option Addr) (g h : Nat) (w : World) (K : KT) : f5 a b c d e f g h w K = (f5_s0 a b c d e f g h w K) := by kernel_rfl
theorem c5_eq : Go.Proofs.Try.f5.body = some c5 := by kernel_rfl
theorem f5_un (a : Option Addr) (b c : Nat) (d e : Int) (f : Option Addr) (g h : Nat) (w : World) (K : KT) : f5 a b c d e f g h w K = CS P c5 none (resT Go.Proofs.Try.f5.results.toList) (resT Go.Proofs.Try.f5.results.toList) (bodyK P Go.Proofs.Try.f5.results.toList K) (env0 Go.Proofs.Try.f5.ntmps [(Value.slice a b c), (Value.int .u32 d), (Value.int .u32 e), (Value.slice f g h)]) w := by kernel_rfl
theorem f5_ok (a : Option Addr) (b c : Nat) (d e : Int) (f : Option Addr) (g i : Nat) (w : World) (K : KT) (h : f5 a b c d e f g i w K) : CallL P 5 [(Value.slice a b c), (Value.int .u32 d), (Value.int .u32 e), (Value.slice f g i)] w K := calls_of_CS Go.Proofs.Try.func5 c5_eq (Eq.mp (f5_un a b c d e f g i w K) h)
/-! 19 candling.candlinglaw30.moved -/
noncomputable def c19 : Code := match Go.Proofs.Try.f19.body with
  | some c => c
  | none => .skip
noncomputable def rs19 : List ResultVar := Go.Proofs.Try.f19.results.toList
abbrev f19_kb (K : KT) : Exit → YT := bodyK P rs19 K
def f19 (a : Array Value) (b c : Int) (d : Array Value) (w : World) (K : KT) : Prop := CS P c19 none [8] [8] (f19_kb K) (env0 54 [(Value.agg a), (Value.int .u32 b), (Value.int .u32 c), (Value.agg d)]) w
abbrev f19_k0 (K : KT) : Exit → YT := kseq P (codeAt c19 [0]) (codeAt c19 [1]) none [8] [8] (f19_kb K)
abbrev f19_k1 (K : KT) : Exit → YT := kseq P (codeAt c19 [1, 0]) (codeAt c19 [1, 1]) none [8] [8] (f19_kb K)
abbrev f19_k2 (K : KT) : Exit → YT := kseq P (codeAt c19 [1, 0, 0]) (codeAt c19 [1, 0, 1]) none [8, 4, 7, 2, 1] [8] (f19_k1 K)
def f19_s0 (a : Bool) (b c d : Addr) (f g : Int) (w : World) (K : KT) : Prop := Join (fun e w => CS P (codeAt c19 [1, 0, 1]) none [8, 4, 7, 2, 1] [8] (f19_k1 K) e w) (Env.mk 54 [(16, (Value.bool a)), (8, (Value.pointer (some b))), (4, (Value.pointer (some c))), (7, (Value.pointer (some d))), (2, (Value.int .u32 f)), (1, (Value.int .u32 g))] []) w
def f19_s1 (a b c : Addr) (d f : Int) (w : World) (K : KT) : Prop := Join (fun e w => CS P (codeAt c19 [1, 1]) none [8] [8] (f19_kb K) e w) (Env.mk 54 [(8, (Value.pointer (some a))), (4, (Value.pointer (some b))), (7, (Value.pointer (some c))), (2, (Value.int .u32 d)), (1, (Value.int .u32 f))] []) w
abbrev f19_k3 (K : KT) : Exit → YT := kseq P (codeAt c19 [1, 1, 0]) (codeAt c19 [1, 1, 1]) none [8] [8] (f19_kb K)
abbrev f19_k4 (K : KT) : Exit → YT := kseq P (codeAt c19 [1, 1, 0, 0]) (codeAt c19 [1, 1, 0, 1]) none [8, 4] [8] (f19_k3 K)
abbrev f19_k5 (K : KT) : Exit → YT := kblock 0 (f19_k3 K)
abbrev f19_k6 (K : KT) : Exit → YT := kseq P (codeAt c19 [1, 1, 0, 1, 0, 0]) (codeAt c19 [1, 1, 0, 1, 0, 1]) none [8, 4] [8, 4] (f19_k5 K)
abbrev f19_k7 (K : KT) : Exit → YT := kseq P (codeAt c19 [1, 1, 0, 1, 0, 0, 0]) (codeAt c19 [1, 1, 0, 1, 0, 0, 1]) none [29, 8, 4, 7, 2, 1, 23] [8, 4] (f19_k6 K)
def f19_s2 (a : Bool) (b c d : Addr) (f g h : Int) (w : World) (K : KT) : Prop := Join (fun e w => CS P (codeAt c19 [1, 1, 0, 1, 0, 1]) none [8, 4] [8, 4] (f19_k5 K) e w) (Env.mk 54 [(29, (Value.bool a)), (8, (Value.pointer (some b))), (4, (Value.pointer (some c))), (7, (Value.pointer (some d))), (2, (Value.int .u32 f)), (1, (Value.int .u32 g)), (23, (Value.int .i64 h))] []) w
abbrev f19_k8 (K : KT) : Exit → YT := kseq P (codeAt c19 [1, 1, 0, 1, 0, 1, 0, 0]) (codeAt c19 [1, 1, 0, 1, 0, 1, 0, 1]) none [8, 4] [8, 4] (f19_k5 K)
def f19_s3 (a : Bool) (b c d : Addr) (w : World) (K : KT) : Prop := Join (fun e w => CS P (codeAt c19 [1, 1, 0, 1, 0, 1, 0, 1]) none [8, 4] [8, 4] (f19_k5 K) e w) (Env.mk 54 [(39, (Value.bool a)), (8, (Value.pointer (some b))), (4, (Value.pointer (some c))), (7, (Value.pointer (some d)))] []) w
def f19_s4 (a b : Addr) (w : World) (K : KT) : Prop := Join (fun e w => CS P (codeAt c19 [1, 1, 1]) none [8] [8] (f19_kb K) e w) (Env.mk 54 [(8, (Value.pointer (some a))), (4, (Value.pointer (some b)))] []) w
abbrev f19_k9 (K : KT) : Exit → YT := kseq P (codeAt c19 [1, 1, 1, 0]) (codeAt c19 [1, 1, 1, 1]) none [8] [8] (f19_kb K)
theorem f19_s4_eq (a b : Addr) (w : World) (K : KT) : f19_s4 a b w K = (LdA 6 b w (fun d => StA 6 a d w (fun c => LdA 6 a c (fun e => K (Value.agg e) c)))) := by kernel_rfl
theorem f19_s3_eq (d : Bool) (c a e : Addr) (w : World) (K : KT) : f19_s3 d c a e w K = (BIf d (∃ b : Int, w.cell? (a.add 5) = some (Value.int .i64 b) ∧ 0 ≤ (b : Int) ∧ (b : Int) < (8 : Nat) ∧ ∃ f : Int, w.cell? (e.add (Int.toNat b * 1)) = some (Value.int .i64 f) ∧ St1 (a.add 5) (Value.int .i64 f) w (fun g => f19_s4 c a g K)) (f19_s4 c a w K)) := by kernel_rfl
abbrev f19_k10 (K : KT) : Exit → YT := kseq P (codeAt c19 [1, 1, 0, 1, 0, 1, 1, 0]) (codeAt c19 [1, 1, 0, 1, 0, 1, 1, 1]) none [8, 4] [8, 4] (f19_k5 K)
abbrev f19_k11 (K : KT) : Exit → YT := kseq P (codeAt c19 [1, 1, 0, 1, 0, 1, 1, 0, 0]) (codeAt c19 [1, 1, 0, 1, 0, 1, 1, 0, 1]) none [45, 8, 4, 2, 1] [8, 4] (f19_k10 K)
def f19_s5 (a : Bool) (b c : Addr) (d f : Int) (w : World) (K : KT) : Prop := Join (fun e w => CS P (codeAt c19 [1, 1, 0, 1, 0, 1, 1, 1]) none [8, 4] [8, 4] (f19_k5 K) e w) (Env.mk 54 [(45, (Value.bool a)), (8, (Value.pointer (some b))), (4, (Value.pointer (some c))), (2, (Value.int .u32 d)), (1, (Value.int .u32 f))] []) w
theorem f19_s5_eq (c : Bool) (b a : Addr) (d e : Int) (w : World) (K : KT) : f19_s5 c b a d e w K = (BIf c (∃ f : Int, w.cell? (a.add 3) = some (Value.int .u32 f) ∧ St1 (a.add 3) (Value.int .u32 (IntKind.wrap .u32 ((f : Int) + d))) w (fun h => f19_s4 b a h K)) (∃ g : Int, w.cell? (a.add 3) = some (Value.int .u32 g) ∧ St1 (a.add 3) (Value.int .u32 (IntKind.wrap .u32 ((g : Int) + e))) w (fun i => f19_s4 b a i K))) := by kernel_rfl
theorem f19_s2_eq (g : Bool) (b a c : Addr) (d e f : Int) (w : World) (K : KT) : f19_s2 g b a c d e f w K = (BIf g (∃ h : Int, w.cell? (a.add 5) = some (Value.int .i64 h) ∧ BIf (decide ((h : Int) ≥ 0)) (∃ i : Int, w.cell? (a.add 5) = some (Value.int .i64 i) ∧ f19_s3 (decide ((i : Int) < 8)) b a c w K) (f19_s3 false b a c w K)) (BIf ((f : Int) == 14) (f19_s5 true b a d e w K) (f19_s5 ((f : Int) == 15) b a d e w K))) := by kernel_rfl
theorem f19_s1_eq (c b d : Addr) (e f : Int) (w : World) (K : KT) : f19_s1 c b d e f w K = (∃ a : Int, w.cell? b = some (Value.int .i64 a) ∧ BIf ((a : Int) == 11) (f19_s2 true c b d e f a w K) (f19_s2 ((a : Int) == 13) c b d e f a w K)) := by kernel_rfl
theorem f19_s0_eq (g : Bool) (d a b : Addr) (e f : Int) (w : World) (K : KT) : f19_s0 g d a b e f w K = (BIf g (∃ c : Int, w.cell? (a.add 1) = some (Value.int .i64 c) ∧ 0 ≤ (c : Int) ∧ (c : Int) < (8 : Nat) ∧ ∃ h : Int, w.cell? (b.add (Int.toNat c * 1)) = some (Value.int .i64 h) ∧ St1 (a.add 1) (Value.int .i64 h) w (fun i => f19_s1 d a b e f i K)) (f19_s1 d a b e f w K)) := by kernel_rfl
theorem f19_eq (e : Array Value) (c d : Int) (f : Array Value) (w : World) (K : KT) : f19 e c d f w K = (NewC e 35 w (fun a k => NewC f 40 k (fun g l => NewC (zcells P 35) 35 l (fun h b => ∃ i : Int, b.cell? ((Addr.mk a 0 none).add 1) = some (Value.int .i64 i) ∧ BIf (decide ((i : Int) ≥ 0)) (∃ j : Int, b.cell? ((Addr.mk a 0 none).add 1) = some (Value.int .i64 j) ∧ f19_s0 (decide ((j : Int) < 8)) (Addr.mk h 0 none) (Addr.mk a 0 none) (Addr.mk g 0 none) d c b K) (f19_s0 false (Addr.mk h 0 none) (Addr.mk a 0 none) (Addr.mk g 0 none) d c b K))))) := by kernel_rfl
theorem c19_eq : Go.Proofs.Try.f19.body = some c19 := by kernel_rfl
theorem f19_un (a : Array Value) (b c : Int) (d : Array Value) (w : World) (K : KT) : f19 a b c d w K = CS P c19 none (resT Go.Proofs.Try.f19.results.toList) (resT Go.Proofs.Try.f19.results.toList) (bodyK P Go.Proofs.Try.f19.results.toList K) (env0 Go.Proofs.Try.f19.ntmps [(Value.agg a), (Value.int .u32 b), (Value.int .u32 c), (Value.agg d)]) w := by kernel_rfl
theorem f19_ok (a : Array Value) (b c : Int) (d : Array Value) (w : World) (K : KT) (h : f19 a b c d w K) : CallL P 19 [(Value.agg a), (Value.int .u32 b), (Value.int .u32 c), (Value.agg d)] w K := calls_of_CS Go.Proofs.Try.func19 c19_eq (Eq.mp (f19_un a b c d w K) h)
/-! 22 candling.candlinglaw30.RaceNames$1 -/
noncomputable def c22 : Code := match Go.Proofs.Try.f22.body with
  | some c => c
  | none => .skip
noncomputable def rs22 : List ResultVar := Go.Proofs.Try.f22.results.toList
abbrev f22_kb (K : KT) : Exit → YT := bodyK P rs22 K
def f22 (a b : Array Value) (w : World) (K : KT) : Prop := CS P c22 none [4] [4] (f22_kb K) (env0 19 [(Value.agg a), (Value.agg b)]) w
abbrev f22_k0 (K : KT) : Exit → YT := kseq P (codeAt c22 [0]) (codeAt c22 [1]) none [4] [4] (f22_kb K)
abbrev f22_k1 (K : KT) : Exit → YT := kseq P (codeAt c22 [1, 0]) (codeAt c22 [1, 1]) none [4] [4] (f22_kb K)
def f22_s0 (a : Int) (w : World) (K : KT) : Prop := Join (fun e w => CS P (codeAt c22 [1, 1]) none [4] [4] (f22_kb K) e w) (Env.mk 19 [(4, (Value.int .i64 a))] []) w
theorem f22_s0_eq (a : Int) (w : World) (K : KT) : f22_s0 a w K = (K (Value.int .i64 a) w) := by kernel_rfl
theorem f22_eq (s t : Array Value) (w : World) (K : KT) : f22 s t w K = (NewC s 47 w (fun d j0 => NewC t 47 j0 (fun e a => ∃ b : Int, a.drew.cell? ((Addr.mk d 0 none).add 6) = some (Value.int .i64 b) ∧ ∃ c : Int, a.drew.cell? ((Addr.mk e 0 none).add 6) = some (Value.int .i64 c) ∧ (CallL P 24 [(Value.int .i64 b), (Value.int .i64 c)] a.drew (fun l0 f => ∃ g : Int, l0 = (Value.int .i64 g) ∧ ∃ u : Int, f.cell? (Addr.mk d 0 none) = some (Value.int .u32 u) ∧ ∃ x : Int, f.cell? (Addr.mk e 0 none) = some (Value.int .u32 x) ∧ CallL P 25 [(Value.int .u32 u), (Value.int .u32 x)] f (fun m0 n0 => ∃ h : Int, m0 = (Value.int .i64 h) ∧ sizesAre 1 [(Value.int .i64 g), (Value.int .i64 h)] ∧ NewC (([(Value.int .i64 g), (Value.int .i64 h)].map fun (v : Value) => v.cells.toList).flatten.toArray) 3 n0 (fun o0 p0 => CallL P 23 [(Value.slice (some (Addr.mk o0 0 none)) 2 2)] p0 (fun q0 r0 => ∃ y : Int, q0 = (Value.int .i64 y) ∧ f22_s0 y r0 K))))) ∧ (∃ i : Int, a.drew.cell? (Addr.mk d 0 none) = some (Value.int .u32 i) ∧ (CallL P 24 [(Value.int .i64 b), (Value.int .i64 c)] a.drew (fun s0 z => ∃ j : Int, s0 = (Value.int .i64 j) ∧ ∃ a0 : Int, z.cell? (Addr.mk e 0 none) = some (Value.int .u32 a0) ∧ CallL P 25 [(Value.int .u32 i), (Value.int .u32 a0)] z (fun t0 u0 => ∃ k : Int, t0 = (Value.int .i64 k) ∧ sizesAre 1 [(Value.int .i64 j), (Value.int .i64 k)] ∧ NewC (([(Value.int .i64 j), (Value.int .i64 k)].map fun (v : Value) => v.cells.toList).flatten.toArray) 3 u0 (fun v0 x0 => CallL P 23 [(Value.slice (some (Addr.mk v0 0 none)) 2 2)] x0 (fun y0 z0 => ∃ b0 : Int, y0 = (Value.int .i64 b0) ∧ f22_s0 b0 z0 K))))) ∧ (∃ c0 : Int, a.drew.cell? (Addr.mk e 0 none) = some (Value.int .u32 c0) ∧ CallL P 24 [(Value.int .i64 b), (Value.int .i64 c)] a.drew (fun A0 B0 => ∃ l : Int, A0 = (Value.int .i64 l) ∧ CallL P 25 [(Value.int .u32 i), (Value.int .u32 c0)] B0 (fun C0 D0 => ∃ m : Int, C0 = (Value.int .i64 m) ∧ sizesAre 1 [(Value.int .i64 l), (Value.int .i64 m)] ∧ NewC (([(Value.int .i64 l), (Value.int .i64 m)].map fun (v : Value) => v.cells.toList).flatten.toArray) 3 D0 (fun E0 F0 => CallL P 23 [(Value.slice (some (Addr.mk E0 0 none)) 2 2)] F0 (fun G0 H0 => ∃ d0 : Int, G0 = (Value.int .i64 d0) ∧ f22_s0 d0 H0 K)))))) ∧ (∃ n : Int, a.drew.cell? (Addr.mk e 0 none) = some (Value.int .u32 n) ∧ (CallL P 24 [(Value.int .i64 b), (Value.int .i64 c)] a.drew (fun I0 e0 => ∃ o : Int, I0 = (Value.int .i64 o) ∧ ∃ f0 : Int, e0.cell? (Addr.mk d 0 none) = some (Value.int .u32 f0) ∧ CallL P 25 [(Value.int .u32 f0), (Value.int .u32 n)] e0 (fun J0 L0 => ∃ p : Int, J0 = (Value.int .i64 p) ∧ sizesAre 1 [(Value.int .i64 o), (Value.int .i64 p)] ∧ NewC (([(Value.int .i64 o), (Value.int .i64 p)].map fun (v : Value) => v.cells.toList).flatten.toArray) 3 L0 (fun M0 N0 => CallL P 23 [(Value.slice (some (Addr.mk M0 0 none)) 2 2)] N0 (fun O0 Q0 => ∃ g0 : Int, O0 = (Value.int .i64 g0) ∧ f22_s0 g0 Q0 K))))) ∧ (∃ h0 : Int, a.drew.cell? (Addr.mk d 0 none) = some (Value.int .u32 h0) ∧ CallL P 24 [(Value.int .i64 b), (Value.int .i64 c)] a.drew (fun R0 S0 => ∃ q : Int, R0 = (Value.int .i64 q) ∧ CallL P 25 [(Value.int .u32 h0), (Value.int .u32 n)] S0 (fun T0 U0 => ∃ r : Int, T0 = (Value.int .i64 r) ∧ sizesAre 1 [(Value.int .i64 q), (Value.int .i64 r)] ∧ NewC (([(Value.int .i64 q), (Value.int .i64 r)].map fun (v : Value) => v.cells.toList).flatten.toArray) 3 U0 (fun V0 W0 => CallL P 23 [(Value.slice (some (Addr.mk V0 0 none)) 2 2)] W0 (fun X0 Y0 => ∃ i0 : Int, X0 = (Value.int .i64 i0) ∧ f22_s0 i0 Y0 K))))))))) := by kernel_rfl
theorem c22_eq : Go.Proofs.Try.f22.body = some c22 := by kernel_rfl
theorem f22_un (a b : Array Value) (w : World) (K : KT) : f22 a b w K = CS P c22 none (resT Go.Proofs.Try.f22.results.toList) (resT Go.Proofs.Try.f22.results.toList) (bodyK P Go.Proofs.Try.f22.results.toList K) (env0 Go.Proofs.Try.f22.ntmps [(Value.agg a), (Value.agg b)]) w := by kernel_rfl
theorem f22_ok (a b : Array Value) (w : World) (K : KT) (h : f22 a b w K) : CallL P 22 [(Value.agg a), (Value.agg b)] w K := calls_of_CS Go.Proofs.Try.func22 c22_eq (Eq.mp (f22_un a b w K) h)
end Go.Fx.Try
namespace Go.Fx.Try
set_option maxRecDepth 100000
open Go Go.Fx
/-! 20 slices.Clone[[]candling.api.Race,candling.api.Race] -/
noncomputable def c20 : Code := match Go.Proofs.Try.f20.body with
  | some c => c
  | none => .skip
noncomputable def rs20 : List ResultVar := Go.Proofs.Try.f20.results.toList
abbrev f20_kb (K : KT) : Exit → YT := bodyK P rs20 K
def f20 (a : Option Addr) (b c : Nat) (w : World) (K : KT) : Prop := CS P c20 none [2] [2] (f20_kb K) (env0 8 [(Value.slice a b c)]) w
abbrev f20_k0 (K : KT) : Exit → YT := kseq P (codeAt c20 [0]) (codeAt c20 [1]) none [2] [2] (f20_kb K)
abbrev f20_k1 (K : KT) : Exit → YT := kseq P (codeAt c20 [1, 0]) (codeAt c20 [1, 1]) none [2] [2] (f20_kb K)
abbrev f20_k2 (K : KT) : Exit → YT := kseq P (codeAt c20 [1, 0, 0]) (codeAt c20 [1, 0, 1]) none [0] [2] (f20_k1 K)
abbrev f20_k3 (K : KT) : Exit → YT := kseq P (codeAt c20 [1, 0, 1, 0, 0]) (codeAt c20 [1, 0, 1, 0, 1]) none [0] [2] (f20_k1 K)
def f20_s0 (a : Option Addr) (b c : Nat) (w : World) (K : KT) : Prop := Join (fun e w => CS P (codeAt c20 [1, 1]) none [2] [2] (f20_kb K) e w) (Env.mk 8 [(0, (Value.slice a b c))] []) w
abbrev f20_k4 (K : KT) : Exit → YT := kseq P (codeAt c20 [1, 1, 0]) (codeAt c20 [1, 1, 1]) none [2] [2] (f20_kb K)
theorem f20_s0_eq (a : Option Addr) (b c : Nat) (w : World) (K : KT) : f20_s0 a b c w K = (∃ (d : Option Addr) (e f : Nat), ∃ g : World, (Instr.buildSlice 25 0 ([] : List (Nat × Value)).toArray).run P w = .ok (Value.slice d e f) g ∧ ∃ (h : Option Addr) (i j : Nat), ∃ k : World, (Builtin.append_ #[25, 25] 25 [(Value.slice d e f), (Value.slice a b c)].toArray).run P g = .ok (Value.slice h i j) k ∧ K (Value.slice h i j) k) := by kernel_rfl
theorem f20_eq (a : Option Addr) (b c : Nat) (w : World) (K : KT) : f20 a b c w K = (BIf a.isNone (K (Value.slice none 0 0) w) (f20_s0 a b c w K)) := by kernel_rfl
theorem c20_eq : Go.Proofs.Try.f20.body = some c20 := by kernel_rfl
theorem f20_un (a : Option Addr) (b c : Nat) (w : World) (K : KT) : f20 a b c w K = CS P c20 none (resT Go.Proofs.Try.f20.results.toList) (resT Go.Proofs.Try.f20.results.toList) (bodyK P Go.Proofs.Try.f20.results.toList K) (env0 Go.Proofs.Try.f20.ntmps [(Value.slice a b c)]) w := by kernel_rfl
theorem f20_ok (a : Option Addr) (b c : Nat) (w : World) (K : KT) (h : f20 a b c w K) : CallL P 20 [(Value.slice a b c)] w K := calls_of_CS Go.Proofs.Try.func20 c20_eq (Eq.mp (f20_un a b c w K) h)
end Go.Fx.Try
namespace Go.Fx.Try
open Go Go.Fx Go.Fx.Mo
open Go.Proofs
variable {w0 w : World} {H : List (Nat × Obj)} {K : Value → World → Prop}
set_option maxRecDepth 20000
theorem racesCs_len (l : List Mo.Race) : (racesCs l).length = l.length * 11 := by
  induction l with
  | nil => rfl
  | cons x r ih =>
    have e : racesCs (x :: r) = Racecs x ++ racesCs r := rfl
    rw [e, List.length_append, ih, Racecs_len, List.length_cons]
    omega
theorem bs25 (w : World) : (Instr.buildSlice 25 0 ([] : List (Nat × Value)).toArray).run P w = .ok (.slice (some ⟨w.heap.size, 0, none⟩) 0 0) (w.alloc (.cells #[] 47 (0, 0))) := by kernel_rfl
/-- A copy of races. -/
theorem clone25_ok {out : List Mo.Race} {ov : Value} {L : List (Nat × Obj)} (h : St w0 w (L ++ H)) (hS : SlO 11 47 ov out.length (racesCs out) L) (hN : New w0 L) (hl : out.length < 2000000000)
    (hK : ∀ a c L' w', SlO 11 47 (.slice a out.length c) out.length (racesCs out) L' → New w0 L' → St w0 w' (L' ++ H) → K (.slice a out.length c) w') : CallL P 20 [ov] w K := by
  obtain ⟨sa, sc, hov⟩ := hS.form
  rw [hov]
  refine f20_ok _ _ _ _ _ ?_
  rw [f20_eq, BIf_iff]
  constructor
  · intro hn
    have hn : sa = none := by simpa using hn
    subst hn
    rcases hS.2 with ⟨h1, h2, h3⟩ | ⟨g, cap, cur, hg, _⟩
    · have hS' := hS
      rw [h1] at hS'
      have e0 : Value.slice none 0 0 = Value.slice none out.length 0 := by rw [h2]
      rw [e0] at hS' ⊢
      exact hK none 0 L w hS' hN h
    · rw [hov] at hg; simp at hg
  · intro _
    rw [f20_s0_eq, ← hov]
    refine ⟨_, _, _, _, bs25 w, ?_⟩
    have h3 := h.alloc (.cells #[] 47 (0, 0))
    have hn3 := h.le
    generalize w.heap.size = m at h3 hn3
    have h3 : St w0 (w.alloc (.cells #[] 47 (0, 0))) ([] ++ ([(m, Cs [] 47)] ++ (L ++ H))) := h3
    have hS0 : SlO 11 47 (.slice (some ⟨m, 0, none⟩) 0 0) ([] : List Mo.Race).length (racesCs []) [(m, Cs [] 47)] := ⟨rfl, .inr ⟨m, 0, [], rfl, rfl, by simp, by simp [maxLen], rfl, rfl⟩⟩
    obtain ⟨v', w', L', hr, hS', hs, hN'⟩ := St.appendN (P := P) 25 25 47 Try.t47 (.agg #[.int .u32 0, I64 0, I64 0, .int .u32 0, .bool false, .bool false, I64 0, I64 0, .int .u32 0, .bool false, .bool false]) 11 56 Try.underlying25 info47 rfl rfl rfl rfl (by omega)
      (A := []) (L := [(m, Cs [] 47)]) (H := L ++ H) (M := L) h3 hS0 (by simpa [New] using hn3) hS (fun y hy => h3.has _ _ (by simp [hy])) (racesCs_one _) (by simp [maxLen]; omega) (by simp; omega)
    have hS' : SlO 11 47 v' out.length (racesCs out) L' := by simpa [racesCs] using hS'
    have h' : St w0 w' (L' ++ H) := by
      refine St.sub (L := L) (hs.perm (perm_by fun c => ?_)) hN
      simp only [List.map_append, List.sum_append, List.nil_append]
      omega
    obtain ⟨a, c, hv⟩ := hS'.form
    subst hv
    exact ⟨a, _, c, w', hr, hK a c L' w' hS' hN' h'⟩
end Go.Fx.Try
namespace Go.Fx.Mo
section assoc
variable {K V : Type} [DecidableEq K]
theorem look_mem {m : List (K × V)} {k : K} {v : V} (h : look m k = some v) : (k, v) ∈ m := by
  unfold look at h
  cases hf : m.find? fun p => p.1 == k with
  | none => rw [hf] at h; cases h
  | some p =>
    rw [hf] at h
    simp at h
    have h1 := List.find?_some hf
    have h2 := List.mem_of_find?_eq_some hf
    simp at h1
    subst h1; subst h
    exact h2
theorem put_mem {m : List (K × V)} {k : K} {v : V} {q : K × V} (h : q ∈ put m k v) : q ∈ m ∨ q.2 = v := by
  unfold put at h
  split at h
  · obtain ⟨p, hp, rfl⟩ := List.mem_map.1 h
    split
    · exact .inr rfl
    · exact .inl hp
  · rcases List.mem_append.1 h with h | h
    · exact .inl h
    · simp at h; subst h; exact .inr rfl
theorem put_keys (m : List (K × V)) (k : K) (v : V) : (put m k v).map (·.1) = if (look m k).isSome then m.map (·.1) else m.map (·.1) ++ [k] := by
  unfold put
  cases h : look m k with
  | none => simp
  | some u =>
    simp only [Option.isSome_some, if_true, List.map_map]
    apply List.map_congr_left
    intro p _
    simp only [Function.comp]
    split <;> rfl
theorem put_nodup {m : List (K × V)} (h : (m.map (·.1)).Nodup) (k : K) (v : V) : ((put m k v).map (·.1)).Nodup := by
  rw [put_keys]
  split
  · exact h
  · rename_i hn
    have hn : look m k = none := by simpa using hn
    refine List.nodup_append.2 ⟨h, by simp, fun a ha b hb => ?_⟩
    simp at hb
    subst hb
    rintro rfl
    obtain ⟨p, hp, he⟩ := List.mem_map.1 ha
    exact look_none.1 hn p hp he
theorem putAll_look : ∀ (u m : List (K × V)), (u.map (·.1)).Nodup → ∀ k, look (putAll m u) k = (look u k).or (look m k)
  | [], m, _, k => by simp [putAll, look]
  | p :: r, m, h, k => by
    simp only [List.map_cons, List.nodup_cons] at h
    rw [putAll, putAll_look r _ h.2 k, put_look]
    have e : look (p :: r) k = if p.1 = k then some p.2 else look r k := by
      unfold look
      rw [List.find?_cons]
      by_cases hk : p.1 = k
      · simp [hk]
      · have : (p.1 == k) = false := by simpa using hk
        rw [this, if_neg hk]
    rw [e]
    by_cases hk : k = p.1
    · subst hk
      have : look r p.1 = none := look_none.2 fun q hq he => h.1 (List.mem_map.2 ⟨q, hq, he⟩)
      simp [this]
    · rw [if_neg hk, if_neg (Ne.symm hk)]
theorem putAll_mem : ∀ (u m : List (K × V)) {q : K × V}, q ∈ putAll m u → q ∈ m ∨ ∃ p ∈ u, q.2 = p.2
  | [], m, q, h => .inl h
  | p :: r, m, q, h => by
    rcases putAll_mem r _ h with h | ⟨p', hp, he⟩
    · rcases put_mem h with h | h
      · exact .inl h
      · exact .inr ⟨p, by simp, h⟩
    · exact .inr ⟨p', by simp [hp], he⟩
end assoc
/-- A clock of eight numbers up to B. -/
def CB (c : Clk) (B : Int) : Prop := c.length = 8 ∧ ∀ t, 0 ≤ at0 c t ∧ at0 c t ≤ B
theorem CB.mono {c : Clk} {B B' : Int} (h : CB c B) (hb : B ≤ B') : CB c B' := ⟨h.1, fun t => ⟨(h.2 t).1, by have := (h.2 t).2; omega⟩⟩
theorem zeroC_at (t : Int) : at0 zeroC t = 0 := by
  unfold at0 zeroC
  rw [List.getD_eq_getElem?_getD, List.getElem?_replicate]
  split <;> rfl
theorem CB.zero {B : Int} (h : 0 ≤ B) : CB zeroC B := ⟨rfl, fun t => by rw [zeroC_at]; omega⟩
theorem joinC_at {c d : Clk} (hc : c.length = 8) (hd : d.length = 8) (t : Int) : at0 (joinC c d) t = if at0 d t > at0 c t then at0 d t else at0 c t := by
  unfold at0 joinC
  simp only [List.getD_eq_getElem?_getD, List.getElem?_zipWith]
  by_cases h : t.toNat < 8
  · rw [List.getElem?_eq_getElem (by omega), List.getElem?_eq_getElem (by omega)]; rfl
  · rw [List.getElem?_eq_none (by omega), List.getElem?_eq_none (by omega)]; simp
theorem CB.join {c d : Clk} {B : Int} (hc : CB c B) (hd : CB d B) : CB (joinC c d) B := by
  refine ⟨by simp [joinC, hc.1, hd.1], fun t => ?_⟩
  rw [joinC_at hc.1 hd.1]
  have h1 := hc.2 t
  have h2 := hd.2 t
  split <;> omega
theorem join_l {c d : Clk} (hc : c.length = 8) (hd : d.length = 8) (t : Int) : at0 c t ≤ at0 (joinC c d) t := by rw [joinC_at hc hd]; split <;> omega
theorem join_r {c d : Clk} (hc : c.length = 8) (hd : d.length = 8) (t : Int) : at0 d t ≤ at0 (joinC c d) t := by rw [joinC_at hc hd]; split <;> omega
theorem set_at {c : Clk} {i : Nat} (hi : i < c.length) (x t : Int) : at0 (c.set i x) t = if t.toNat = i then x else at0 c t := by
  unfold at0
  simp only [List.getD_eq_getElem?_getD, List.getElem?_set]
  by_cases h : i = t.toNat
  · simp [h, h ▸ hi]
  · simp [h, Ne.symm h]
/-- The threads' clocks are up to B. -/
structure ThB (T : Th) (B : Int) : Prop where
  clocks : T.clocks.length = 8
  each : ∀ c ∈ T.clocks, CB c B
  objs : ∀ q ∈ T.objs, CB q.2 B
  pos : 0 ≤ B
theorem ThB.mono {T : Th} {B B' : Int} (h : ThB T B) (hb : B ≤ B') : ThB T B' := ⟨h.clocks, fun c hc => (h.each c hc).mono hb, fun q hq => (h.objs q hq).mono hb, by have := h.pos; omega⟩
theorem ThB.getC {T : Th} {B : Int} (h : ThB T B) (i : Int) : CB (getC T.clocks i) B := by
  unfold Mo.getC
  rw [List.getD_eq_getElem?_getD]
  cases hx : T.clocks[i.toNat]? with
  | none => exact CB.zero h.pos
  | some c => exact h.each c (List.mem_of_getElem? hx)
/-- How a plan that began as p0 has grown. -/
structure PM (T : Th) (e : Ev) (p0 p : Pl) (B : Int) : Prop where
  own : CB p.own B
  objs : ∀ q ∈ p.objs, CB q.2 B
  nd : (p.objs.map (·.1)).Nodup
  grow : ∀ t, at0 p0.own t ≤ at0 p.own t
  ob : ∀ k t, at0 (clockOf T p0 k) t ≤ at0 (clockOf T p k) t
  tk : 0 ≤ p.tk ∧ p.tk ≤ at0 p.own e.th
theorem clockOf_CB {T : Th} {p : Pl} {B : Int} (hT : ThB T B) (hp : ∀ q ∈ p.objs, CB q.2 B) (k : Ob) : CB (clockOf T p k) B := by
  unfold clockOf
  split
  · rename_i c hc; exact hp _ (look_mem hc)
  · cases hx : look T.objs k with
    | none => exact CB.zero hT.pos
    | some c => exact hT.objs _ (look_mem hx)
theorem PM.same {T : Th} {e : Ev} {p0 p q : Pl} {B : Int} (h : PM T e p0 p B) (h1 : q.own = p.own) (h2 : q.objs = p.objs) (h3 : q.tk = p.tk) : PM T e p0 q B :=
  ⟨by rw [h1]; exact h.own, by rw [h2]; exact h.objs, by rw [h2]; exact h.nd, by rw [h1]; exact h.grow, fun k t => by have := h.ob k t; unfold clockOf at this ⊢; rw [h2]; exact this, by rw [h1, h3]; exact h.tk⟩
theorem PM.mono {T : Th} {e : Ev} {p0 p : Pl} {B B' : Int} (h : PM T e p0 p B) (hb : B ≤ B') : PM T e p0 p B' :=
  ⟨h.own.mono hb, fun q hq => (h.objs q hq).mono hb, h.nd, h.grow, h.ob, h.tk⟩
theorem tick_own {e : Ev} {p : Pl} {o : Ord} {B : Int} (h : CB p.own B) (ht : 0 ≤ e.th ∧ e.th < 8) (hB : B < 4611686018427387904) (t : Int) : at0 (tick e p o).own t = if t.toNat = e.th.toNat then at0 p.own e.th + 1 else at0 p.own t := by
  have h1 := h.2 e.th
  show at0 (p.own.set e.th.toNat (w64 (at0 p.own e.th + 1))) t = _
  rw [set_at (by rw [h.1]; omega), w64_small (by omega) (by omega)]
theorem at0_nat {c : Clk} {t u : Int} (h : t.toNat = u.toNat) : at0 c t = at0 c u := by unfold at0; rw [h]
theorem tick_CB {e : Ev} {p : Pl} {o : Ord} {B : Int} (h : CB p.own B) (ht : 0 ≤ e.th ∧ e.th < 8) (hB : B < 4611686018427387904) : CB (tick e p o).own (B + 1) := by
  refine ⟨by show (p.own.set _ _).length = 8; rw [List.length_set, h.1], fun t => ?_⟩
  rw [tick_own h ht hB]
  have h1 := h.2 e.th
  have h2 := h.2 t
  split <;> omega
theorem tick_grow {e : Ev} {p : Pl} {o : Ord} {B : Int} (h : CB p.own B) (ht : 0 ≤ e.th ∧ e.th < 8) (hB : B < 4611686018427387904) (t : Int) : at0 p.own t ≤ at0 (tick e p o).own t := by
  rw [tick_own h ht hB]
  split
  · rename_i he; rw [at0_nat he]; omega
  · omega
theorem PM.tick {T : Th} {e : Ev} {p0 p : Pl} {B : Int} (h : PM T e p0 p B) (ht : 0 ≤ e.th ∧ e.th < 8) (hB : B < 4611686018427387904) (o : Ord) : PM T e p0 (tick e p o) (B + 1) := by
  refine ⟨tick_CB h.own ht hB, fun q hq => (h.objs q hq).mono (by omega), h.nd, fun t => Int.le_trans (h.grow t) (tick_grow h.own ht hB t), h.ob, ?_⟩
  have h1 := h.own.2 e.th
  have h2 := tick_own (o := o) h.own ht hB e.th
  rw [if_pos rfl] at h2
  rw [h2]
  show 0 ≤ (if p.tk = 0 then at0 (Mo.tick e p o).own e.th else p.tk) ∧ (if p.tk = 0 then at0 (Mo.tick e p o).own e.th else p.tk) ≤ _
  rw [h2]
  have := h.tk
  split <;> omega
theorem number_objs (T : Th) (p : Pl) (x : Ob) : (number T p x).2.own = p.own ∧ (number T p x).2.objs = p.objs ∧ (number T p x).2.tk = p.tk := by
  unfold number
  split
  · exact ⟨rfl, rfl, rfl⟩
  · split <;> exact ⟨rfl, rfl, rfl⟩
theorem PM.number {T : Th} {e : Ev} {p0 p : Pl} {B : Int} (h : PM T e p0 p B) (x : Ob) : PM T e p0 (number T p x).2 B :=
  have n := number_objs T p x
  h.same n.1 n.2.1 n.2.2
theorem PM.acquire {T : Th} {e : Ev} {p0 p : Pl} {B : Int} (hT : ThB T B) (h : PM T e p0 p B) (x : Ob) : PM T e p0 (acquire T p x) B :=
  have hc := clockOf_CB hT h.objs x
  ⟨h.own.join hc, h.objs, h.nd, fun t => Int.le_trans (h.grow t) (join_l h.own.1 hc.1 t), h.ob, h.tk.1, Int.le_trans h.tk.2 (join_l h.own.1 hc.1 e.th)⟩
theorem release_clock (T : Th) (p : Pl) (x k : Ob) : clockOf T (release T p x) k = if k = x then joinC (clockOf T p x) p.own else clockOf T p k := by
  show (match look (put p.objs x (joinC (clockOf T p x) p.own)) k with | some c => c | none => (look T.objs k).getD zeroC) = _
  rw [put_look]
  by_cases hk : k = x
  · simp [hk]
  · simp only [hk, if_false]; rfl
theorem PM.release {T : Th} {e : Ev} {p0 p : Pl} {B : Int} (hT : ThB T B) (h : PM T e p0 p B) (x : Ob) : PM T e p0 (release T p x) B := by
  have hc := clockOf_CB hT h.objs x
  refine ⟨h.own, fun q hq => ?_, put_nodup h.nd _ _, h.grow, fun k t => ?_, h.tk⟩
  · rcases put_mem hq with hq | hq
    · exact h.objs q hq
    · rw [hq]; exact hc.join h.own
  · rw [release_clock]
    split
    · rename_i hk; subst hk; exact Int.le_trans (h.ob k t) (join_l hc.1 h.own.1 t)
    · exact h.ob k t
theorem PM.atomicL {T : Th} {e : Ev} {p0 : Pl} (ht : 0 ≤ e.th ∧ e.th < 8) : ∀ (l : List Int) (x : Ob) (p : Pl) (B : Int), ThB T B → PM T e p0 p B → B + l.length < 4611686018427387904 → PM T e p0 (atomicL T e l x p) (B + l.length)
  | [], _, p, B, _, h, _ => h.mono (by simp)
  | a :: r, last, p, B, hT, h, hB => by
    simp only [List.length_cons] at hB ⊢
    unfold Mo.atomicL
    simp only
    split
    · exact (PM.atomicL ht r last p B hT h (by omega)).mono (by omega)
    · refine (PM.atomicL ht r _ _ (B + 1) (hT.mono (by omega)) ?_ (by omega)).mono (by omega)
      exact (((h.number _).acquire hT _).tick ht (by omega) _).release (hT.mono (by omega)) _
theorem refused_th {T : Th} {e : Ev} (h : refused T e = false) : 0 ≤ e.th ∧ e.th < 8 := by
  unfold refused at h
  simp only [Bool.or_eq_false_iff, decide_eq_false_iff_not] at h
  omega
theorem refused_at {T : Th} {e : Ev} (h : refused T e = false) (hk : e.kind = 4) : e.n ≤ 16 := by
  unfold refused at h
  have : (accesses e).2.1 = true := by unfold accesses; rw [if_neg (by omega), if_neg (by omega), if_pos hk]
  rw [this] at h
  simp only [Bool.or_eq_false_iff, Bool.true_and, decide_eq_false_iff_not] at h
  omega
theorem PM.act {T : Th} {e : Ev} {p0 p : Pl} {B : Int} (hr : refused T e = false) (hT : ThB T B) (h : PM T e p0 p B) (hB : B + 16 < 4611686018427387904) : PM T e p0 (act T e p) (B + 16) := by
  have ht := refused_th hr
  unfold Mo.act
  split
  · rename_i hk
    have := refused_at hr hk
    have hl : (bytes e.a e.n).length = e.n.toNat := by simp [bytes]
    exact (PM.atomicL ht _ _ _ B hT h (by rw [hl]; omega)).mono (by rw [hl]; omega)
  · split
    · unfold spawn
      split
      · exact PM.mono (B := B) (h.same rfl rfl rfl) (by omega)
      · exact PM.mono (B := B + 1) ((h.tick ht (by omega) ⟨5, 0, e.n, 0⟩).same rfl rfl rfl) (by omega)
    · split
      · unfold Mo.join
        split
        · exact PM.mono (B := B) (h.same rfl rfl rfl) (by omega)
        · have hc := hT.getC e.n
          have h' : PM T e p0 { p with own := joinC p.own (getC T.clocks e.n) } B :=
            ⟨h.own.join hc, h.objs, h.nd, fun t => Int.le_trans (h.grow t) (join_l h.own.1 hc.1 t), h.ob, h.tk.1, Int.le_trans h.tk.2 (join_l h.own.1 hc.1 e.th)⟩
          exact PM.mono (B := B + 1) ((h'.tick ht (by omega) ⟨6, 0, e.n, 0⟩).same rfl rfl rfl) (by omega)
      · split
        · exact PM.mono (B := B + 1) (((h.number _).acquire hT _).tick ht (by omega) _) (by omega)
        · split
          · exact PM.mono (B := B + 1) (((h.number _).tick ht (by omega) _).release (hT.mono (by omega)) _) (by omega)
          · exact PM.mono (B := B + 1) (h.tick ht (by omega) _) (by omega)
theorem pl0_PM {T : Th} {e : Ev} {B : Int} (hT : ThB T B) : PM T e (pl0 T e) (pl0 T e) B :=
  ⟨hT.getC e.th, by simp [pl0], by simp [pl0], fun _ => Int.le_refl _, fun _ _ => Int.le_refl _, Int.le_refl _, ((hT.getC e.th).2 e.th).1⟩
theorem plan_act {T : Th} {e : Ev} {p : Pl} (h : plan T e = some p) : refused T e = false ∧ p = act T e (pl0 T e) ∧ p.bad = false := by
  unfold plan at h
  split at h
  · cases h
  · rename_i hr
    split at h
    · cases h
    · rename_i hb
      cases h
      exact ⟨by simpa using hr, rfl, by simpa using hb⟩
theorem plan_PM {T : Th} {e : Ev} {p : Pl} {B : Int} (h : plan T e = some p) (hT : ThB T B) (hB : B + 16 < 4611686018427387904) : PM T e (pl0 T e) p (B + 16) := by
  obtain ⟨hr, rfl, _⟩ := plan_act h
  exact PM.act hr hT (pl0_PM hT) hB
theorem pl0_clock (T : Th) (e : Ev) (k : Ob) : clockOf T (pl0 T e) k = (look T.objs k).getD zeroC := rfl
/-- What a thread that locks a mutex has behind it. -/
theorem lock_own {T : Th} {e : Ev} {p : Pl} {B : Int} (h : plan T e = some p) (hT : ThB T B) (hB : B + 16 < 4611686018427387904) (hk : e.kind = 14) (t : Int) : at0 ((look T.objs (false, e.a)).getD zeroC) t ≤ at0 p.own t := by
  obtain ⟨hr, rfl, _⟩ := plan_act h
  have ht := refused_th hr
  unfold act
  rw [if_neg (by omega), if_neg (by omega), if_neg (by omega), if_pos hk]
  have h0 := (pl0_PM (e := e) hT).number (false, e.a)
  have hc := clockOf_CB hT h0.objs (false, e.a)
  have e1 : clockOf T (number T (pl0 T e) (false, e.a)).2 (false, e.a) = (look T.objs (false, e.a)).getD zeroC := by
    rw [← pl0_clock T e]; unfold clockOf; rw [(number_objs T (pl0 T e) (false, e.a)).2.1]
  refine Int.le_trans ?_ (tick_grow (h0.acquire hT (false, e.a)).own ht (by omega) t)
  rw [← e1]
  exact join_r h0.own.1 hc.1 t
/-- What a mutex has behind an unlock of it. -/
theorem unlock_clock {T : Th} {e : Ev} {p : Pl} {B : Int} (h : plan T e = some p) (hT : ThB T B) (hB : B + 16 < 4611686018427387904) (hk : e.kind = 15) (t : Int) : at0 p.own t ≤ at0 (clockOf T p (false, e.a)) t := by
  obtain ⟨hr, rfl, _⟩ := plan_act h
  have ht := refused_th hr
  unfold act
  rw [if_neg (by omega), if_neg (by omega), if_neg (by omega), if_neg (by omega), if_pos hk]
  have h0 := ((pl0_PM (e := e) hT).number (false, e.a)).tick ht (by omega) ⟨2, 0, 0, (number T (pl0 T e) (false, e.a)).1⟩
  have hc := clockOf_CB (hT.mono (by omega : B ≤ B + 1)) h0.objs (false, e.a)
  show at0 (release T _ (false, e.a)).own t ≤ at0 (clockOf T (release T _ (false, e.a)) (false, e.a)) t
  rw [release_clock, if_pos rfl]
  exact join_r hc.1 h0.own.1 t
theorem perform_objs {T : Th} {e : Ev} {p : Pl} (hn : (p.objs.map (·.1)).Nodup) (k : Ob) : (look (perform T e p).objs k).getD zeroC = clockOf T p k := by
  have : (perform T e p).objs = putAll T.objs p.objs := by unfold perform; simp only; split <;> split <;> split <;> rfl
  rw [this, putAll_look _ _ hn]
  unfold clockOf
  cases look p.objs k <;> rfl
theorem perform_clocks (T : Th) (e : Ev) (p : Pl) : (perform T e p).clocks = if p.fork ≥ 0 then (T.clocks.set e.th.toNat p.own).set p.fork.toNat (joinC (getC (T.clocks.set e.th.toNat p.own) p.fork) p.own) else T.clocks.set e.th.toNat p.own := by
  unfold perform; simp only; split <;> split <;> split <;> rfl
theorem getC_set {l : List Clk} {i : Nat} (hi : i < l.length) (c : Clk) (u : Int) : getC (l.set i c) u = if u.toNat = i then c else getC l u := by
  unfold getC
  simp only [List.getD_eq_getElem?_getD, List.getElem?_set]
  by_cases h : i = u.toNat
  · simp [h, h ▸ hi]
  · simp [h, Ne.symm h]
theorem perform_ThB {T : Th} {e : Ev} {p : Pl} {B : Int} (h : plan T e = some p) (hT : ThB T B) (hB : B + 16 < 4611686018427387904) : ThB (perform T e p) (B + 16) := by
  have hp := plan_PM h hT hB
  have hT' := hT.mono (by omega : B ≤ B + 16)
  have hset : ∀ c ∈ T.clocks.set e.th.toNat p.own, CB c (B + 16) := fun c hc => by
    rcases List.mem_or_eq_of_mem_set hc with hc | rfl
    · exact hT'.each c hc
    · exact hp.own
  have hg : ∀ u, CB (getC (T.clocks.set e.th.toNat p.own) u) (B + 16) := fun u => by
    unfold getC
    rw [List.getD_eq_getElem?_getD]
    cases hx : (T.clocks.set e.th.toNat p.own)[u.toNat]? with
    | none => exact CB.zero hT'.pos
    | some c => exact hset c (List.mem_of_getElem? hx)
  refine ⟨?_, fun c hc => ?_, fun q hq => ?_, hT'.pos⟩
  · rw [perform_clocks]; split <;> simp [hT.clocks]
  · rw [perform_clocks] at hc
    split at hc
    · rcases List.mem_or_eq_of_mem_set hc with hc | rfl
      · exact hset c hc
      · exact (hg _).join hp.own
    · exact hset c hc
  · have : (perform T e p).objs = putAll T.objs p.objs := by unfold perform; simp only; split <;> split <;> split <;> rfl
    rw [this] at hq
    rcases putAll_mem _ _ hq with hq | ⟨r, hr, he⟩
    · exact hT'.objs q hq
    · rw [he]; exact hp.objs r hr
theorem perform_own {T : Th} {e : Ev} {p : Pl} {B : Int} (h : plan T e = some p) (hT : ThB T B) (hB : B + 16 < 4611686018427387904) (t : Int) : at0 p.own t ≤ at0 (getC (perform T e p).clocks e.th) t := by
  have hp := plan_PM h hT hB
  have ht := refused_th (plan_refused h)
  have hi : e.th.toNat < T.clocks.length := by rw [hT.clocks]; omega
  rw [perform_clocks]
  split
  · rw [getC_set (by rw [List.length_set, hT.clocks]; have := (plan_fork h).1; omega)]
    split
    · rename_i hf
      have : getC (T.clocks.set e.th.toNat p.own) p.fork = p.own := by rw [getC_set hi, if_pos hf.symm]
      rw [this]
      exact join_l hp.own.1 hp.own.1 t
    · rw [getC_set hi, if_pos rfl]; exact Int.le_refl _
  · rw [getC_set hi, if_pos rfl]; exact Int.le_refl _
theorem perform_grow {T : Th} {e : Ev} {p : Pl} {B : Int} (h : plan T e = some p) (hT : ThB T B) (hB : B + 16 < 4611686018427387904) (u t : Int) : at0 (getC T.clocks u) t ≤ at0 (getC (perform T e p).clocks u) t := by
  have hp := plan_PM h hT hB
  have ht := refused_th (plan_refused h)
  have hi : e.th.toNat < T.clocks.length := by rw [hT.clocks]; omega
  have h1 : ∀ u, at0 (getC T.clocks u) t ≤ at0 (getC (T.clocks.set e.th.toNat p.own) u) t := fun u => by
    rw [getC_set hi]
    split
    · rename_i hu
      have : getC T.clocks u = (pl0 T e).own := by unfold getC pl0; simp only [getC, hu]
      rw [this]
      exact hp.grow t
    · exact Int.le_refl _
  have hl : ∀ u, (getC (T.clocks.set e.th.toNat p.own) u).length = 8 := fun u => by
    rw [getC_set hi]
    split
    · exact hp.own.1
    · exact (hT.getC u).1
  rw [perform_clocks]
  split
  · rw [getC_set (by rw [List.length_set, hT.clocks]; have := (plan_fork h).1; omega)]
    split
    · rename_i hf
      have : getC (T.clocks.set e.th.toNat p.own) p.fork = getC (T.clocks.set e.th.toNat p.own) u := by unfold getC; rw [hf]
      rw [this]
      exact Int.le_trans (h1 u) (join_l (hl u) hp.own.1 t)
    · exact h1 u
  · exact h1 u
theorem begin_ThB : ThB begin' 0 := by
  refine ⟨rfl, fun c hc => ?_, by simp [begin'], by omega⟩
  have : c = zeroC := by simp [begin'] at hc; exact hc
  subst this
  exact CB.zero (by omega)
end Go.Fx.Mo
namespace Go.Fx.Mo
section all2
variable {A B : Type}
/-- Two lists, element by element. -/
def All2 (R : A → B → Prop) : List A → List B → Prop
  | [], [] => True
  | a :: l, b :: m => R a b ∧ All2 R l m
  | _, _ => False
theorem All2.len {R : A → B → Prop} : ∀ {l : List A} {m : List B}, All2 R l m → l.length = m.length
  | [], [], _ => rfl
  | [], _ :: _, h => h.elim
  | _ :: _, [], h => h.elim
  | _ :: l, _ :: m, h => by simp [All2.len (l := l) (m := m) h.2]
theorem All2.app {R : A → B → Prop} : ∀ {l l2 : List A} {m m2 : List B}, All2 R l m → All2 R l2 m2 → All2 R (l ++ l2) (m ++ m2)
  | [], _, [], _, _, h => h
  | [], _, _ :: _, _, h, _ => h.elim
  | _ :: _, _, [], _, h, _ => h.elim
  | _ :: l, _, _ :: m, _, h, h2 => ⟨h.1, All2.app (l := l) (m := m) h.2 h2⟩
end all2
/-- Places of 0 to N - 1 moved round; all others stay. -/
def rot (N s n : Int) : Int := if 0 ≤ n ∧ n < N then (n + s) % N else n
theorem rot_inj {N s : Int} (hN : 0 < N) (n m : Int) (h : rot N s n = rot N s m) : n = m := by
  unfold rot at h
  have e1 := Int.emod_nonneg (n + s) (by omega : N ≠ 0)
  have e2 := Int.emod_lt_of_pos (n + s) hN
  have e3 := Int.emod_nonneg (m + s) (by omega : N ≠ 0)
  have e4 := Int.emod_lt_of_pos (m + s) hN
  split at h <;> split at h
  · rename_i h1 h2
    have d1 := Int.emod_add_mul_ediv (n + s) N
    have d2 := Int.emod_add_mul_ediv (m + s) N
    have : n - m = N * ((n + s) / N - (m + s) / N) := by rw [Int.mul_sub]; omega
    generalize (n + s) / N - (m + s) / N = q at this
    have hq : q = 0 := by
      by_cases hq : q = 0
      · exact hq
      · rcases Int.lt_or_gt_of_ne hq with hq | hq
        · have : N * q ≤ N * (-1) := Int.mul_le_mul_of_nonneg_left (by omega) (by omega)
          omega
        · have : N * 1 ≤ N * q := Int.mul_le_mul_of_nonneg_left (by omega) (by omega)
          omega
    subst hq
    omega
  · omega
  · omega
  · exact h
/-- New names: of threads, of words, of mutexes. -/
structure Nm where
  th : Int → Int
  words : Int
  mutex : Int
structure Nm.Ok (s : Nm) : Prop where
  inj : ∀ a b, s.th a = s.th b → a = b
  rng : ∀ a, 0 ≤ a → a < 8 → 0 ≤ s.th a ∧ s.th a < 8
  out : ∀ a, ¬ (0 ≤ a ∧ a < 8) → s.th a = a
  zero : s.th 0 = 0
  w : 0 ≤ s.words ∧ s.words < 1073741824
  m : 0 ≤ s.mutex ∧ s.mutex < 4294967296
def Nm.at' (s : Nm) (b : Int) : Int := rot 4294967296 (4 * s.words) b
def Nm.ob (s : Nm) (x : Ob) : Ob := if x.1 then (true, rot 1073741824 s.words x.2) else (false, rot 4294967296 s.mutex x.2)
def Nm.ev (s : Nm) (e : Ev) : Ev :=
  let e := { e with th := s.th e.th }
  if e.kind = 11 ∨ e.kind = 13 then { e with n := s.th e.n } else if e.kind = 14 ∨ e.kind = 15 then { e with a := w32 (e.a + s.mutex) } else { e with a := w32 (e.a + 4 * s.words) }
variable {s : Nm}
theorem ob_inj (x y : Ob) (h : s.ob x = s.ob y) : x = y := by
  obtain ⟨a, n⟩ := x
  obtain ⟨b, m⟩ := y
  unfold Nm.ob at h
  cases a <;> cases b <;> simp at h
  · rw [rot_inj (by omega) _ _ h]
  · rw [rot_inj (by omega) _ _ h]
theorem th_eq (hs : s.Ok) (a b : Int) : (s.th a = s.th b) ↔ a = b := ⟨hs.inj a b, fun h => by rw [h]⟩
theorem th_in (hs : s.Ok) (a : Int) : (0 ≤ s.th a ∧ s.th a < 8) ↔ (0 ≤ a ∧ a < 8) := by
  by_cases h : 0 ≤ a ∧ a < 8
  · exact ⟨fun _ => h, fun _ => hs.rng a h.1 h.2⟩
  · rw [hs.out a h]
section arrays
variable {A B : Type}
/-- Arrays of eight, of which the second one has the first one's elements under the threads' new names. -/
structure Arr (s : Nm) (R : A → B → Prop) (d : A) (d' : B) (l : List A) (l' : List B) : Prop where
  len : l.length = 8
  len' : l'.length = 8
  each : ∀ t : Int, 0 ≤ t → t < 8 → R (l.getD t.toNat d) (l'.getD (s.th t).toNat d')
theorem Arr.set {R : A → B → Prop} {d : A} {d' : B} {l : List A} {l' : List B} (h : Arr s R d d' l l') (hs : s.Ok) {t : Int} (h0 : 0 ≤ t) (h8 : t < 8) {x : A} {x' : B} (hx : R x x') : Arr s R d d' (l.set t.toNat x) (l'.set (s.th t).toNat x') := by
  refine ⟨by rw [List.length_set, h.len], by rw [List.length_set, h.len'], fun u hu hu8 => ?_⟩
  have ht := hs.rng t h0 h8
  have hu' := hs.rng u hu hu8
  have hl := h.len
  have hl' := h.len'
  rw [List.getD_eq_getElem?_getD, List.getD_eq_getElem?_getD, List.getElem?_set, List.getElem?_set]
  by_cases e : t = u
  · subst e
    rw [if_pos rfl, if_pos rfl, if_pos (by omega), if_pos (by omega)]
    exact hx
  · have e' : s.th t ≠ s.th u := fun hh => e (hs.inj _ _ hh)
    rw [if_neg (by omega), if_neg (by omega), ← List.getD_eq_getElem?_getD, ← List.getD_eq_getElem?_getD]
    exact h.each u hu hu8
end arrays
/-- Clocks. -/
abbrev Ck (s : Nm) (c c' : Clk) : Prop := Arr s (· = ·) 0 0 c c'
theorem Ck.at {c c' : Clk} (h : Ck s c c') {t : Int} (h0 : 0 ≤ t) (h8 : t < 8) : at0 c' (s.th t) = at0 c t := (h.each t h0 h8).symm
theorem Ck.join {c c' d d' : Clk} (hs : s.Ok) (h : Ck s c c') (k : Ck s d d') : Ck s (joinC c d) (joinC c' d') := by
  refine ⟨by simp [joinC, h.len, k.len], by simp [joinC, h.len', k.len'], fun t h0 h8 => ?_⟩
  have e1 := joinC_at h.len k.len t
  have e2 := joinC_at h.len' k.len' (s.th t)
  rw [h.at h0 h8, k.at h0 h8] at e2
  exact e1.trans e2.symm
theorem Ck.zero : Ck s zeroC zeroC := ⟨rfl, rfl, fun t h0 h8 => by
  exact (zeroC_at t).trans (zeroC_at (s.th t)).symm⟩
section maps
variable {K V K' V' : Type} [DecidableEq K] [DecidableEq K'] {f : K → K'} {R : V → V' → Prop}
/-- Maps, of which the second one has the first one's entries under new keys. -/
abbrev Mp (f : K → K') (R : V → V' → Prop) (m : List (K × V)) (m' : List (K' × V')) : Prop := All2 (fun p p' => p'.1 = f p.1 ∧ R p.2 p'.2) m m'
theorem Mp.look (hf : ∀ a b, f a = f b → a = b) : ∀ {m : List (K × V)} {m' : List (K' × V')}, Mp f R m m' → ∀ k, (look m k = none ∧ look m' (f k) = none) ∨ ∃ v v', look m k = some v ∧ look m' (f k) = some v' ∧ R v v'
  | [], [], _, k => .inl ⟨rfl, rfl⟩
  | [], _ :: _, h, _ => h.elim
  | _ :: _, [], h, _ => h.elim
  | p :: m, p' :: m', h, k => by
    obtain ⟨⟨h1, h2⟩, h3⟩ := h
    by_cases hk : p.1 = k
    · refine .inr ⟨p.2, p'.2, ?_, ?_, h2⟩
      · simp [Mo.look, hk]
      · simp [Mo.look, h1, hk]
    · have hk' : p'.1 ≠ f k := fun hh => hk (hf _ _ (h1 ▸ hh))
      have e1 : Mo.look (p :: m) k = Mo.look m k := by simp [Mo.look, hk]
      have e2 : Mo.look (p' :: m') (f k) = Mo.look m' (f k) := by simp [Mo.look, hk']
      rw [e1, e2]
      exact Mp.look hf h3 k
theorem Mp.map (hf : ∀ a b, f a = f b → a = b) {k : K} {v : V} {v' : V'} (hv : R v v') : ∀ {m : List (K × V)} {m' : List (K' × V')}, Mp f R m m' →
    Mp f R (m.map fun p => if p.1 = k then (p.1, v) else p) (m'.map fun p => if p.1 = f k then (p.1, v') else p)
  | [], [], _ => trivial
  | [], _ :: _, h => h.elim
  | _ :: _, [], h => h.elim
  | p :: m, p' :: m', h => by
    obtain ⟨⟨h1, h2⟩, h3⟩ := h
    refine ⟨?_, Mp.map hf hv h3⟩
    show (if p'.1 = f k then (p'.1, v') else p').1 = f (if p.1 = k then (p.1, v) else p).1 ∧ R (if p.1 = k then (p.1, v) else p).2 (if p'.1 = f k then (p'.1, v') else p').2
    by_cases hk : p.1 = k
    · rw [if_pos hk, if_pos (by rw [h1, hk])]
      exact ⟨h1, hv⟩
    · rw [if_neg hk, if_neg (fun hh => hk (hf _ _ (h1 ▸ hh)))]
      exact ⟨h1, h2⟩
theorem Mp.put (hf : ∀ a b, f a = f b → a = b) {m : List (K × V)} {m' : List (K' × V')} (h : Mp f R m m') (k : K) {v : V} {v' : V'} (hv : R v v') : Mp f R (put m k v) (put m' (f k) v') := by
  unfold Mo.put
  rcases h.look hf k with ⟨h1, h2⟩ | ⟨u, u', h1, h2, _⟩
  · rw [h1, h2]; exact All2.app h ⟨⟨rfl, hv⟩, trivial⟩
  · rw [h1, h2]; exact Mp.map hf hv h
theorem Mp.putAll (hf : ∀ a b, f a = f b → a = b) : ∀ {u : List (K × V)} {u' : List (K' × V')} {m : List (K × V)} {m' : List (K' × V')}, Mp f R u u' → Mp f R m m' → Mp f R (putAll m u) (putAll m' u')
  | [], [], _, _, _, h => h
  | [], _ :: _, _, _, h, _ => h.elim
  | _ :: _, [], _, _, h, _ => h.elim
  | p :: u, p' :: u', m, m', hu, h => by
    obtain ⟨⟨h1, h2⟩, h3⟩ := hu
    unfold Mo.putAll
    rw [h1]
    exact Mp.putAll hf h3 (h.put hf p.1 h2)
end maps
structure TR (s : Nm) (T T' : Th) : Prop where
  clocks : Arr s (Ck s) zeroC zeroC T.clocks T'.clocks
  begun : Arr s (· = ·) false false T.begun T'.begun
  ended : Arr s (· = ·) false false T.ended T'.ended
  rels : Arr s (· = ·) 0 0 T.rels T'.rels
  objs : Mp s.ob (Ck s) T.objs T'.objs
  names : Mp s.ob (fun _ _ => True) T.names T'.names
structure PR (s : Nm) (p p' : Pl) : Prop where
  own : Ck s p.own p'.own
  tk : p'.tk = p.tk
  objs : Mp s.ob (Ck s) p.objs p'.objs
  names : Mp s.ob (fun _ _ => True) p.names p'.names
  fork : p'.fork = s.th p.fork
  ends : p'.ends = s.th p.ends
  rel : p'.rel = p.rel
  bad : p'.bad = p.bad
theorem PR.tick {e e' : Ev} {p p' : Pl} {o o' : Ord} (hs : s.Ok) (h : PR s p p') (he : e'.th = s.th e.th) (h0 : 0 ≤ e.th) (h8 : e.th < 8) : PR s (tick e p o) (tick e' p' o') := by
  have hown : Ck s (p.own.set e.th.toNat (w64 (at0 p.own e.th + 1))) (p'.own.set (s.th e.th).toNat (w64 (at0 p'.own (s.th e.th) + 1))) :=
    h.own.set hs h0 h8 (by rw [h.own.at h0 h8])
  have hown2 := hown
  rw [← he] at hown2
  refine ⟨hown2, ?_, h.objs, h.names, h.fork, h.ends, h.rel, h.bad⟩
  show (if p'.tk = 0 then at0 (p'.own.set e'.th.toNat (w64 (at0 p'.own e'.th + 1))) e'.th else p'.tk) = if p.tk = 0 then at0 (p.own.set e.th.toNat (w64 (at0 p.own e.th + 1))) e.th else p.tk
  rw [h.tk, he, hown.at h0 h8]
theorem PR.number {T T' : Th} {p p' : Pl} (hs : s.Ok) (hT : TR s T T') (h : PR s p p') (x : Ob) : PR s (number T p x).2 (number T' p' (s.ob x)).2 := by
  unfold Mo.number
  rcases hT.names.look (ob_inj) x with ⟨h1, h2⟩ | ⟨u, u', h1, h2, _⟩
  · rw [h1, h2]
    rcases h.names.look (ob_inj) x with ⟨h3, h4⟩ | ⟨v, v', h3, h4, _⟩
    · rw [h3, h4]
      have e1 := hT.names.len
      have e2 := h.names.len
      refine ⟨h.own, h.tk, h.objs, h.names.put (ob_inj) x trivial, h.fork, h.ends, h.rel, ?_⟩
      show (p'.bad || decide (w64 (T'.names.length + p'.names.length) ≥ 65536)) = (p.bad || decide (w64 (T.names.length + p.names.length) ≥ 65536))
      rw [h.bad, e1, e2]
    · rw [h3, h4]; exact h
  · rw [h1, h2]; exact h
theorem PR.clock {T T' : Th} {p p' : Pl} (hs : s.Ok) (hT : TR s T T') (h : PR s p p') (x : Ob) : Ck s (clockOf T p x) (clockOf T' p' (s.ob x)) := by
  unfold clockOf
  rcases h.objs.look (ob_inj) x with ⟨h1, h2⟩ | ⟨u, u', h1, h2, h3⟩
  · rw [h1, h2]
    rcases hT.objs.look (ob_inj) x with ⟨h3, h4⟩ | ⟨v, v', h3, h4, h5⟩
    · rw [h3, h4]; exact Ck.zero
    · rw [h3, h4]; exact h5
  · rw [h1, h2]; exact h3
theorem PR.acquire {T T' : Th} {p p' : Pl} (hs : s.Ok) (hT : TR s T T') (h : PR s p p') (x : Ob) : PR s (acquire T p x) (acquire T' p' (s.ob x)) :=
  ⟨h.own.join hs (h.clock hs hT x), h.tk, h.objs, h.names, h.fork, h.ends, h.rel, h.bad⟩
theorem PR.release {T T' : Th} {p p' : Pl} (hs : s.Ok) (hT : TR s T T') (h : PR s p p') (x : Ob) : PR s (release T p x) (release T' p' (s.ob x)) :=
  ⟨h.own, h.tk, h.objs.put (ob_inj) x ((h.clock hs hT x).join hs h.own), h.names, h.fork, h.ends, rfl, h.bad⟩
theorem ob_word (hs : s.Ok) {a : Int} (h0 : 0 ≤ a) (h1 : a < 4294967296) : s.ob (true, w32 (a.tdiv 4)) = (true, w32 ((s.at' a).tdiv 4)) := by
  have hw := hs.w
  have e0 : s.at' a = (a + 4 * s.words) % 4294967296 := by unfold Nm.at' rot; rw [if_pos ⟨h0, h1⟩]
  rw [e0]
  have e1 : w32 (a.tdiv 4) = a / 4 := by
    rw [Int.tdiv_eq_ediv_of_nonneg h0]
    exact wrap_u32 (by omega) (by omega)
  rw [e1]
  have e2 : w32 (((a + 4 * s.words) % 4294967296).tdiv 4) = (a + 4 * s.words) % 4294967296 / 4 := by
    rw [Int.tdiv_eq_ediv_of_nonneg (by omega)]
    exact wrap_u32 (by omega) (by omega)
  rw [e2]
  show (true, rot 1073741824 s.words (a / 4)) = _
  unfold rot
  rw [if_pos (by constructor <;> omega)]
  congr 1
  omega
theorem atomicL_start (T : Th) (e : Ev) : ∀ (l : List Int) (m m' : Int) (p : Pl), atomicL T e l (false, m) p = atomicL T e l (false, m') p
  | [], _, _, _ => rfl
  | a :: r, m, m', p => by
    unfold atomicL
    simp only
    rw [if_neg (by simp), if_neg (by simp)]
theorem PR.atomicL {T T' : Th} {e e' : Ev} (hs : s.Ok) (hT : TR s T T') (he : e'.th = s.th e.th) (h0 : 0 ≤ e.th) (h8 : e.th < 8) : ∀ (l : List Int) (x : Ob) (p p' : Pl), (∀ a ∈ l, 0 ≤ a ∧ a < 4294967296) → PR s p p' → PR s (atomicL T e l x p) (atomicL T' e' (l.map s.at') (s.ob x) p')
  | [], _, _, _, _, h => h
  | a :: r, x, p, p', hl, h => by
    unfold Mo.atomicL
    simp only [List.map_cons]
    have ha := hl a (by simp)
    rw [← ob_word hs ha.1 ha.2]
    have hr : ∀ a ∈ r, 0 ≤ a ∧ a < 4294967296 := fun b hb => hl b (by simp [hb])
    by_cases hx : ((true, w32 (a.tdiv 4)) : Ob) = x
    · rw [if_pos hx, if_pos (by rw [hx])]
      exact PR.atomicL hs hT he h0 h8 r x p p' hr h
    · rw [if_neg hx, if_neg (fun hh => hx (ob_inj _ _ hh))]
      refine PR.atomicL hs hT he h0 h8 r _ _ _ hr ?_
      exact (((h.number hs hT _).acquire hs hT _).tick hs he h0 h8).release hs hT _
theorem bytes_at (hs : s.Ok) (a n : Int) : bytes (w32 (a + 4 * s.words)) n = (bytes a n).map s.at' := by
  unfold bytes
  rw [List.map_map]
  refine List.map_congr_left fun i _ => ?_
  simp only [Function.comp]
  have h1 : ∀ x, w32 x = x % 4294967296 := fun x => by unfold w32; simp only [IntKind.wrap, IntKind.bits, IntKind.signed]; simp
  unfold Nm.at' rot
  simp only [h1]
  rw [if_pos (by constructor <;> omega)]
  omega
theorem bytes_in (a n : Int) : ∀ b ∈ bytes a n, 0 ≤ b ∧ b < 4294967296 := by
  intro b hb
  unfold bytes at hb
  obtain ⟨i, _, rfl⟩ := List.mem_map.1 hb
  have h1 : ∀ x, w32 x = x % 4294967296 := fun x => by unfold w32; simp only [IntKind.wrap, IntKind.bits, IntKind.signed]; simp
  rw [h1]
  omega
theorem TR.begun' {T T' : Th} (h : TR s T T') {t : Int} (h0 : 0 ≤ t) (h8 : t < 8) : getB T'.begun (s.th t) = getB T.begun t := (h.begun.each t h0 h8).symm
theorem TR.ended' {T T' : Th} (h : TR s T T') {t : Int} (h0 : 0 ≤ t) (h8 : t < 8) : getB T'.ended (s.th t) = getB T.ended t := (h.ended.each t h0 h8).symm
theorem ev_th (e : Ev) : (s.ev e).th = s.th e.th := by unfold Nm.ev; simp only; split; · rfl
                                                       · split <;> rfl
theorem ev_kind (e : Ev) : (s.ev e).kind = e.kind := by unfold Nm.ev; simp only; split; · rfl
                                                        · split <;> rfl
theorem ev_pc (e : Ev) : (s.ev e).pc = e.pc := by unfold Nm.ev; simp only; split; · rfl
                                                  · split <;> rfl
theorem ev_acc (e : Ev) : accesses (s.ev e) = accesses e := by unfold accesses; rw [ev_kind]
theorem ev_n (e : Ev) (h : ¬ (e.kind = 11 ∨ e.kind = 13)) : (s.ev e).n = e.n := by
  unfold Nm.ev; simp only; rw [if_neg h]; split <;> rfl
theorem ev_n' (e : Ev) (h : e.kind = 11 ∨ e.kind = 13) : (s.ev e).n = s.th e.n := by
  unfold Nm.ev; simp only; rw [if_pos h]
theorem ev_lock (e : Ev) (h : e.kind = 14 ∨ e.kind = 15) (ha : 0 ≤ e.a ∧ e.a < 4294967296) : s.ob (false, e.a) = (false, (s.ev e).a) := by
  have e1 : (s.ev e).a = w32 (e.a + s.mutex) := by unfold Nm.ev; simp only; rw [if_neg (by omega), if_pos h]
  rw [e1]
  show (false, rot 4294967296 s.mutex e.a) = _
  unfold rot
  rw [if_pos ha]
  have h1 : ∀ x, w32 x = x % 4294967296 := fun x => by unfold w32; simp only [IntKind.wrap, IntKind.bits, IntKind.signed]; simp
  rw [h1]
theorem ev_a (e : Ev) (h : ¬ (e.kind = 11 ∨ e.kind = 13)) (h2 : ¬ (e.kind = 14 ∨ e.kind = 15)) : (s.ev e).a = w32 (e.a + 4 * s.words) := by
  unfold Nm.ev; simp only; rw [if_neg h, if_neg h2]
theorem accesses_kinds {e : Ev} (h : (accesses e).2.2 = true ∨ (accesses e).2.1 = true) : ¬ (e.kind = 11 ∨ e.kind = 13) ∧ ¬ (e.kind = 14 ∨ e.kind = 15) := by
  unfold accesses at h
  split at h
  · omega
  · split at h
    · omega
    · split at h
      · omega
      · simp at h
theorem refused_ev {T T' : Th} {e : Ev} (hs : s.Ok) (hT : TR s T T') : refused T' (s.ev e) = refused T e := by
  unfold refused
  rw [ev_kind, ev_th, ev_acc]
  have hn : (accesses e).2.2 = true ∨ (accesses e).2.1 = true → (s.ev e).n = e.n := fun h => ev_n e (accesses_kinds h).1
  have e1 : ((accesses e).2.2 && (decide ((s.ev e).n < 0) || decide ((s.ev e).n > 65536))) = ((accesses e).2.2 && (decide (e.n < 0) || decide (e.n > 65536))) := by
    cases h : (accesses e).2.2 with
    | true => rw [hn (.inl h)]
    | false => rfl
  have e2 : ((accesses e).2.1 && (decide ((s.ev e).n < 1) || decide ((s.ev e).n > 16))) = ((accesses e).2.1 && (decide (e.n < 1) || decide (e.n > 16))) := by
    cases h : (accesses e).2.1 with
    | true => rw [hn (.inr h)]
    | false => rfl
  rw [e1, e2]
  by_cases h : 0 ≤ e.th ∧ e.th < 8
  · have h' := hs.rng e.th h.1 h.2
    rw [hT.begun' h.1 h.2, hT.ended' h.1 h.2]
    rw [decide_eq_false (by omega : ¬ s.th e.th < 0), decide_eq_false (by omega : ¬ s.th e.th ≥ 8), decide_eq_false (by omega : ¬ e.th < 0), decide_eq_false (by omega : ¬ e.th ≥ 8)]
  · rw [hs.out _ h]
    have hx : (decide (e.th < 0) || decide (e.th ≥ 8)) = true := by simp; omega
    rcases Bool.or_eq_true _ _ ▸ hx with hx | hx <;> simp [hx]
theorem otherIs_ev {e : Ev} (hs : s.Ok) (hk : e.kind = 11 ∨ e.kind = 13) : otherIs (s.ev e) = otherIs e := by
  unfold otherIs
  rw [ev_n' e hk]
  have := th_in hs e.n
  by_cases h : 0 ≤ e.n ∧ e.n < 8
  · have h' := this.2 h
    simp [h.1, h.2, h'.1, h'.2]
  · rw [hs.out _ h]
theorem act_ev {T T' : Th} {e : Ev} {p p' : Pl} (hs : s.Ok) (hT : TR s T T') (ha : 0 ≤ e.a ∧ e.a < 4294967296) (h0 : 0 ≤ e.th) (h8 : e.th < 8) (h : PR s p p') : PR s (act T e p) (act T' (s.ev e) p') := by
  unfold act
  rw [ev_kind]
  have he := ev_th (s := s) e
  split
  · rename_i hk
    unfold atomic
    rw [ev_n e (by omega), ev_a e (by omega) (by omega), bytes_at hs]
    rw [atomicL_start T' (s.ev e) _ 0 (s.ob (false, 0)).2]
    exact PR.atomicL hs hT he h0 h8 (bytes e.a e.n) (false, 0) p p' (bytes_in _ _) h
  · split
    · rename_i hk
      unfold spawn
      rw [otherIs_ev hs (.inl hk), ev_n' e (.inl hk)]
      by_cases ho : otherIs e = true
      · have hn : 0 ≤ e.n ∧ e.n < 8 := by unfold otherIs at ho; simp at ho; omega
        rw [hT.begun' hn.1 hn.2]
        split
        · exact ⟨h.own, h.tk, h.objs, h.names, h.fork, h.ends, h.rel, rfl⟩
        · have ht := h.tick (o := ⟨5, 0, e.n, 0⟩) (o' := ⟨5, 0, s.th e.n, 0⟩) hs he h0 h8
          exact ⟨ht.own, ht.tk, ht.objs, ht.names, rfl, ht.ends, rfl, ht.bad⟩
      · have ho : otherIs e = false := by simpa using ho
        rw [ho, if_pos (by simp), if_pos (by simp)]
        exact ⟨h.own, h.tk, h.objs, h.names, h.fork, h.ends, h.rel, rfl⟩
    · split
      · rename_i hk
        unfold join
        rw [otherIs_ev hs (.inr hk), ev_n' e (.inr hk), he]
        by_cases ho : otherIs e = true
        · have hn : 0 ≤ e.n ∧ e.n < 8 := by unfold otherIs at ho; simp at ho; omega
          rw [hT.begun' hn.1 hn.2, hT.ended' hn.1 hn.2]
          have e3 : (s.th e.n == s.th e.th) = (e.n == e.th) := by
            rw [Bool.eq_iff_iff]; simp [th_eq hs]
          rw [e3]
          split
          · exact ⟨h.own, h.tk, h.objs, h.names, h.fork, h.ends, h.rel, rfl⟩
          · have hj : PR s { p with own := joinC p.own (getC T.clocks e.n) } { p' with own := joinC p'.own (getC T'.clocks (s.th e.n)) } :=
              ⟨h.own.join hs (hT.clocks.each e.n hn.1 hn.2), h.tk, h.objs, h.names, h.fork, h.ends, h.rel, h.bad⟩
            have ht := hj.tick (o := ⟨6, 0, e.n, 0⟩) (o' := ⟨6, 0, s.th e.n, 0⟩) hs he h0 h8
            exact ⟨ht.own, ht.tk, ht.objs, ht.names, ht.fork, rfl, ht.rel, ht.bad⟩
        · have ho : otherIs e = false := by simpa using ho
          rw [ho, if_pos (by simp), if_pos (by simp)]
          exact ⟨h.own, h.tk, h.objs, h.names, h.fork, h.ends, h.rel, rfl⟩
      · split
        · rename_i hk
          unfold lock
          simp only
          rw [← ev_lock e (.inl hk) ha]
          exact ((h.number hs hT _).acquire hs hT _).tick hs he h0 h8
        · split
          · rename_i hk
            unfold unlock
            simp only
            rw [← ev_lock e (.inr hk) ha]
            exact ((h.number hs hT _).tick hs he h0 h8).release hs hT _
          · exact h.tick hs he h0 h8
theorem pl0_ev {T T' : Th} {e : Ev} (hs : s.Ok) (hT : TR s T T') (h0 : 0 ≤ e.th) (h8 : e.th < 8) : PR s (pl0 T e) (pl0 T' (s.ev e)) := by
  refine ⟨?_, rfl, trivial, trivial, (hs.out (-1) (by omega)).symm, (hs.out (-1) (by omega)).symm, rfl, rfl⟩
  show Ck s (getC T.clocks e.th) (getC T'.clocks (s.ev e).th)
  rw [ev_th]
  exact hT.clocks.each e.th h0 h8
theorem plan_ev {T T' : Th} {e : Ev} (hs : s.Ok) (hT : TR s T T') (ha : 0 ≤ e.a ∧ e.a < 4294967296) : (plan T e = none ∧ plan T' (s.ev e) = none) ∨ ∃ p p', plan T e = some p ∧ plan T' (s.ev e) = some p' ∧ PR s p p' := by
  cases hr : refused T e with
  | true =>
    left
    unfold plan
    rw [refused_ev hs hT, hr]
    exact ⟨rfl, rfl⟩
  | false =>
    have ht := refused_th hr
    have h := act_ev hs hT ha ht.1 ht.2 (pl0_ev hs hT ht.1 ht.2)
    unfold plan
    rw [refused_ev hs hT, hr, h.bad]
    cases hb : (act T e (pl0 T e)).bad with
    | true => left; exact ⟨rfl, rfl⟩
    | false => right; exact ⟨_, _, rfl, rfl, h⟩
theorem perform_ev {T T' : Th} {e : Ev} {p p' : Pl} (hs : s.Ok) (hT : TR s T T') (h0 : 0 ≤ e.th) (h8 : e.th < 8) (hf : p.fork < 8 ∧ p.ends < 8) (h : PR s p p') : TR s (perform T e p) (perform T' (s.ev e) p') := by
  have h1 : TR s { T with clocks := T.clocks.set e.th.toNat p.own, objs := putAll T.objs p.objs, names := putAll T.names p.names } { T' with clocks := T'.clocks.set (s.th e.th).toNat p'.own, objs := putAll T'.objs p'.objs, names := putAll T'.names p'.names } :=
    ⟨hT.clocks.set hs h0 h8 h.own, hT.begun, hT.ended, hT.rels, Mp.putAll (ob_inj) h.objs hT.objs, Mp.putAll (ob_inj) h.names hT.names⟩
  unfold perform
  rw [ev_th]
  simp only
  have sign : ∀ x, s.th x ≥ 0 ↔ x ≥ 0 := fun x => by
    by_cases hx : 0 ≤ x ∧ x < 8
    · have := hs.rng x hx.1 hx.2; omega
    · rw [hs.out x hx]
  have h2 : TR s (if p.fork ≥ 0 then { ({ T with clocks := T.clocks.set e.th.toNat p.own, objs := putAll T.objs p.objs, names := putAll T.names p.names } : Th) with begun := T.begun.set p.fork.toNat true, clocks := (T.clocks.set e.th.toNat p.own).set p.fork.toNat (joinC (getC (T.clocks.set e.th.toNat p.own) p.fork) p.own) } else { T with clocks := T.clocks.set e.th.toNat p.own, objs := putAll T.objs p.objs, names := putAll T.names p.names })
      (if p'.fork ≥ 0 then { ({ T' with clocks := T'.clocks.set (s.th e.th).toNat p'.own, objs := putAll T'.objs p'.objs, names := putAll T'.names p'.names } : Th) with begun := T'.begun.set p'.fork.toNat true, clocks := (T'.clocks.set (s.th e.th).toNat p'.own).set p'.fork.toNat (joinC (getC (T'.clocks.set (s.th e.th).toNat p'.own) p'.fork) p'.own) } else { T' with clocks := T'.clocks.set (s.th e.th).toNat p'.own, objs := putAll T'.objs p'.objs, names := putAll T'.names p'.names }) := by
    rw [h.fork]
    by_cases hk : p.fork ≥ 0
    · rw [if_pos hk, if_pos ((sign _).2 hk)]
      exact ⟨h1.clocks.set hs hk hf.1 ((h1.clocks.each p.fork hk hf.1).join hs h.own), h1.begun.set hs hk hf.1 rfl, h1.ended, h1.rels, h1.objs, h1.names⟩
    · rw [if_neg hk, if_neg (fun hh => hk ((sign _).1 hh))]
      exact h1
  revert h2
  generalize (if p.fork ≥ 0 then { ({ T with clocks := T.clocks.set e.th.toNat p.own, objs := putAll T.objs p.objs, names := putAll T.names p.names } : Th) with begun := T.begun.set p.fork.toNat true, clocks := (T.clocks.set e.th.toNat p.own).set p.fork.toNat (joinC (getC (T.clocks.set e.th.toNat p.own) p.fork) p.own) } else { T with clocks := T.clocks.set e.th.toNat p.own, objs := putAll T.objs p.objs, names := putAll T.names p.names }) = U
  generalize (if p'.fork ≥ 0 then { ({ T' with clocks := T'.clocks.set (s.th e.th).toNat p'.own, objs := putAll T'.objs p'.objs, names := putAll T'.names p'.names } : Th) with begun := T'.begun.set p'.fork.toNat true, clocks := (T'.clocks.set (s.th e.th).toNat p'.own).set p'.fork.toNat (joinC (getC (T'.clocks.set (s.th e.th).toNat p'.own) p'.fork) p'.own) } else { T' with clocks := T'.clocks.set (s.th e.th).toNat p'.own, objs := putAll T'.objs p'.objs, names := putAll T'.names p'.names }) = U'
  intro h2
  have h3 : TR s (if p.ends ≥ 0 then { U with ended := U.ended.set p.ends.toNat true } else U) (if p'.ends ≥ 0 then { U' with ended := U'.ended.set p'.ends.toNat true } else U') := by
    rw [h.ends]
    by_cases hk : p.ends ≥ 0
    · rw [if_pos hk, if_pos ((sign _).2 hk)]
      exact ⟨h2.clocks, h2.begun, h2.ended.set hs hk hf.2 rfl, h2.rels, h2.objs, h2.names⟩
    · rw [if_neg hk, if_neg (fun hh => hk ((sign _).1 hh))]
      exact h2
  revert h3
  generalize (if p.ends ≥ 0 then { U with ended := U.ended.set p.ends.toNat true } else U) = V
  generalize (if p'.ends ≥ 0 then { U' with ended := U'.ended.set p'.ends.toNat true } else U') = V'
  intro h3
  rw [h.rel]
  split
  · refine ⟨h3.clocks, h3.begun, h3.ended, h3.rels.set hs h0 h8 ?_, h3.objs, h3.names⟩
    have : at0 V'.rels (s.th e.th) = at0 V.rels e.th := (h3.rels.each e.th h0 h8).symm
    rw [this]
  · exact h3
end Go.Fx.Mo
namespace Go.Fx.Mo
variable {s : Nm}
theorem w32_mod (x : Int) : w32 x = x % 4294967296 := by unfold w32; simp only [IntKind.wrap, IntKind.bits, IntKind.signed]; simp
theorem at_inj (a b : Int) (h : s.at' a = s.at' b) : a = b := rot_inj (by omega) a b h
def Nm.acc (s : Nm) (a : Acc) : Acc := { a with th := s.th a.th }
def Nm.race (s : Nm) (r : Race) : Race := ⟨s.at' r.byte, s.acc r.first, s.acc r.second⟩
def AccIn (a : Acc) : Prop := 0 ≤ a.th ∧ a.th < 8
def PastR (s : Nm) (x x' : Past) : Prop := x' = ⟨s.acc x.acc, x.tick⟩ ∧ AccIn x.acc
structure CellR (s : Nm) (c c' : Cell) : Prop where
  l : All2 (PastR s) c.l c'.l
  len : c.last.length = 24
  len' : c'.last.length = 24
  each : ∀ (t : Int) (k : Nat), 0 ≤ t → t < 8 → k < 3 → c'.last.getD ((s.th t).toNat * 3 + k) 0 = c.last.getD (t.toNat * 3 + k) 0
structure RaceIn (r : Race) : Prop where
  first : AccIn r.first
  second : AccIn r.second
  byte : 0 ≤ r.byte ∧ r.byte < 4294967296
def RaceR (s : Nm) (r r' : Race) : Prop := r' = s.race r ∧ RaceIn r
theorem cell0_R : CellR s cell0 cell0 := by
  refine ⟨trivial, rfl, rfl, fun t k _ _ _ => ?_⟩
  have h : ∀ i, (List.replicate 24 (0 : Int)).getD i 0 = 0 := fun i => by rw [List.getD_eq_getElem?_getD, List.getElem?_replicate]; split <;> rfl
  show (List.replicate 24 (0 : Int)).getD _ 0 = (List.replicate 24 (0 : Int)).getD _ 0
  rw [h, h]
structure DR (s : Nm) (d d' : Det) : Prop where
  th : TR s d.th d'.th
  many : d'.many = d.many
  cells : Mp s.at' (CellR s) d.cells d'.cells
  told : Mp s.at' (fun b b' => b' = b) d.told d'.told
theorem conflict_acc (hs : s.Ok) (a b : Acc) : conflict (s.acc a) (s.acc b) = conflict a b := by
  unfold conflict Nm.acc
  simp only
  have : (s.th a.th != s.th b.th) = (a.th != b.th) := by
    rw [Bool.eq_iff_iff]; simp [th_eq hs]
  rw [this]
theorem kind_acc (a : Acc) : kind (s.acc a) = kind a := rfl
theorem kind_lt (a : Acc) : 0 ≤ kind a ∧ kind a < 3 := by
  unfold kind
  split
  · omega
  · split <;> omega
theorem race_acc (hs : s.Ok) {a : Acc} {own own' : Clk} (ho : Ck s own own') : ∀ {l l' : List Past} {x y : List Int}, All2 (PastR s) l l' →
    ((⟨l, x⟩ : Cell).race a own = none ∧ (⟨l', y⟩ : Cell).race (s.acc a) own' = none) ∨ ∃ z, (⟨l, x⟩ : Cell).race a own = some z ∧ (⟨l', y⟩ : Cell).race (s.acc a) own' = some (s.acc z) ∧ AccIn z
  | [], [], _, _, _ => .inl ⟨rfl, rfl⟩
  | [], _ :: _, _, _, h => h.elim
  | _ :: _, [], _, _, h => h.elim
  | p :: l, p' :: l', x, y, h => by
    obtain ⟨⟨rfl, hin⟩, h2⟩ := h
    have e : (conflict (s.acc p.acc) (s.acc a) && decide (at0 own' (s.acc p.acc).th < p.tick)) = (conflict p.acc a && decide (at0 own p.acc.th < p.tick)) := by
      rw [conflict_acc hs]
      show (_ && decide (at0 own' (s.th p.acc.th) < p.tick)) = _
      rw [ho.at hin.1 hin.2]
    unfold Cell.race
    simp only [List.find?_cons]
    rw [e]
    cases hb : (conflict p.acc a && decide (at0 own p.acc.th < p.tick)) with
    | true => exact .inr ⟨p.acc, rfl, rfl, hin⟩
    | false =>
      have := race_acc hs ho (a := a) (x := x) (y := y) h2
      unfold Cell.race at this
      exact this
theorem remember_R (hs : s.Ok) {c c' : Cell} (h : CellR s c c') {a : Acc} (ha : AccIn a) (tick rel : Int) : CellR s (c.remember a tick rel) (c'.remember (s.acc a) tick rel) := by
  have hk := kind_lt a
  have h1 := h.each a.th (kind a).toNat ha.1 ha.2 (by omega)
  have h1' : c'.last.getD ((s.acc a).th.toNat * 3 + (kind (s.acc a)).toNat) 0 = c.last.getD (a.th.toNat * 3 + (kind a).toNat) 0 := h1
  have ht := hs.rng a.th ha.1 ha.2
  have ha0 := ha.1
  unfold Cell.remember
  simp only
  rw [h1']
  split
  · exact h
  · refine ⟨All2.app h.l ⟨⟨rfl, ha⟩, trivial⟩, by simp only [List.length_set]; exact h.len, by simp only [List.length_set]; exact h.len', fun t k h0 h8 hk3 => ?_⟩
    show (c'.last.set ((s.th a.th).toNat * 3 + (kind a).toNat) _).getD _ 0 = (c.last.set (a.th.toNat * 3 + (kind a).toNat) _).getD _ 0
    have ht' := hs.rng t h0 h8
    have hl := h.len
    have hl' := h.len'
    rw [List.getD_eq_getElem?_getD, List.getD_eq_getElem?_getD, List.getElem?_set, List.getElem?_set]
    by_cases e : a.th = t ∧ (kind a).toNat = k
    · obtain ⟨e1, e2⟩ := e
      rw [e1, e2, if_pos rfl, if_pos rfl, if_pos (by omega), if_pos (by omega)]
    · have n1 : a.th.toNat * 3 + (kind a).toNat ≠ t.toNat * 3 + k := fun hh => e ⟨by omega, by omega⟩
      have n2 : (s.th a.th).toNat * 3 + (kind a).toNat ≠ (s.th t).toNat * 3 + k := fun hh => e ⟨hs.inj _ _ (by omega), by omega⟩
      rw [if_neg n1, if_neg n2, ← List.getD_eq_getElem?_getD, ← List.getD_eq_getElem?_getD]
      exact h.each t k h0 h8 hk3
theorem told_R {d d' : List (Int × Bool)} (h : Mp s.at' (fun b b' => b' = b) d d') (b : Int) : (look d' (s.at' b)).getD false = (look d b).getD false := by
  rcases h.look at_inj b with ⟨h1, h2⟩ | ⟨v, v', h1, h2, h3⟩
  · rw [h1, h2]
  · rw [h1, h2, h3]
theorem scan_R (hs : s.Ok) {d d' : Det} (hd : DR s d d') {a : Acc} (ha : AccIn a) {own own' : Clk} (ho : Ck s own own') : ∀ (bs : List Int) (out out' : List Race) (n : Int), (∀ b ∈ bs, 0 ≤ b ∧ b < 4294967296) → All2 (RaceR s) out out' →
    (scan d a own bs out n = none ∧ scan d' (s.acc a) own' (bs.map s.at') out' n = none) ∨ ∃ o o', scan d a own bs out n = some o ∧ scan d' (s.acc a) own' (bs.map s.at') out' n = some o' ∧ All2 (RaceR s) o o'
  | [], out, out', _, _, h => .inr ⟨out, out', rfl, rfl, h⟩
  | b :: r, out, out', n, hb, h => by
    have hb0 := hb b (by simp)
    have hb : ∀ b ∈ r, 0 ≤ b ∧ b < 4294967296 := fun x hx => hb x (by simp [hx])
    simp only [List.map_cons]
    unfold scan
    have hlen := hd.cells.len
    rcases hd.cells.look at_inj b with ⟨h1, h2⟩ | ⟨c, c', h1, h2, h3⟩
    · rw [h1, h2]
      simp only
      rw [← hlen]
      split
      · exact .inl ⟨rfl, rfl⟩
      · exact scan_R hs hd ha ho r out out' _ hb h
    · rw [h1, h2]
      simp only
      rw [told_R hd.told]
      split
      · exact scan_R hs hd ha ho r out out' n hb h
      · rcases race_acc hs ho (a := a) (x := c.last) (y := c'.last) h3.l with ⟨g1, g2⟩ | ⟨z, g1, g2, g3⟩
        · have g1 : c.race a own = none := g1
          have g2 : c'.race (s.acc a) own' = none := g2
          rw [g1, g2]
          exact scan_R hs hd ha ho r out out' n hb h
        · have g1 : c.race a own = some z := g1
          have g2 : c'.race (s.acc a) own' = some (s.acc z) := g2
          rw [g1, g2]
          exact scan_R hs hd ha ho r _ _ n hb (All2.app h ⟨⟨rfl, g3, ha, hb0⟩, trivial⟩)
theorem keep_R (hs : s.Ok) {a : Acc} (ha : AccIn a) {tick rel : Int} {ts ts' : List (Int × Bool)} (ht : Mp s.at' (fun b b' => b' = b) ts ts') : ∀ (bs : List Int) (cs cs' : List (Int × Cell)), Mp s.at' (CellR s) cs cs' →
    Mp s.at' (CellR s) (keep a tick rel ts bs cs) (keep (s.acc a) tick rel ts' (bs.map s.at') cs')
  | [], _, _, h => h
  | b :: r, cs, cs', h => by
    simp only [List.map_cons]
    unfold keep
    simp only
    refine keep_R hs ha ht r _ _ ?_
    rw [told_R ht]
    rcases h.look at_inj b with ⟨h1, h2⟩ | ⟨c, c', h1, h2, h3⟩
    · rw [h1, h2]
      split
      · exact h.put at_inj b cell0_R
      · exact h.put at_inj b (remember_R hs cell0_R ha _ _)
    · rw [h1, h2]
      split
      · exact h
      · exact h.put at_inj b (remember_R hs h3 ha _ _)
theorem tell_R : ∀ {out out' : List Race} {cs cs' : List (Int × Cell)} {ts ts' : List (Int × Bool)}, All2 (RaceR s) out out' → Mp s.at' (CellR s) cs cs' → Mp s.at' (fun b b' => b' = b) ts ts' →
    Mp s.at' (CellR s) (tell out cs ts).1 (tell out' cs' ts').1 ∧ Mp s.at' (fun b b' => b' = b) (tell out cs ts).2 (tell out' cs' ts').2
  | [], [], _, _, _, _, _, h, k => ⟨h, k⟩
  | [], _ :: _, _, _, _, _, h, _, _ => h.elim
  | _ :: _, [], _, _, _, _, h, _, _ => h.elim
  | x :: r, x' :: r', cs, cs', ts, ts', ho, h, k => by
    obtain ⟨⟨rfl, _⟩, h2⟩ := ho
    unfold tell
    refine tell_R h2 ?_ (k.put at_inj x.byte rfl)
    refine Mp.put at_inj h x.byte ?_
    rcases h.look at_inj x.byte with ⟨h1, h2⟩ | ⟨c, c', h1, h2, h3⟩
    · rw [h1]
      show CellR s _ { (look cs' (s.at' x.byte)).getD cell0 with l := [] }
      rw [h2]
      exact cell0_R
    · rw [h1]
      show CellR s _ { (look cs' (s.at' x.byte)).getD cell0 with l := [] }
      rw [h2]
      exact ⟨trivial, h3.len, h3.len', h3.each⟩
theorem bytes_ev (hs : s.Ok) (e : Ev) : (if (accesses (s.ev e)).2.2 then bytes (s.ev e).a (s.ev e).n else []) = (if (accesses e).2.2 then bytes e.a e.n else []).map s.at' := by
  rw [ev_acc]
  cases h : (accesses e).2.2 with
  | false => rfl
  | true =>
    have hk := accesses_kinds (.inl h)
    rw [if_pos rfl, if_pos rfl, ev_n e hk.1, ev_a e hk.1 hk.2, bytes_at hs]
theorem feed_R (hs : s.Ok) {d d' : Det} (hd : DR s d d') {e : Ev} (hea : 0 ≤ e.a ∧ e.a < 4294967296) :
    (∃ x, feed d e = (d, .inr x) ∧ feed d' (s.ev e) = (d', .inr x)) ∨ ∃ d1 d1' o o', feed d e = (d1, .inl o) ∧ feed d' (s.ev e) = (d1', .inl o') ∧ DR s d1 d1' ∧ All2 (RaceR s) o o' := by
  unfold feed
  rw [hd.many]
  by_cases hm : d.many ≥ 20000
  · rw [if_pos hm, if_pos hm]; exact .inl ⟨2, rfl, rfl⟩
  rw [if_neg hm, if_neg hm]
  rcases plan_ev hs hd.th hea with ⟨h1, h2⟩ | ⟨p, p', h1, h2, hp⟩
  · rw [h1, h2]; exact .inl ⟨300, rfl, rfl⟩
  rw [h1, h2]
  simp only
  have ht := refused_th (plan_refused h1)
  have hacc : accOf d' (s.ev e) = s.acc (accOf d e) := by
    unfold accOf Nm.acc
    simp only
    rw [hd.many, ev_th, ev_pc, ev_acc]
  have hin : AccIn (accOf d e) := ht
  rw [bytes_ev hs, hacc]
  have hbs : ∀ b ∈ (if (accesses e).2.2 then bytes e.a e.n else []), 0 ≤ b ∧ b < 4294967296 := by
    split
    · exact bytes_in _ _
    · simp
  rcases scan_R hs hd hin hp.own (if (accesses e).2.2 then bytes e.a e.n else []) [] [] 0 hbs trivial with ⟨g1, g2⟩ | ⟨o, o', g1, g2, ho⟩
  · rw [g1, g2]; exact .inl ⟨2, rfl, rfl⟩
  rw [g1, g2]
  simp only
  rw [← hd.told.len, ← ho.len]
  split
  · exact .inl ⟨2, rfl, rfl⟩
  · have hr : at0 d'.th.rels (s.ev e).th = at0 d.th.rels e.th := by rw [ev_th]; exact (hd.th.rels.each e.th ht.1 ht.2).symm
    have hk := keep_R hs hin (tick := p.tk) (rel := at0 d.th.rels e.th) hd.told (if (accesses e).2.2 then bytes e.a e.n else []) _ _ hd.cells
    have htl := tell_R ho hk hd.told
    rw [hr, hp.tk]
    refine .inr ⟨_, _, o, o', rfl, rfl, ⟨perform_ev hs hd.th ht.1 ht.2 (plan_fork h1) hp, rfl, htl.1, htl.2⟩, ho⟩
theorem feeds_R (hs : s.Ok) : ∀ (l : List Ev) (d d' : Det) (out out' : List Race), (∀ e ∈ l, 0 ≤ e.a ∧ e.a < 4294967296) → DR s d d' → All2 (RaceR s) out out' →
    (∃ x, feeds l d out = .inr x ∧ feeds (l.map s.ev) d' out' = .inr x) ∨ ∃ o o', feeds l d out = .inl o ∧ feeds (l.map s.ev) d' out' = .inl o' ∧ All2 (RaceR s) o o'
  | [], _, _, out, out', _, _, h => .inr ⟨out, out', rfl, rfl, h⟩
  | e :: r, d, d', out, out', hl, hd, h => by
    simp only [List.map_cons]
    unfold feeds
    rcases feed_R hs hd (hl e (by simp)) with ⟨x, h1, h2⟩ | ⟨d1, d1', o, o', h1, h2, h3, h4⟩
    · rw [h1, h2]; exact .inl ⟨x, rfl, rfl⟩
    · rw [h1, h2]
      exact feeds_R hs r d1 d1' _ _ (fun e he => hl e (by simp [he])) h3 (All2.app h h4)
theorem runL_R (hs : s.Ok) : ∀ (l : List Ev) (i : Int) (T T' : Th) (h h' : Hist), (∀ e ∈ l, 0 ≤ e.a ∧ e.a < 4294967296) → TR s T T' → (runL l i T h = none ↔ runL (l.map s.ev) i T' h' = none)
  | [], _, _, _, _, _, _, _ => by simp [runL]
  | e :: r, i, T, T', h, h', hl, hT => by
    simp only [List.map_cons]
    unfold runL
    rcases plan_ev hs hT (hl e (by simp)) with ⟨h1, h2⟩ | ⟨p, p', h1, h2, hp⟩
    · rw [h1, h2]
    · rw [h1, h2]
      have ht := refused_th (plan_refused h1)
      exact runL_R hs r _ _ _ _ _ (fun e he => hl e (by simp [he])) (perform_ev hs hT ht.1 ht.2 (plan_fork h1) hp)
theorem begin_R : TR s begin' begin' → DR s det0 det0 := fun h => ⟨h, rfl, trivial, trivial⟩
theorem begin_TR (hs : s.Ok) : TR s begin' begin' := by
  have rep : ∀ {A : Type} (x d : A) (i : Nat), i < 8 → (List.replicate 8 x).getD i d = x := fun x d i hi => by
    rw [List.getD_eq_getElem?_getD, List.getElem?_replicate, if_pos hi]; rfl
  refine ⟨⟨rfl, rfl, fun t h0 h8 => ?_⟩, ⟨rfl, rfl, fun t h0 h8 => ?_⟩, ⟨rfl, rfl, fun t h0 h8 => ?_⟩, ⟨rfl, rfl, fun t h0 h8 => ?_⟩, trivial, trivial⟩
  · have ht := hs.rng t h0 h8
    show Ck s ((List.replicate 8 zeroC).getD _ _) ((List.replicate 8 zeroC).getD _ _)
    rw [rep _ _ _ (by omega), rep _ _ _ (by omega)]
    exact Ck.zero
  · have ht := hs.rng t h0 h8
    have hb : ∀ i, i < 8 → (true :: List.replicate 7 false).getD i false = decide (i = 0) := fun i hi => by
      cases i with
      | zero => rfl
      | succ j => simp only [List.getD_cons_succ]; rw [List.getD_eq_getElem?_getD, List.getElem?_replicate]; split <;> simp
    show (true :: List.replicate 7 false).getD _ _ = (true :: List.replicate 7 false).getD _ _
    rw [hb _ (by omega), hb _ (by omega)]
    have h00 : s.th t = 0 ↔ t = 0 := ⟨fun h => hs.inj _ _ (by rw [h, hs.zero]), fun h => by rw [h]; exact hs.zero⟩
    have : (s.th t).toNat = 0 ↔ t.toNat = 0 := by omega
    simp only [this]
  · have ht := hs.rng t h0 h8
    show (List.replicate 8 false).getD _ _ = (List.replicate 8 false).getD _ _
    rw [rep _ _ _ (by omega), rep _ _ _ (by omega)]
  · have ht := hs.rng t h0 h8
    show (List.replicate 8 (0 : Int)).getD _ _ = (List.replicate 8 (0 : Int)).getD _ _
    rw [rep _ _ _ (by omega), rep _ _ _ (by omega)]
theorem All2.race : ∀ {o o' : List Race}, All2 (RaceR s) o o' → o' = o.map s.race ∧ ∀ r ∈ o, RaceIn r
  | [], [], _ => ⟨rfl, by simp⟩
  | [], _ :: _, h => h.elim
  | _ :: _, [], h => h.elim
  | x :: r, x' :: r', h => by
    obtain ⟨⟨rfl, h1⟩, h2⟩ := h
    obtain ⟨rfl, h3⟩ := All2.race h2
    exact ⟨rfl, fun y hy => by
      rcases List.mem_cons.1 hy with rfl | hy
      · exact h1
      · exact h3 y hy⟩
/-- The races of events with other names. -/
theorem races_ev (hs : s.Ok) {l : List Ev} (hl : ∀ e ∈ l, 0 ≤ e.a ∧ e.a < 4294967296) :
    (∃ x, races l = .inr x ∧ races (l.map s.ev) = .inr x) ∨ ∃ a b, races l = .inl a ∧ races (l.map s.ev) = .inl b ∧ (∀ r ∈ a, RaceIn r) ∧ ((a.map s.race).map (·.byte)).Nodup ∧ ∀ q : List Race, q.Perm (a.map s.race) → (q.Pairwise fun x y => raceLe x y = true) → q = b := by
  have hT := begin_TR hs
  have hr := runL_R hs l 0 begin' begin' ⟨[], [], []⟩ ⟨[], [], []⟩ hl hT
  unfold races run
  simp only [List.length_map]
  by_cases hlen : l.length > 20000
  · rw [if_pos hlen, if_pos hlen]; exact .inl ⟨2, rfl, rfl⟩
  rw [if_neg hlen, if_neg hlen]
  cases h1 : runL l 0 begin' ⟨[], [], []⟩ with
  | none => rw [hr.1 h1]; exact .inl ⟨300, rfl, rfl⟩
  | some h =>
    cases h2 : runL (l.map s.ev) 0 begin' ⟨[], [], []⟩ with
    | none => rw [hr.2 h2] at h1; cases h1
    | some h' =>
      simp only
      rcases feeds_R hs l det0 det0 [] [] hl (begin_R hT) trivial with ⟨x, g1, g2⟩ | ⟨o, o', g1, g2, g3⟩
      · rw [g1, g2]; exact .inl ⟨x, rfl, rfl⟩
      · rw [g1, g2]
        obtain ⟨rfl, hin⟩ := g3.race
        have hn := feeds_nodup g2
        have hp : (o.mergeSort raceLe).Perm o := List.mergeSort_perm o raceLe
        refine .inr ⟨_, _, rfl, rfl, fun r hr => hin r (hp.mem_iff.1 hr), ?_, fun q hq hs => ?_⟩
        · exact ((hp.map s.race).map (·.byte)).nodup_iff.2 hn
        · exact sort_is hn (hq.trans (hp.map s.race)) hs
end Go.Fx.Mo
namespace Go.Fx.Mo
def thOf (nm : List Int) (a : Int) : Int := if 0 ≤ a ∧ a < 8 then nm.getD a.toNat 0 else a
def movedE (by' mu : Int) (th : Int → Int) (e : Ev) : Ev :=
  let e := { e with th := th e.th }
  if e.kind = 11 ∨ e.kind = 13 then { e with n := th e.n } else if e.kind = 14 ∨ e.kind = 15 then { e with a := w32 (e.a + mu) } else { e with a := w32 (e.a + by') }
end Go.Fx.Mo
namespace Go.Fx.Try
open Go Go.Fx Go.Fx.Mo
open Go.Proofs
variable {w0 w : World} {H : List (Nat × Obj)} {K : Value → World → Prop}
set_option maxRecDepth 20000
theorem nm_cell {nm : List Int} (hl : nm.length = 8) {a : Int} (h0 : 0 ≤ a) (h8 : a < 8) : (nm.map I64)[0 + a.toNat * 1]? = some (I64 (thOf nm a)) := by
  unfold thOf
  rw [if_pos ⟨h0, h8⟩, Nat.zero_add, Nat.mul_one, List.getElem?_map, List.getD_eq_getElem?_getD, List.getElem?_eq_getElem (by omega)]
  rfl
theorem thOf_out {nm : List Int} {a : Int} (h : ¬ (0 ≤ a ∧ a < 8)) : thOf nm a = a := if_neg h
theorem moved_ok (h : St w0 w H) (e : Ev) (by' mu : Int) {nm : List Int} (hl : nm.length = 8) (hK : ∀ w', St w0 w' H → K (.agg (Evcs (movedE by' mu (thOf nm) e)).toArray) w') : CallL P 19 [.agg (Evcs e).toArray, .int .u32 by', .int .u32 mu, .agg (nm.map I64).toArray] w K := by
  refine f19_ok _ _ _ _ _ _ ?_
  obtain ⟨ze, hze, hzel⟩ := z35
  rw [f19_eq, hze]
  refine h.newC fun n4 w1 hn4 h1 => h1.newC fun n6 w2 hn6 h2 => h2.newC fun n8 w3 hn8 h3 => ?_
  have h3 : St w0 w3 ((n8, Cs ze 35) :: (n6, Cs (nm.map I64) 40) :: (n4, Cs (Evcs e) 35) :: H) := h3
  have s4 : ∀ w4 x, St w0 w4 ((n8, Cs ze 35) :: (n6, Cs (nm.map I64) 40) :: (n4, Cs (Evcs x) 35) :: H) → x = movedE by' mu (thOf nm) e → f19_s4 (Addr.mk n8 0 none) (Addr.mk n4 0 none) w4 K := by
    intro w4 x h4 hx
    rw [f19_s4_eq]
    refine h4.ldA (k := 2) (i := 0) rfl (by simp [Evcs_len]) ?_
    refine h4.stA (k := 0) rfl (by simp [Evcs_len]) (by simp [hzel]) (Evcs_one _) fun w5 h5 => ?_
    have h5 : St w0 w5 ((n8, Cs (splice ze 0 (Evcs x)) 35) :: (n6, Cs (nm.map I64) 40) :: (n4, Cs (Evcs x) 35) :: H) := h5
    rw [splice_whole (by rw [Evcs_len, hzel])] at h5
    refine h5.ldA (k := 0) (i := 0) rfl (by simp [Evcs_len]) ?_
    subst hx
    exact hK w5 (((h5.tail hn8).tail hn6).tail hn4)
  have s1 : ∀ w4 x, St w0 w4 ((n8, Cs ze 35) :: (n6, Cs (nm.map I64) 40) :: (n4, Cs (Evcs x) 35) :: H) → x = { e with th := thOf nm e.th } → f19_s1 (Addr.mk n8 0 none) (Addr.mk n4 0 none) (Addr.mk n6 0 none) mu by' w4 K := by
    intro w4 x h4 hx
    have hm : movedE by' mu (thOf nm) e = if x.kind = 11 ∨ x.kind = 13 then { x with n := thOf nm x.n } else if x.kind = 14 ∨ x.kind = 15 then { x with a := w32 (x.a + mu) } else { x with a := w32 (x.a + by') } := by subst hx; rfl
    have s5 : ∀ b, (b = true ↔ x.kind = 14 ∨ x.kind = 15) → ¬ (x.kind = 11 ∨ x.kind = 13) → f19_s5 b (Addr.mk n8 0 none) (Addr.mk n4 0 none) mu by' w4 K := by
      intro b hb hn
      rw [if_neg hn] at hm
      rw [f19_s5_eq, BIf_iff]
      refine ⟨fun hbt => ⟨x.a, by rw [add_lit']; exact h4.cell (k := 2) rfl, ?_⟩, fun hbf => ⟨x.a, by rw [add_lit']; exact h4.cell (k := 2) rfl, ?_⟩⟩
      · rw [if_pos (hb.1 hbt)] at hm
        rw [add_lit']
        exact h4.st1 (k := 2) rfl (by simp [Evcs_len]) rfl fun w5 h5 => s4 w5 { x with a := w32 (x.a + mu) } h5 hm.symm
      · rw [if_neg (fun hh => by rw [hb.2 hh] at hbf; cases hbf)] at hm
        rw [add_lit']
        exact h4.st1 (k := 2) rfl (by simp [Evcs_len]) rfl fun w5 h5 => s4 w5 { x with a := w32 (x.a + by') } h5 hm.symm
    have s2 : ∀ b, (b = true ↔ x.kind = 11 ∨ x.kind = 13) → f19_s2 b (Addr.mk n8 0 none) (Addr.mk n4 0 none) (Addr.mk n6 0 none) mu by' x.kind w4 K := by
      intro b hb
      rw [f19_s2_eq, BIf_iff]
      refine ⟨fun hbt => ⟨x.n, by rw [add_lit']; exact h4.cell (k := 2) rfl, ?_⟩, fun hbf => ?_⟩
      · rw [if_pos (hb.1 hbt)] at hm
        have s3 : ∀ c, (c = true ↔ 0 ≤ x.n ∧ x.n < 8) → f19_s3 c (Addr.mk n8 0 none) (Addr.mk n4 0 none) (Addr.mk n6 0 none) w4 K := by
          intro c hc
          rw [f19_s3_eq, BIf_iff]
          refine ⟨fun hct => ?_, fun hcf => ?_⟩
          · have hin := hc.1 hct
            refine ⟨x.n, by rw [add_lit']; exact h4.cell (k := 2) rfl, hin.1, by omega, thOf nm x.n, by rw [add_lit', h4.cell (k := 1) rfl]; exact nm_cell hl hin.1 hin.2, ?_⟩
            rw [add_lit']
            exact h4.st1 (k := 2) rfl (by simp [Evcs_len]) rfl fun w5 h5 => s4 w5 { x with n := thOf nm x.n } h5 hm.symm
          · rw [thOf_out (fun hh => by rw [hc.2 hh] at hcf; cases hcf)] at hm
            exact s4 w4 x h4 hm.symm
        rw [BIf_iff]
        refine ⟨fun hx0 => ⟨x.n, by rw [add_lit']; exact h4.cell (k := 2) rfl, s3 _ ?_⟩, fun hx0 => s3 false ⟨fun hh => (by cases hh), fun hh => ?_⟩⟩
        · simp at hx0 ⊢; omega
        · simp at hx0; omega
      · have hn : ¬ (x.kind = 11 ∨ x.kind = 13) := fun hh => by rw [hb.2 hh] at hbf; cases hbf
        rw [BIf_iff]
        refine ⟨fun hk => s5 true ⟨fun _ => .inl (by simpa using hk), fun _ => rfl⟩ hn, fun hk => s5 _ ⟨fun hh => .inr (by simpa using hh), fun hh => ?_⟩ hn⟩
        simp at hk ⊢; omega
    rw [f19_s1_eq]
    refine ⟨x.kind, h4.cell (k := 2) rfl, ?_⟩
    rw [BIf_iff]
    refine ⟨fun hk => s2 true ⟨fun _ => .inl (by simpa using hk), fun _ => rfl⟩, fun hk => s2 _ ⟨fun hh => .inr (by simpa using hh), fun hh => ?_⟩⟩
    simp at hk ⊢; omega
  have s0 : ∀ c, (c = true ↔ 0 ≤ e.th ∧ e.th < 8) → f19_s0 c (Addr.mk n8 0 none) (Addr.mk n4 0 none) (Addr.mk n6 0 none) mu by' w3 K := by
    intro c hc
    rw [f19_s0_eq, BIf_iff]
    refine ⟨fun hct => ?_, fun hcf => ?_⟩
    · have hin := hc.1 hct
      refine ⟨e.th, by rw [add_lit']; exact h3.cell (k := 2) rfl, hin.1, by omega, thOf nm e.th, by rw [add_lit', h3.cell (k := 1) rfl]; exact nm_cell hl hin.1 hin.2, ?_⟩
      rw [add_lit']
      exact h3.st1 (k := 2) rfl (by simp [Evcs_len]) rfl fun w5 h5 => s1 w5 { e with th := thOf nm e.th } h5 rfl
    · exact s1 w3 e h3 (by rw [thOf_out (fun hh => by rw [hc.2 hh] at hcf; cases hcf)])
  refine ⟨e.th, by rw [add_lit']; exact h3.cell (k := 2) rfl, ?_⟩
  rw [BIf_iff]
  refine ⟨fun hx0 => ⟨e.th, by rw [add_lit']; exact h3.cell (k := 2) rfl, s0 _ ?_⟩, fun hx0 => s0 false ⟨fun hh => (by cases hh), fun hh => ?_⟩⟩
  · simp at hx0 ⊢; omega
  · simp at hx0; omega
end Go.Fx.Try
namespace Go.Fx.Mo
def initL (i : Nat) : List Int := (List.range 8).map fun k : Nat => if k < i then (k : Int) else 0
structure NmOk (nm : List Int) : Prop where
  len : nm.length = 8
  zero : nm.getD 0 0 = 0
  perm : nm.Perm (initL 8)
theorem nmOk_init : NmOk (initL 8) := ⟨rfl, rfl, List.Perm.refl _⟩
theorem nmOk_swap {nm : List Int} (h : NmOk nm) {a b : Nat} (ha : 1 ≤ a ∧ a < 8) (hb : 1 ≤ b ∧ b < 8) : NmOk ((nm.set a (nm.getD b 0)).set b (nm.getD a 0)) := by
  have hl := h.len
  refine ⟨by simp [hl], ?_, ?_⟩
  · have h0 := h.zero
    rw [List.getD_eq_getElem?_getD] at h0 ⊢
    rw [List.getElem?_set, if_neg (by omega), List.getElem?_set, if_neg (by omega)]
    exact h0
  · have e1 : nm.getD b 0 = nm[b]'(by omega) := by rw [List.getD_eq_getElem?_getD, List.getElem?_eq_getElem (by omega)]; rfl
    have e2 : nm.getD a 0 = nm[a]'(by omega) := by rw [List.getD_eq_getElem?_getD, List.getElem?_eq_getElem (by omega)]; rfl
    rw [e1, e2]
    exact (List.set_set_perm (by omega) (by omega)).trans h.perm
def nmS (nm : List Int) (words mu : Int) : Nm := ⟨thOf nm, words % 1073741824, mu % 4294967296⟩
theorem nmS_ok {nm : List Int} (h : NmOk nm) (words mu : Int) : (nmS nm words mu).Ok := by
  have hl := h.len
  have hnd : nm.Nodup := h.perm.nodup_iff.2 (by decide)
  have hin : ∀ a, 0 ≤ a → a < 8 → ∃ hh : a.toNat < nm.length, thOf nm a = nm[a.toNat] := fun a h0 h8 => by
    refine ⟨by omega, ?_⟩
    unfold thOf
    rw [if_pos ⟨h0, h8⟩, List.getD_eq_getElem?_getD, List.getElem?_eq_getElem (by omega)]; rfl
  have hr : ∀ a, 0 ≤ a → a < 8 → 0 ≤ thOf nm a ∧ thOf nm a < 8 := fun a h0 h8 => by
    obtain ⟨hh, e⟩ := hin a h0 h8
    rw [e]
    have hm : nm[a.toNat] ∈ initL 8 := h.perm.mem_iff.1 (List.getElem_mem hh)
    obtain ⟨k, hk, e2⟩ := List.mem_map.1 hm
    have hk := List.mem_range.1 hk
    rw [if_pos hk] at e2
    omega
  refine ⟨fun a b hab => ?_, hr, fun a ha => if_neg ha, ?_, ⟨Int.emod_nonneg _ (by omega), Int.emod_lt_of_pos _ (by omega)⟩, ⟨Int.emod_nonneg _ (by omega), Int.emod_lt_of_pos _ (by omega)⟩⟩
  · have hab : thOf nm a = thOf nm b := hab
    by_cases ha : 0 ≤ a ∧ a < 8
    · by_cases hb : 0 ≤ b ∧ b < 8
      · obtain ⟨h1, e1⟩ := hin a ha.1 ha.2
        obtain ⟨h2, e2⟩ := hin b hb.1 hb.2
        rw [e1, e2] at hab
        have := (List.getElem_inj hnd).1 hab
        omega
      · have := hr a ha.1 ha.2
        have e : thOf nm b = b := if_neg hb
        omega
    · have e : thOf nm a = a := if_neg ha
      by_cases hb : 0 ≤ b ∧ b < 8
      · have := hr b hb.1 hb.2; omega
      · have e2 : thOf nm b = b := if_neg hb
        omega
  · show thOf nm 0 = 0
    unfold thOf
    rw [if_pos (by omega)]
    exact h.zero
theorem moved_is {nm : List Int} (words mu : Int) (e : Ev) : movedE (w32 (4 * words)) mu (thOf nm) e = (nmS nm words mu).ev e := by
  unfold movedE Nm.ev nmS
  simp only [w32_mod]
  have e1 : (e.a + mu) % 4294967296 = (e.a + mu % 4294967296) % 4294967296 := by omega
  have e2 : (e.a + 4 * words % 4294967296) % 4294967296 = (e.a + 4 * (words % 1073741824)) % 4294967296 := by omega
  rw [e1, e2]
theorem at_is {nm : List Int} (words mu : Int) {b : Int} (hb : 0 ≤ b ∧ b < 4294967296) : (nmS nm words mu).at' b = w32 (b + w32 (4 * words)) := by
  unfold Nm.at' rot nmS
  simp only [w32_mod]
  rw [if_pos hb]
  omega
/-- A race on its way: its byte moved, its accesses' threads renamed, as far as it has come. -/
def stage (s : Nm) (j : Nat) (r : Race) : Race := ⟨if 0 < j then s.at' r.byte else r.byte, if 1 < j then s.acc r.first else r.first, if 2 < j then s.acc r.second else r.second⟩
theorem stage0 (s : Nm) (r : Race) : stage s 0 r = r := rfl
theorem stage3 (s : Nm) (r : Race) : stage s 3 r = s.race r := rfl
/-- A list of races of which the first i are renamed, and one as far as stage j. -/
def stages (s : Nm) (a : List Race) (i j : Nat) : List Race := (List.range a.length).map fun k => match a[k]? with
  | some r => if k < i then s.race r else if k = i then stage s j r else r
  | none => default
theorem stages_len (s : Nm) (a : List Race) (i j : Nat) : (stages s a i j).length = a.length := by simp [stages]
theorem stages_get (s : Nm) (a : List Race) (i j k : Nat) (hk : k < a.length) : (stages s a i j)[k]'(by rw [stages_len]; exact hk) = if k < i then s.race a[k] else if k = i then stage s j a[k] else a[k] := by
  simp [stages, List.getElem?_eq_getElem hk]
theorem stages_start (s : Nm) (a : List Race) : stages s a 0 0 = a := by
  apply List.ext_getElem (stages_len ..)
  intro k h1 h2
  rw [stages_get _ _ _ _ _ h2, if_neg (by omega)]
  split
  · rw [stage0]
  · rfl
theorem stages_next (s : Nm) (a : List Race) (i : Nat) : stages s a i 3 = stages s a (i + 1) 0 := by
  apply List.ext_getElem (by rw [stages_len, stages_len])
  intro k h1 h2
  have hk : k < a.length := by rw [stages_len] at h1; exact h1
  rw [stages_get _ _ _ _ _ hk, stages_get _ _ _ _ _ hk]
  by_cases h : k < i
  · rw [if_pos h, if_pos (by omega)]
  · by_cases h' : k = i
    · rw [if_neg h, if_pos h', if_pos (by omega), stage3]
    · rw [if_neg h, if_neg h', if_neg (by omega)]
      split
      · rw [stage0]
      · rfl
theorem stages_end (s : Nm) (a : List Race) : stages s a a.length 0 = a.map s.race := by
  apply List.ext_getElem (by rw [stages_len]; simp)
  intro k h1 h2
  have hk : k < a.length := by rw [stages_len] at h1; exact h1
  rw [stages_get _ _ _ _ _ hk, if_pos hk]
  simp
theorem stages_set (s : Nm) (a : List Race) (i j : Nat) (hi : i < a.length) : stages s a i (j + 1) = (stages s a i j).set i (stage s (j + 1) a[i]) := by
  apply List.ext_getElem (by rw [List.length_set, stages_len, stages_len])
  intro k h1 h2
  have hk : k < a.length := by rw [stages_len] at h1; exact h1
  rw [List.getElem_set, stages_get _ _ _ _ _ hk, stages_get _ _ _ _ _ hk]
  by_cases h : i = k
  · subst h
    rw [if_neg (by omega), if_pos rfl, if_pos rfl]
  · have h' : ¬ k = i := fun hh => h hh.symm
    rw [if_neg h, if_neg h', if_neg h']
end Go.Fx.Mo
namespace Go.Fx.Try
open Go Go.Fx Go.Fx.Mo
open Go.Proofs
variable {w0 w : World} {H : List (Nat × Obj)} {K : Value → World → Prop}
set_option maxRecDepth 20000
theorem z40 : zcells P 40 = ((initL 0).map I64).toArray := by kernel_rfl
theorem init_set {i : Nat} (hi : i < 8) : ((initL i).map I64).set (0 + (i : Int).toNat * 1) (I64 i) = (initL (i + 1)).map I64 := by
  match i, hi with
  | 0, _ | 1, _ | 2, _ | 3, _ | 4, _ | 5, _ | 6, _ | 7, _ => rfl
theorem flat_set : ∀ {l : List Mo.Race} {i k : Nat} {r : Mo.Race} {v : Value} (hi : i < l.length), k < 11 → (Racecs l[i]).set k v = Racecs r → (racesCs l).set (i * 11 + k) v = racesCs (l.set i r)
  | [], i, _, _, _, hi, _, _ => by simp at hi
  | x :: l, 0, k, r, v, _, hk, h => by
    have e1 : racesCs (x :: l) = Racecs x ++ racesCs l := rfl
    have e2 : racesCs ((x :: l).set 0 r) = Racecs r ++ racesCs l := rfl
    have h : (Racecs x).set k v = Racecs r := h
    rw [e1, e2, List.set_append_left _ _ (by rw [Racecs_len]; omega), show 0 * 11 + k = k by omega, h]
  | x :: l, i + 1, k, r, v, hi, hk, h => by
    have e1 : racesCs (x :: l) = Racecs x ++ racesCs l := rfl
    have e2 : racesCs ((x :: l).set (i + 1) r) = Racecs x ++ racesCs (l.set i r) := rfl
    have hi : i < l.length := by simpa using hi
    have h : (Racecs l[i]).set k v = Racecs r := h
    rw [e1, e2, List.set_append_right _ _ (by rw [Racecs_len]; omega), Racecs_len, show (i + 1) * 11 + k - 11 = i * 11 + k by omega, flat_set hi hk h]
/-- One cell of races stored. -/
theorem races_st1 {g cap : Nat} {l : List Mo.Race} {L A : List (Nat × Obj)} {i k : Nat} {r : Mo.Race} {v : Value} {Q : World → Prop} (h : St w0 w (A ++ (L ++ H))) (hS : SlO 11 47 (.slice (some ⟨g, 0, none⟩) l.length cap) l.length (racesCs l) L)
    (hi : i < l.length) (hk : k < 11) (hr : (Racecs l[i]).set k v = Racecs r) (hv : v.oneCell' = true)
    (hQ : ∀ w' L', SlO 11 47 (.slice (some ⟨g, 0, none⟩) (l.set i r).length cap) (l.set i r).length (racesCs (l.set i r)) L' → (New w0 L → New w0 L') → St w0 w' (A ++ (L' ++ H)) → Q w') : St1 (Addr.mk g (i * 11 + k) none) v w Q := by
  rcases hS.2 with ⟨h1, _⟩ | ⟨g', cap', cur, h1, rfl, h3, h4, h5, h6⟩
  · cases h1
  obtain ⟨rfl, rfl⟩ : g = g' ∧ cap = cap' := by simpa using h1
  have hin : i * 11 + k < cur.length := by rw [h5]; have : (i + 1) * 11 ≤ cap * 11 := Nat.mul_le_mul_right _ (by omega); omega
  refine h.st1 (k := A.length) (cs := cur) (t := 47) ?_ hin hv fun w' h' => ?_
  · rw [List.getElem?_append_right (by omega)]; simp
  · refine hQ w' [(g, Cs (cur.set (i * 11 + k) v) 47)] ?_ (fun hN => by simpa [New] using hN) ?_
    · refine ⟨by rw [racesCs_len], .inr ⟨g, cap, _, rfl, rfl, by rw [List.length_set]; exact h3, h4, by rw [List.length_set]; exact h5, ?_⟩⟩
      rw [List.length_set, List.take_set, h6]
      exact flat_set hi hk hr
    · rw [show A.length = A.length + 0 by omega, set_app] at h'
      exact h'
theorem races_cell {ov : Value} {l : List Mo.Race} {L : List (Nat × Obj)} (hS : SlO 11 47 ov l.length (racesCs l) L) (hL : ∀ x ∈ L, w.heap[x.1]? = some x.2) {i k : Nat} (hi : i < l.length) (hk : k < 11) :
    ∃ g c, ov = .slice (some ⟨g, 0, none⟩) l.length c ∧ w.cell? (Addr.mk g (i * 11 + k) none) = (Racecs l[i])[k]? := by
  rcases hS.2 with ⟨_, h2, _⟩ | ⟨g, cap, cur, h1, rfl, h3, h4, h5, h6⟩
  · omega
  refine ⟨g, cap, h1, ?_⟩
  rw [cell_of (hL (g, Cs cur 47) (by simp))]
  have hin : i * 11 + k < l.length * 11 := by have : (i + 1) * 11 ≤ l.length * 11 := Nat.mul_le_mul_right _ (by omega); omega
  have := flat_get (f := Racecs) (n := 11) (by omega) (l := l) (fun x _ => Racecs_len x) (i * 11 + k)
  have e1 : (i * 11 + k) / 11 = i := by omega
  have e2 : (i * 11 + k) % 11 = k := by omega
  rw [e1, e2, List.getElem?_eq_getElem hi] at this
  have h7 : (racesCs l)[i * 11 + k]? = (Racecs l[i])[k]? := this
  rw [← h7, ← h6, List.getElem?_take, if_pos hin]
theorem cmp22 (a b : Mo.Race) (hK : ∀ w', (∃ q os, w' = Go.Sort.grow (w.drewN q) os) → K (.int .i64 (cfR a b)) w') : CallL P 22 [.agg (Racecs a).toArray, .agg (Racecs b).toArray] w K := by
  refine f22_ok _ _ _ _ ?_
  have hc := cells_two w a b
  have hK' : ∀ C, K (.int .i64 (cfR a b)) ((((w.alloc (Cs (Racecs a) 47)).alloc (Cs (Racecs b) 47)).drew).alloc C) := fun C => hK _ ⟨1, _, cmp_world w _ _ C⟩
  have ht := cmp_tail (a := a) (b := b) (K := K) w hK'
  rw [f22_eq]
  simp only [f22_s0_eq]
  have a0 : (((w.alloc (Cs (Racecs a) 47)).alloc (Cs (Racecs b) 47)).drew).cell? (Addr.mk w.heap.size 0 none) = some (Value.int .u32 a.byte) := (hc 0).1
  have b0 : (((w.alloc (Cs (Racecs a) 47)).alloc (Cs (Racecs b) 47)).drew).cell? (Addr.mk (w.alloc (Cs (Racecs a) 47)).heap.size 0 none) = some (Value.int .u32 b.byte) := (hc 0).2
  exact ⟨a.second.ev, (hc 6).1, b.second.ev, (hc 6).2, cmp24 _ _ ⟨_, rfl, a.byte, a0, b.byte, b0, cmp25 _ _ ⟨_, rfl, ht⟩⟩,
    ⟨a.byte, a0, cmp24 _ _ ⟨_, rfl, b.byte, b0, cmp25 _ _ ⟨_, rfl, ht⟩⟩, b.byte, b0, cmp24 _ _ ⟨_, rfl, cmp25 _ _ ⟨_, rfl, ht⟩⟩⟩,
    b.byte, b0, cmp24 _ _ ⟨_, rfl, a.byte, a0, cmp25 _ _ ⟨_, rfl, ht⟩⟩, a.byte, a0, cmp24 _ _ ⟨_, rfl, cmp25 _ _ ⟨_, rfl, ht⟩⟩⟩
theorem sort22 : SortOk w0 22 := sort_g (enters_of Try.func22 (by kernel_rfl) rfl) fun a b {_ _} h => cmp22 a b h
/-- A list of events that grows by one of a block. -/
theorem evs_append1 {A L X : List (Nat × Obj)} {ov : Value} {out : List Ev} (h : St w0 w (A ++ (L ++ X))) (hL : SlO 6 35 ov out.length (evsCs out) L) (hLn : New w0 L) {j nb : Nat} {e : Ev} {t2 : TypeId} (hj : A[j]? = some (nb, Cs (evsCs [e]) t2)) (hlen : out.length < 1000000000) :
    ∃ g cap w' L', (Builtin.append_ #[22, 22] 22 [ov, .slice (some ⟨nb, 0, none⟩) 1 1].toArray).run P w = .ok (.slice (some ⟨g, 0, none⟩) (out ++ [e]).length cap) w' ∧
      SlO 6 35 (.slice (some ⟨g, 0, none⟩) (out ++ [e]).length cap) (out ++ [e]).length (evsCs (out ++ [e])) L' ∧ St w0 w' (A ++ (L' ++ X)) ∧ New w0 L' := by
  have e1 : evsCs [e] = Evcs e := by simp [evsCs]
  have e2 : evsCs (out ++ [e]) = evsCs out ++ Evcs e := by simp [evsCs]
  rw [e1] at hj
  rw [List.length_append, List.length_singleton, e2]
  exact St.append (P := P) 22 22 35 Try.t35 (.agg #[I64 0, I64 0, .int .u32 0, .int .u32 0, .int .u32 0, I64 0]) 6 40 Try.underlying22 (by kernel_rfl) rfl rfl rfl rfl (by omega) h hL hLn hj (Evcs_len e) (fun u hu => Evcs_one e u (by simpa using hu)) (by simp [maxLen]; omega) (by omega)
theorem bsN (w : World) : (Instr.buildSlice 22 0 ([] : List (Nat × Value)).toArray).run P w = .ok (.slice (some ⟨w.heap.size, 0, none⟩) 0 0) (w.alloc (.cells #[] 35 (0, 0))) := by kernel_rfl
theorem St.emptyN (h : St w0 w H) : SlO 6 35 (.slice (some ⟨w.heap.size, 0, none⟩) 0 0) 0 [] [(w.heap.size, Cs [] 35)] ∧ New w0 [(w.heap.size, Cs [] 35)] ∧ St w0 (w.alloc (.cells #[] 35 (0, 0))) ([(w.heap.size, Cs [] 35)] ++ H) :=
  ⟨⟨rfl, .inr ⟨_, 0, [], rfl, rfl, by omega, by simp [maxLen], rfl, rfl⟩⟩, by simpa [New] using h.le, h.alloc (.cells #[] 35 (0, 0))⟩
end Go.Fx.Try
namespace Go.Fx.Try
open Go Go.Fx Go.Fx.Mo
open Go.Proofs
variable {w0 w : World} {H : List (Nat × Obj)} {K : Value → World → Prop}
set_option maxRecDepth 20000
theorem run_len_49 {p : Option Addr} {l c : Nat} (wq : World) : (Builtin.len_ #[49] 3 [Value.slice p l c].toArray).run P wq = .ok (.int .i64 l) wq := run_len_slice p l c Try.underlying49 3
abbrev accPtr (g i off : Nat) : Value := .pointer (some (Addr.mk g (i * 11 + off) none))
abbrev namesE (sb : Option Addr) (bn bc g n cap nb : Nat) (by' : Int) (i : Nat) : Env := Env.mk 176 [(9, (Value.bool true)), (22, (Value.slice sb bn bc)), (20, (Value.slice (some (Addr.mk g 0 none)) n cap)), (119, (Value.int .i64 i)), (10, (Value.pointer (some (Addr.mk nb 0 none)))), (8, (Value.bool false)), (16, (Value.int .u32 by')), (118, (Value.int .i64 n))] []
def NInv (s : Nm) (a : List Mo.Race) (i : Nat) (w0 : World) (X : List (Nat × Obj)) (sb : Option Addr) (bn bc g cap nb pb : Nat) (by' : Int) (m : Nat) (ee : Env) (w : World) : Prop :=
  ∃ (j : Nat) (La : List (Nat × Obj)), j ≤ 2 ∧ m = 2 - j ∧ ee = Env.mk 176 [(9, (Value.bool true)), (22, (Value.slice sb bn bc)), (20, (Value.slice (some (Addr.mk g 0 none)) a.length cap)), (10, (Value.pointer (some (Addr.mk nb 0 none)))), (16, (Value.int .u32 by')), (118, (Value.int .i64 a.length)), (119, (Value.int .i64 i)), (141, (Value.int .i64 j)), (139, (Value.slice (some (Addr.mk pb 0 none)) 2 2)), (8, (Value.bool false)), (140, (Value.int .i64 2))] [] ∧
    SlO 11 47 (.slice (some ⟨g, 0, none⟩) a.length cap) a.length (racesCs (stages s a i (j + 1))) La ∧ New w0 La ∧ St w0 w ((pb, Cs [accPtr g i 1, accPtr g i 6] 48) :: (La ++ X))
theorem names_race {s : Nm} {nm : List Int} (hnm : nm.length = 8) (hth : s.th = thOf nm) {by' : Int} (hat : ∀ b, 0 ≤ b ∧ b < 4294967296 → s.at' b = w32 (b + by')) {a : List Mo.Race} (hin : ∀ r ∈ a, RaceIn r) (hal : a.length < 2000000000) {i : Nat} (hi : i < a.length) {sb : Option Addr} {bn bc g cap nb : Nat} {La X : List (Nat × Obj)} {Y33 : Env → World → Prop}
    (hnb : (nb, Cs (nm.map I64) 40) ∈ X) (h : St w0 w (La ++ X)) (hS : SlO 11 47 (.slice (some ⟨g, 0, none⟩) a.length cap) a.length (racesCs (stages s a i 0)) La) (hN : New w0 La)
    (hK : ∀ w' La', SlO 11 47 (.slice (some ⟨g, 0, none⟩) a.length cap) a.length (racesCs (stages s a (i + 1) 0)) La' → New w0 La' → St w0 w' (La' ++ X) → Y33 (namesE sb bn bc g a.length cap nb by' (i + 1)) w') :
    f5_s36 i i true sb bn bc (some (Addr.mk g 0 none)) a.length cap (Addr.mk nb 0 none) by' a.length i false w K Y33 := by
  have hr := hin a[i] (List.getElem_mem hi)
  have get : ∀ j, (stages s a i j)[i]'(by rw [stages_len]; exact hi) = stage s j a[i] := fun j => by rw [stages_get _ _ _ _ _ hi, if_neg (by omega), if_pos rfl]
  rw [f5_s36_eq]
  have hc : ∀ {w' : World} {j : Nat} {La' : List (Nat × Obj)}, SlO 11 47 (.slice (some ⟨g, 0, none⟩) a.length cap) a.length (racesCs (stages s a i j)) La' → (∀ x ∈ La', w'.heap[x.1]? = some x.2) → ∀ k, k < 11 → w'.cell? (Addr.mk g (i * 11 + k) none) = (Racecs (stage s j a[i]))[k]? := by
    intro w' j La' hS' hL' k hk
    obtain ⟨g', c', e1, e2⟩ := races_cell (w := w') (l := stages s a i j) (by rw [stages_len]; exact hS') hL' (i := i) (by rw [stages_len]; exact hi) hk
    obtain ⟨rfl, _⟩ : g = g' ∧ True := by simp at e1; exact ⟨e1.1, trivial⟩
    rw [e2, get]
  have st : ∀ {w' : World} {j : Nat} {La' A : List (Nat × Obj)} {k : Nat} {v : Value} {Q : World → Prop}, St w0 w' (A ++ (La' ++ X)) → SlO 11 47 (.slice (some ⟨g, 0, none⟩) a.length cap) a.length (racesCs (stages s a i j)) La' → New w0 La' → k < 11 → (Racecs (stage s j a[i])).set k v = Racecs (stage s (j + 1) a[i]) → v.oneCell' = true →
      (∀ w'' L', SlO 11 47 (.slice (some ⟨g, 0, none⟩) a.length cap) a.length (racesCs (stages s a i (j + 1))) L' → New w0 L' → St w0 w'' (A ++ (L' ++ X)) → Q w'') → St1 (Addr.mk g (i * 11 + k) none) v w' Q := by
    intro w' j La' A k v Q h' hS' hN' hk hset hv hQ
    refine races_st1 (l := stages s a i j) (i := i) (r := stage s (j + 1) a[i]) h' (by rw [stages_len]; exact hS') (by rw [stages_len]; exact hi) hk (by rw [get]; exact hset) hv fun w'' L' k1 k2 k3 => hQ w'' L' ?_ (k2 hN') k3
    rw [← stages_set s a i j hi, stages_len] at k1
    exact k1
  have hasL : ∀ {w' : World} {La' A : List (Nat × Obj)}, St w0 w' (A ++ (La' ++ X)) → ∀ x ∈ La', w'.heap[x.1]? = some x.2 := fun h' x hx => h'.has _ _ (by simp [hx])
  have ea : (Addr.mk g 0 none).add (Int.toNat (i : Int) * 11) = Addr.mk g (i * 11) none := by rw [add_lit', Int.toNat_natCast, Nat.zero_add]
  refine ⟨by omega, by omega, a[i].byte, by rw [ea]; exact hc hS (hasL (A := []) h) 0 (by omega), by omega, by omega, ?_⟩
  rw [ea]
  refine st (A := []) (k := 0) h hS hN (by omega) ?_ rfl fun w1 L1 hS1 hN1 h1 => ?_
  · rw [stage0]
    show _ = Racecs ⟨s.at' a[i].byte, a[i].first, a[i].second⟩
    rw [hat _ hr.byte]; rfl
  have h1 : St w0 w1 (L1 ++ X) := h1
  rw [f5_s37_eq]
  refine ⟨by omega, by omega, by omega, by omega, ⟨rfl, rfl, trivial⟩, h1.drew.newC fun pb w2 hpb h2 => ⟨2, fun wq _ => run_len_49 wq, ?_⟩⟩
  have h2 : St w0 w2 ((pb, Cs [.pointer (some (((Addr.mk g 0 none).add (Int.toNat (i : Int) * 11)).add 1)), .pointer (some (((Addr.mk g 0 none).add (Int.toNat (i : Int) * 11)).add 6))] 48) :: (L1 ++ X)) := h2
  rw [ea, add_lit', add_lit'] at h2
  rw [f5_s38_eq]
  refine ⟨NInv s a i w0 X sb bn bc g cap nb pb by', ⟨2, 0, L1, by omega, rfl, rfl, hS1, hN1, h2⟩, ?_⟩
  rintro m ee w3 ⟨j, Lj, hj, rfl, rfl, hSj, hNj, h3⟩
  show f5_lb39 _ _ _ _ _ _ _ _ _ _ _ _ _ _ _ _ _ _ _ _ _
  rw [f5_lb39_eq, f5_s40_eq, BIf_iff]
  constructor
  · intro hlt
    have hlt : j < 2 := by simp at hlt; omega
    have step : ∀ (off : Nat) (x : Mo.Acc), ([accPtr g i 1, accPtr g i 6] : List Value)[j]? = some (accPtr g i off) → off + 1 < 11 → (Racecs (stage s (j + 1) a[i]))[off + 1]? = some (I64 x.th) → AccIn x → (Racecs (stage s (j + 1) a[i])).set (off + 1) (I64 (s.th x.th)) = Racecs (stage s (j + 2) a[i]) →
        f5_s41 true sb bn bc (some (Addr.mk g 0 none)) a.length cap (Addr.mk nb 0 none) by' a.length i (some (Addr.mk pb 0 none)) 2 2 2 j false w3 K Y33 (fun e' w' => ∃ m, m < 2 - j ∧ NInv s a i w0 X sb bn bc g cap nb pb by' m e' w') := by
      intro off x hp hoff hcell hx hset
      have cth : w3.cell? ((Addr.mk g (i * 11 + off) none).add 1) = some (I64 x.th) := by
        rw [add_lit', Nat.add_assoc, hc hSj (hasL (A := [(pb, Cs [accPtr g i 1, accPtr g i 6] 48)]) h3) (off + 1) hoff]
        exact hcell
      rw [f5_s41_eq]
      refine ⟨by omega, by omega, some (Addr.mk g (i * 11 + off) none), ?_, x.th, cth, ?_⟩
      · rw [add_lit', h3.cell (k := 0) rfl, show 0 + Int.toNat (j : Int) * 1 = j by omega]
        exact hp
      · rw [BIf_iff]
        have hx0 := hx.1
        have hx8 := hx.2
        refine ⟨fun hneg => (by simp at hneg; omega), fun _ => ⟨x.th, cth, ?_⟩⟩
        rw [f5_s42_eq, show decide (x.th ≥ 8) = false by simp; omega, BIf_false, f5_s43_eq]
        refine ⟨x.th, cth, hx0, by omega, s.th x.th, ?_, ?_⟩
        · rw [add_lit', cell_of (h3.has nb (Cs (nm.map I64) 40) (by simp [hnb])), hth]
          exact nm_cell hnm hx0 hx8
        · show St1 ((Addr.mk g (i * 11 + off) none).add 1) _ _ _
          rw [add_lit', Nat.add_assoc]
          refine st (A := [(pb, Cs [accPtr g i 1, accPtr g i 6] 48)]) h3 hSj hNj hoff hset rfl fun w4 L4 hS4 hN4 h4 => ?_
          rw [f5_s44_eq]
          refine ⟨2 - (j + 1), by omega, j + 1, L4, by omega, rfl, ?_, hS4, hN4, h4⟩
          rw [wrap_i64 (by omega) (by omega)]; rfl
    have hj2 : j = 0 ∨ j = 1 := by omega
    rcases hj2 with rfl | rfl
    · exact step 1 a[i].first rfl (by omega) rfl hr.first rfl
    · exact step 6 a[i].second rfl (by omega) rfl hr.second rfl
  · intro hge
    have : j = 2 := by simp at hge; omega
    subst this
    rw [stages_next] at hSj
    rw [f5_s45_eq]
    have e : (Value.int .i64 (IntKind.wrap .i64 ((i : Int) + 1))) = Value.int .i64 ((i + 1 : Nat) : Int) := by rw [wrap_i64 (by omega) (by omega)]; rfl
    rw [e]
    exact hK w3 Lj hSj hNj (h3.tail hpb)
end Go.Fx.Try
namespace Go.Fx.Try
open Go Go.Fx Go.Fx.Mo
open Go.Proofs
variable {w0 w : World} {H : List (Nat × Obj)} {K : Value → World → Prop}
set_option maxRecDepth 20000
theorem idxA (i : Nat) (hi : i ≤ 20) : ∃ a : Nat, 1 ≤ a ∧ a < 8 ∧ IntKind.wrap .i64 ((1 : Int) + (((i : Nat) : Int).tmod 7)) = (a : Int) := by
  refine ⟨1 + i % 7, by omega, by omega, ?_⟩
  rw [Int.tmod_eq_emod_of_nonneg (by omega), wrap_i64 (by omega) (by omega)]
  omega
theorem idxB (x : Int) : ∃ b : Nat, 1 ≤ b ∧ b < 8 ∧ IntKind.wrap .i64 ((1 : Int) + (IntKind.wrap .i64 ((IntKind.wrap .u64 x).tmod 7))) = (b : Int) := by
  have h0 : 0 ≤ IntKind.wrap .u64 x := by
    simp only [IntKind.wrap, IntKind.bits, IntKind.signed]
    simp
    omega
  generalize IntKind.wrap .u64 x = y at h0
  refine ⟨1 + (y % 7).toNat, by omega, by omega, ?_⟩
  rw [Int.tmod_eq_emod_of_nonneg h0, wrap_i64 (x := y % 7) (by omega) (by omega), wrap_i64 (by omega) (by omega)]
  omega
theorem swap_cells (nm : List Int) (a b : Nat) : (((nm.map I64).set (0 + ((a : Nat) : Int).toNat * 1) (I64 (nm.getD b 0))).set (0 + ((b : Nat) : Int).toNat * 1) (I64 (nm.getD a 0))) = ((nm.set a (nm.getD b 0)).set b (nm.getD a 0)).map I64 := by
  rw [List.map_set, List.map_set, show 0 + ((a : Nat) : Int).toNat * 1 = a by omega, show 0 + ((b : Nat) : Int).toNat * 1 = b by omega]
theorem nm_at {nm : List Int} (hl : nm.length = 8) {a : Nat} (h8 : a < 8) : (nm.map I64)[0 + ((a : Nat) : Int).toNat * 1]? = some (I64 (nm.getD a 0)) := by
  rw [show 0 + ((a : Nat) : Int).toNat * 1 = a by omega, List.getElem?_map, List.getD_eq_getElem?_getD, List.getElem?_eq_getElem (by omega)]
  rfl
def PInv (w0 : World) (H : List (Nat × Obj)) (nb : Nat) (sa : Option Addr) (n sc : Nat) (words mu : Int) (va : Option Addr) (vn vc : Nat) (m : Nat) (ee : Env) (w : World) : Prop :=
  ∃ i : Nat, i ≤ 8 ∧ m = 8 - i ∧ ee = Env.mk 176 [(42, (Value.int .i64 i)), (10, (Value.pointer (some (Addr.mk nb 0 none)))), (8, (Value.bool false)), (2, (Value.int .u32 mu)), (9, (Value.bool true)), (0, (Value.slice sa n sc)), (1, (Value.int .u32 words)), (3, (Value.slice va vn vc))] [] ∧ St w0 w ((nb, Cs ((initL i).map I64) 40) :: H)
def QInv (w0 : World) (H : List (Nat × Obj)) (nb : Nat) (sa : Option Addr) (n sc : Nat) (words mu : Int) (va : Option Addr) (vn vc : Nat) (m : Nat) (ee : Env) (w : World) : Prop :=
  ∃ (i : Nat) (nm : List Int), i ≤ vn ∧ m = vn - i ∧ ee = Env.mk 176 [(51, (Value.int .i64 i)), (10, (Value.pointer (some (Addr.mk nb 0 none)))), (49, (Value.slice va vn vc)), (8, (Value.bool false)), (2, (Value.int .u32 mu)), (9, (Value.bool true)), (0, (Value.slice sa n sc)), (1, (Value.int .u32 words)), (50, (Value.int .i64 vn))] [] ∧ NmOk nm ∧ St w0 w ((nb, Cs (nm.map I64) 40) :: H)
def RInv (w0 : World) (H : List (Nat × Obj)) (nb : Nat) (l : List Ev) (f : Ev → Ev) (nm : List Int) (sa : Option Addr) (sc : Nat) (by' mu : Int) (m : Nat) (ee : Env) (w : World) : Prop :=
  ∃ (i : Nat) (oa : Option Addr) (oc : Nat) (Lo : List (Nat × Obj)), i ≤ l.length ∧ m = l.length - i ∧ ee = Env.mk 176 [(80, (Value.int .i64 i)), (10, (Value.pointer (some (Addr.mk nb 0 none)))), (2, (Value.int .u32 mu)), (16, (Value.int .u32 by')), (17, (Value.slice oa ((l.take i).map f).length oc)), (78, (Value.slice sa l.length sc)), (8, (Value.bool false)), (9, (Value.bool true)), (0, (Value.slice sa l.length sc)), (79, (Value.int .i64 l.length))] [] ∧
    SlO 6 35 (.slice oa ((l.take i).map f).length oc) ((l.take i).map f).length (evsCs ((l.take i).map f)) Lo ∧ New w0 Lo ∧ St w0 w (Lo ++ ((nb, Cs (nm.map I64) 40) :: H))
/-- Behind both calls of Races. -/
theorem names_s30 {words mu : Int} {nm : List Int} (hnm : NmOk nm) {nb : Nat} {X La Lb : List (Nat × Obj)} {a b : List Mo.Race} {aa ba : Option Addr} {ac bc : Nat} (hnb : (nb, Cs (nm.map I64) 40) ∈ X) (hX : ∀ w', St w0 w' X → St w0 w' H)
    (h : St w0 w (La ++ (Lb ++ X))) (hSa : SlO 11 47 (.slice aa a.length ac) a.length (racesCs a) La) (hNa : New w0 La) (hSb : SlO 11 47 (.slice ba b.length bc) b.length (racesCs b) Lb) (hNb : New w0 Lb) (hal : a.length < 2000000000)
    (hin : ∀ r ∈ a, RaceIn r) (hnd : ((a.map (nmS nm words mu).race).map (·.byte)).Nodup) (hb : ∀ q : List Mo.Race, q.Perm (a.map (nmS nm words mu).race) → (q.Pairwise fun x y => raceLe x y = true) → q = b)
    (hK : ∀ w', St w0 w' H → K (.bool true) w') : f5_s30 true ba b.length bc (Addr.mk nb 0 none) false (w32 (4 * words)) aa a.length ac w K := by
  have hs := nmS_ok hnm words mu
  have hlen : b.length = a.length := by
    have hp := List.mergeSort_perm (a.map (nmS nm words mu).race) raceLe
    have := hb _ hp (List.pairwise_mergeSort raceLe_trans raceLe_total _)
    rw [← this, hp.length_eq, List.length_map]
  rw [f5_s30_eq]
  refine clone25_ok h hSa hNa hal fun ca cc Lc w1 hSc hNc h1 => ⟨ca, a.length, cc, rfl, ?_⟩
  rw [f5_s31_eq]
  refine ⟨a.length, fun wq _ => run_len_25 wq, ?_⟩
  rw [f5_s32_eq]
  have h1 : St w0 w1 (Lc ++ (Lb ++ X)) := h1
  have fin : ∀ w2 Lc', SlO 11 47 (.slice ca a.length cc) a.length (racesCs (a.map (nmS nm words mu).race)) Lc' → New w0 Lc' → St w0 w2 (Lc' ++ (Lb ++ X)) → f5_s46 true ba b.length bc ca a.length cc w2 K := by
    intro w2 Lc' k1 k2 k3
    rw [f5_s46_eq]
    have el : (a.map (nmS nm words mu).race).length = a.length := by simp
    refine sort22 (out := a.map (nmS nm words mu).race) k3 (by rw [el]; exact k1) hnd (by rw [el]; exact hal) fun w3 Ld j1 j2 j3 => ⟨rfl, ?_⟩
    have hq := hb _ (List.mergeSort_perm (a.map (nmS nm words mu).race) raceLe) (List.pairwise_mergeSort raceLe_trans raceLe_total _)
    rw [hq, el, ← hlen] at j1
    rw [← hlen]
    refine same_ok (l := b) j3 (fun w' h' => j1.row fun y hy => h'.has _ _ (by simp [hy])) (fun w' h' => hSb.row fun y hy => h'.has _ _ (by simp [hy])) (by omega) fun w4 h4 => ⟨true, rfl, ?_⟩
    rw [BIf_true, f5_s47_eq]
    exact hK w4 (hX w4 ((h4.sub (j2 k2)).sub hNb))
  rcases hSc.2 with ⟨e1, e2, e3⟩ | ⟨g, cap, cur, e1, _⟩
  · -- no race
    have ha : a = [] := List.eq_nil_of_length_eq_zero e2
    subst ha
    refine ⟨fun m ee w => ∃ (_ : m = 0), ee = Env.mk 176 [(9, (Value.bool true)), (22, (Value.slice ba b.length bc)), (20, (Value.slice ca 0 cc)), (119, (Value.int .i64 0)), (10, (Value.pointer (some (Addr.mk nb 0 none)))), (8, (Value.bool false)), (16, (Value.int .u32 (w32 (4 * words)))), (118, (Value.int .i64 0))] [] ∧ St w0 w (Lc ++ (Lb ++ X)), ⟨0, rfl, rfl, h1⟩, ?_⟩
    rintro m ee w2 ⟨rfl, rfl, h2⟩
    show f5_lb33 _ _ _ _ _ _ _ _ _ _ _ _ _ _ _
    rw [f5_lb33_eq, f5_s34_eq, show decide ((0 : Int) < 0) = false by decide, BIf_false]
    exact fin w2 Lc hSc hNc h2
  · obtain ⟨rfl, rfl⟩ : ca = some ⟨g, 0, none⟩ ∧ cc = cap := by simpa using e1
    refine ⟨fun m ee w => ∃ (i : Nat) (Li : List (Nat × Obj)), i ≤ a.length ∧ m = a.length - i ∧ ee = namesE ba b.length bc g a.length cc nb (w32 (4 * words)) i ∧ SlO 11 47 (.slice (some ⟨g, 0, none⟩) a.length cc) a.length (racesCs (stages (nmS nm words mu) a i 0)) Li ∧ New w0 Li ∧ St w0 w (Li ++ (Lb ++ X)),
      ⟨a.length, 0, Lc, by omega, rfl, rfl, by rw [stages_start]; exact hSc, hNc, h1⟩, ?_⟩
    rintro m ee w2 ⟨i, Li, hi, rfl, rfl, hSi, hNi, h2⟩
    show f5_lb33 _ _ _ _ _ _ _ _ _ _ _ _ _ _ _
    rw [f5_lb33_eq, f5_s34_eq, BIf_iff]
    constructor
    · intro hlt
      have hlt : i < a.length := by simpa using hlt
      rw [f5_s35_eq]
      exact names_race hnm.len rfl (fun x hx => at_is words mu hx) hin hal hlt (X := Lb ++ X) (by simp [hnb]) h2 hSi hNi fun w3 Lj k1 k2 k3 => ⟨a.length - (i + 1), by omega, i + 1, Lj, by omega, rfl, rfl, k1, k2, k3⟩
    · intro hge
      have : i = a.length := by simp at hge; omega
      subst this
      rw [stages_end] at hSi
      exact fin w2 Li hSi hNi h2
theorem names_s17 {l : List Ev} {sa : Option Addr} {sc : Nat} {words mu : Int} {nm : List Int} (hnm : NmOk nm) {nb : Nat} (hnb : w0.heap.size ≤ nb) (hl : l.length ≤ 200) (hla : ∀ e ∈ l, 0 ≤ e.a ∧ e.a < 4294967296) (h : St w0 w ((nb, Cs (nm.map I64) 40) :: H))
    (hrow : ∀ w', St w0 w' H → Row w' 6 (.slice sa l.length sc) l.length (evsCs l)) (hK : ∀ w', St w0 w' H → K (.bool true) w') : f5_s17 (Addr.mk nb 0 none) mu false true sa l.length sc words w K := by
  have hs := nmS_ok hnm words mu
  rw [f5_s17_eq, f5_s18_eq]
  obtain ⟨hS0, hN0, h2⟩ := St.emptyN h
  refine ⟨_, _, _, _, bsN w, ?_⟩
  rw [f5_s19_eq]
  refine ⟨l.length, fun wq _ => run_len_22 wq, ?_⟩
  rw [f5_s20_eq]
  refine ⟨RInv w0 H nb l (nmS nm words mu).ev nm sa sc (w32 (4 * words)) mu, ⟨l.length, 0, _, _, _, by omega, rfl, rfl, hS0, hN0, h2⟩, ?_⟩
  rintro m ee w3 ⟨i, oa, oc, Lo, hi, rfl, rfl, hS, hN, h3⟩
  show f5_lb21 _ _ _ _ _ _ _ _ _ _ _ _ _ _ _ _ _ _ _
  rw [f5_lb21_eq, f5_s22_eq, BIf_iff]
  constructor
  · intro hlt
    have hlt : i < l.length := by simpa using hlt
    rw [f5_s23_eq]
    obtain ⟨a, c, hac, hld⟩ := (hrow w3 ((h3.sub hN).tail hnb)).ldA hlt
    obtain ⟨hsa, -⟩ : sa = some a ∧ sc = c := by simpa using hac
    subst hsa
    refine ⟨by omega, by omega, hld _ ?_⟩
    rw [evs_at hlt]
    obtain ⟨ze, hze, hzel⟩ := z35
    rw [hze]
    refine h3.newC fun n5 w5 hn5 h5 => h5.stA (k := 0) rfl (by simp [Evcs_len]) (by simp [hzel]) (Evcs_one _) fun w6 h6 => ?_
    have h6 : St w0 w6 ((n5, Cs (splice ze 0 (Evcs l[i])) 35) :: (Lo ++ ((nb, Cs (nm.map I64) 40) :: H))) := h6
    rw [splice_whole (by rw [Evcs_len, hzel])] at h6
    refine h6.ldA (k := 0) (i := 0) rfl (by simp [Evcs_len]) ?_
    have hnbm : w6.heap[nb]? = some (Cs (nm.map I64) 40) := h6.has _ _ (by simp)
    refine LdA_of hnbm (by simp [hnm.len]) ?_
    have e8 : ((nm.map I64).drop 0).take 8 = nm.map I64 := by rw [List.drop_zero, List.take_of_length_le (by simp [hnm.len])]
    rw [e8]
    refine moved_ok h6 l[i] (w32 (4 * words)) mu hnm.len fun w7 h7 => ⟨_, rfl, ?_⟩
    rw [moved_is]
    refine lay_evs [(nmS nm words mu).ev l[i]] h7 fun n8 w8 hn8 h8 => ?_
    have h8 : St w0 w8 ([(n8, Cs (evsCs [(nmS nm words mu).ev l[i]]) 35), (n5, Cs (Evcs l[i]) 35)] ++ (Lo ++ ((nb, Cs (nm.map I64) 40) :: H))) := h8
    have hll : ((l.take i).map (nmS nm words mu).ev).length ≤ 200 := by simp; omega
    obtain ⟨g, cap, w9, Lo', hr, hS', h9, hN'⟩ := evs_append1 (A := [(n8, Cs (evsCs [(nmS nm words mu).ev l[i]]) 35), (n5, Cs (Evcs l[i]) 35)]) h8 hS hN (j := 0) rfl (by omega)
    refine ⟨_, _, _, w9, hr, ?_⟩
    rw [f5_s24_eq]
    have e : (l.take i).map (nmS nm words mu).ev ++ [(nmS nm words mu).ev l[i]] = (l.take (i + 1)).map (nmS nm words mu).ev := by
      rw [List.take_add_one, List.getElem?_eq_getElem hlt, List.map_append]; rfl
    rw [e] at hS' ⊢
    refine ⟨l.length - (i + 1), by omega, i + 1, _, cap, Lo', by omega, rfl, ?_, hS', hN', (h9.tail hn8).tail hn5⟩
    rw [wrap_i64 (by omega) (by omega)]; rfl
  · intro hge
    have : i = l.length := by simp at hge; omega
    subst this
    rw [List.take_length] at hS
    rw [f5_s25_eq, List.take_length]
    have hX : ∀ w', St w0 w' (Lo ++ ((nb, Cs (nm.map I64) 40) :: H)) → St w0 w' H := fun w' h' => (h'.sub hN).tail hnb
    have hev := races_ev hs hla
    have hll : (l.map (nmS nm words mu).ev).length = l.length := by simp
    refine races_ok sort48 h3 (l := l) (fun w' h' => hrow w' (hX w' h')) (by omega) (fun x hx hx0 w4 h4 => ⟨none, 0, 0, x, rfl, ?_⟩) (fun out hx hlen w4 rv La hSa hNa h4 => ?_)
    · rw [f5_s26_eq]
      refine races_ok sort48 h4 (l := l.map (nmS nm words mu).ev) (fun w' h' => hS.row fun y hy => h'.has _ _ (by simp [hy])) (by omega) (fun y hy hy0 w5 h5 => ⟨none, 0, 0, y, rfl, ?_⟩) (fun out hy hlen w5 rv Lb hSb hNb h5 => ?_)
      · rcases hev with ⟨z, e1, e2⟩ | ⟨p, q, e1, _⟩
        · rw [hx] at e1; rw [hy] at e2
          cases e1; cases e2
          rw [f5_s27_eq, show (x != 0) = true by simpa using hx0, BIf_true, f5_s28_eq, BIf_true, show (x == x) = true by simp, BIf_true, f5_s29_eq]
          exact hK w5 (hX w5 h5)
        · rw [hx] at e1; cases e1
      · rcases hev with ⟨z, e1, e2⟩ | ⟨p, q, e1, _⟩
        · rw [hy] at e2; cases e2
        · rw [hx] at e1; cases e1
    · obtain ⟨aa, ac, hrv⟩ := hSa.form
      subst hrv
      refine ⟨aa, _, ac, 0, rfl, ?_⟩
      rw [f5_s26_eq]
      refine races_ok sort48 h4 (l := l.map (nmS nm words mu).ev) (fun w' h' => hS.row fun y hy => h'.has _ _ (by simp [hy])) (by omega) (fun y hy hy0 w5 h5 => ⟨none, 0, 0, y, rfl, ?_⟩) (fun out2 hy hlen2 w5 rv Lb hSb hNb h5 => ?_)
      · rcases hev with ⟨z, e1, e2⟩ | ⟨p, q, e1, e2, _⟩
        · rw [hx] at e1; cases e1
        · rw [hy] at e2; cases e2
      · obtain ⟨ba, bc, hrv⟩ := hSb.form
        subst hrv
        refine ⟨ba, _, bc, 0, rfl, ?_⟩
        rcases hev with ⟨z, e1, e2⟩ | ⟨p, q, e1, e2, hin, hnd, hq⟩
        · rw [hx] at e1; cases e1
        · rw [hx] at e1; rw [hy] at e2
          cases e1; cases e2
          rw [f5_s27_eq, show ((0 : Int) != 0) = false by decide, BIf_false, f5_s28_eq, BIf_false]
          have h5' : St w0 w5 (La ++ (Lb ++ (Lo ++ ((nb, Cs (nm.map I64) 40) :: H)))) := h5.perm (perm_by fun c => by simp only [List.map_append, List.map_cons, List.sum_append, List.sum_cons]; omega)
          exact names_s30 (words := words) (mu := mu) hnm (X := Lo ++ ((nb, Cs (nm.map I64) 40) :: H)) (by simp) hX h5' hSa hNa hSb hNb hlen hin hnd hq hK
theorem names_ok {l : List Ev} {xs : List Int} {ov vv : Value} (words mu : Int) (hla : ∀ e ∈ l, 0 ≤ e.a ∧ e.a < 4294967296) (h : St w0 w H) (hrow : ∀ w', St w0 w' H → Row w' 6 ov l.length (evsCs l)) (hrow2 : ∀ w', St w0 w' H → Row w' 1 vv xs.length (xs.map I64)) (hK : ∀ w', St w0 w' H → K (.bool true) w') :
    CallL P 5 [ov, .int .u32 words, .int .u32 mu, vv] w K := by
  obtain ⟨sa, sc, hov⟩ := (hrow w h).form
  obtain ⟨va, vc, hvv⟩ := (hrow2 w h).form
  subst hov hvv
  refine f5_ok _ _ _ _ _ _ _ _ _ _ ?_
  rw [f5_eq, f5_s0_eq, f5_s1_eq]
  refine sane_ok h fun w1 h1 => ⟨true, rfl, ?_⟩
  rw [f5_s2_eq]
  refine ⟨l.length, fun wq _ => run_len_22 wq, ?_⟩
  have s3 : ∀ b w1, St w0 w1 H → (b = false → l.length ≤ 200 ∧ xs.length ≤ 20) → f5_s3 b true false mu sa l.length sc words va xs.length vc w1 K := by
    intro b w1 h1 hb
    rw [f5_s3_eq, BIf_iff]
    refine ⟨fun _ => hK w1 h1, fun hf => ?_⟩
    obtain ⟨hl, hxs⟩ := hb hf
    rw [f5_s4_eq, z40]
    refine h1.newC fun nb w2 hnb h2 => ?_
    have h2 : St w0 w2 ((nb, Cs ((initL 0).map I64) 40) :: H) := h2
    rw [f5_s5_eq, f5_s6_eq]
    refine ⟨PInv w0 H nb sa l.length sc words mu va xs.length vc, ⟨8, 0, by omega, rfl, rfl, h2⟩, ?_⟩
    rintro m ee w3 ⟨i, hi, rfl, rfl, h3⟩
    show f5_lb7 _ _ _ _ _ _ _ _ _ _ _ _ _ _ _
    rw [f5_lb7_eq, f5_s8_eq, BIf_iff]
    constructor
    · intro hlt
      have hlt : i < 8 := by simp at hlt; omega
      rw [f5_s9_eq]
      refine ⟨by omega, by omega, ?_⟩
      rw [add_lit']
      refine h3.st1 (k := 0) rfl (by simp [initL]; omega) rfl fun w4 h4 => ?_
      have h4 : St w0 w4 ((nb, Cs (((initL i).map I64).set (0 + (i : Int).toNat * 1) (I64 i)) 40) :: H) := h4
      rw [init_set hlt] at h4
      rw [f5_s10_eq]
      refine ⟨8 - (i + 1), by omega, i + 1, by omega, rfl, ?_, h4⟩
      rw [wrap_i64 (by omega) (by omega)]; rfl
    · intro hge
      have : i = 8 := by simp at hge; omega
      subst this
      rw [f5_s11_eq]
      refine ⟨xs.length, fun wq _ => run_len_39 wq, ?_⟩
      rw [f5_s12_eq]
      refine ⟨QInv w0 H nb sa l.length sc words mu va xs.length vc, ⟨xs.length, 0, initL 8, by omega, rfl, rfl, nmOk_init, h3⟩, ?_⟩
      rintro m ee w4 ⟨i, nm, hi, rfl, rfl, hnm, h4⟩
      show f5_lb13 _ _ _ _ _ _ _ _ _ _ _ _ _ _ _ _
      rw [f5_lb13_eq, f5_s14_eq, BIf_iff]
      constructor
      · intro hlt
        have hlt : i < xs.length := by simpa using hlt
        rw [f5_s15_eq]
        obtain ⟨a, c, hac, hcl⟩ : ∃ a c, Value.slice va xs.length vc = .slice (some a) xs.length c ∧ ∀ k, k < xs.length * 1 → w4.cell? (a.add k) = (xs.map I64)[k]? := by
          rcases (hrow2 w4 (h4.tail hnb)).2 with ⟨h1, h2⟩ | ⟨a, c, h1, h2⟩
          · simp at h1; omega
          · exact ⟨a, c, h1, h2⟩
        obtain ⟨hva, -⟩ : va = some a ∧ vc = c := by simpa using hac
        subst hva
        obtain ⟨ia, ha1, ha8, hia⟩ := idxA i (by omega)
        obtain ⟨ib, hb1, hb8, hib⟩ := idxB xs[i]
        refine ⟨by omega, by omega, xs[i], ?_, by omega, by omega, ?_⟩
        · rw [Int.toNat_natCast, hcl _ (by omega), Nat.mul_one, List.getElem?_map, List.getElem?_eq_getElem hlt]; rfl
        rw [hia, hib]
        have hd := h4.drew
        refine ⟨by omega, by omega, by omega, by omega, nm.getD ib 0, ?_, nm.getD ia 0, ?_, by omega, by omega, ?_⟩
        · rw [add_lit', hd.cell (k := 0) rfl]; exact nm_at hnm.len hb8
        · rw [add_lit', hd.cell (k := 0) rfl]; exact nm_at hnm.len ha8
        rw [add_lit']
        refine hd.st1 (k := 0) rfl (by simp [hnm.len]; omega) rfl fun w5 h5 => ⟨by omega, by omega, ?_⟩
        rw [add_lit']
        refine h5.st1 (k := 0) rfl (by simp [hnm.len]; omega) rfl fun w6 h6 => ?_
        have h6 : St w0 w6 ((nb, Cs (((nm.map I64).set (0 + ((ia : Nat) : Int).toNat * 1) (I64 (nm.getD ib 0))).set (0 + ((ib : Nat) : Int).toNat * 1) (I64 (nm.getD ia 0))) 40) :: H) := h6
        rw [swap_cells] at h6
        rw [f5_s16_eq]
        refine ⟨xs.length - (i + 1), by omega, i + 1, _, by omega, rfl, ?_, nmOk_swap hnm ⟨ha1, ha8⟩ ⟨hb1, hb8⟩, h6⟩
        rw [wrap_i64 (by omega) (by omega)]; rfl
      · intro _
        exact names_s17 hnm hnb hl hla h4 hrow hK
  rw [BIf_iff]
  refine ⟨fun _ => s3 true w1 h1 (by intro hh; cases hh), fun hle => ?_⟩
  have hle : l.length ≤ 200 := by simp at hle; omega
  refine bytesOf_ok h1 hrow (by omega) fun x w2 h2 => ⟨x, rfl, ?_⟩
  rw [BIf_iff]
  refine ⟨fun _ => s3 true w2 h2 (by intro hh; cases hh), fun _ => ⟨xs.length, fun wq _ => run_len_39 wq, s3 _ w2 h2 fun hf => ⟨hle, ?_⟩⟩⟩
  simp at hf
  omega
end Go.Fx.Try
namespace Go.Fx.Try
open Go Go.Fx Go.Fx.Mo
open Go.Proofs
set_option maxRecDepth 20000
variable {H : Type} {enc : TypeId × Value → H} {W : World}
theorem wf_u32 {n : Int} (h : (Lit.int .u32 n).wf = true) : 0 ≤ n ∧ n < 4294967296 := by
  simp [Lit.wf, IntKind.min, IntKind.max, IntKind.signed, IntKind.bits] at h
  omega
theorem open_event_in {base : Nat} {spare : Nat → Bool} {held : Bool} {fuel : Nat} {cs : List Value} {x : DataW H × List MemPlace} (h : DataW.trod enc P W base spare held fuel 35 cs = some x) : ∃ e : Ev, cs = Evcs e ∧ 0 ≤ e.a ∧ e.a < 4294967296 := by
  obtain ⟨xs, n, _, _, hl, hlen, hf⟩ := DataW.trod_struct Try.underlying35 h
  rw [cells35] at hl
  match cs, hl with
  | [c0, c1, c2, c3, c4, c5], _ =>
  have hx : ∀ i, i < 6 → ∃ y, xs[i]? = some y := fun i hi => ⟨xs[i]'(by rw [hlen]; exact hi), List.getElem?_eq_getElem _⟩
  obtain ⟨y0, e0⟩ := hx 0 (by omega)
  obtain ⟨y1, e1⟩ := hx 1 (by omega)
  obtain ⟨y2, e2⟩ := hx 2 (by omega)
  obtain ⟨y3, e3⟩ := hx 3 (by omega)
  obtain ⟨y4, e4⟩ := hx 4 (by omega)
  obtain ⟨y5, e5⟩ := hx 5 (by omega)
  obtain ⟨k0, g0, _⟩ := DataW.trod_int Try.underlying3 ((hf 0 _ rfl).trans e0)
  obtain ⟨k1, g1, _⟩ := DataW.trod_int Try.underlying3 ((hf 1 _ rfl).trans e1)
  obtain ⟨k2, g2, _⟩ := DataW.trod_int Try.underlying33 ((hf 2 _ rfl).trans e2)
  obtain ⟨k3, g3, _, w3⟩ := DataW.trod_int Try.underlying33 ((hf 3 _ rfl).trans e3)
  obtain ⟨k4, g4, _⟩ := DataW.trod_int Try.underlying33 ((hf 4 _ rfl).trans e4)
  obtain ⟨k5, g5, _⟩ := DataW.trod_int Try.underlying3 ((hf 5 _ rfl).trans e5)
  simp [cells3, cells33] at g0 g1 g2 g3 g4 g5
  subst g0 g1 g2 g3 g4 g5
  exact ⟨⟨k0, k1, k2, k3, k4, k5⟩, rfl, wf_u32 w3⟩
theorem open_events_in {base : Nat} {spare : Nat → Bool} {held : Bool} {v : Value} {d : DataW H} {p : List MemPlace} (hv : ∃ a len cap, v = .slice a len cap) (h : DataW.Trod enc P W base spare held 22 v d p) :
    ∃ l : List Ev, Row W 6 v l.length (evsCs l) ∧ ∀ e ∈ l, 0 ≤ e.a ∧ e.a < 4294967296 := by
  obtain ⟨fuel, hf⟩ := h
  obtain ⟨a0, len0, cap0, rfl⟩ := hv
  rcases Deep.open_slice Try.underlying22 hf with ⟨hc, _⟩ | ⟨a, len, cap, m, n, D, Pl, hc, _, hle, hcm, hm, _, hall⟩
  · have hv : Value.slice a0 len0 cap0 = .slice none 0 0 := by simpa [Value.cells] using hc
    exact ⟨[], ⟨rfl, .inl ⟨hv, rfl⟩⟩, by simp⟩
  · have hv : Value.slice a0 len0 cap0 = .slice (some a) len cap := by simpa [Value.cells] using hc
    have hlm : len ≤ m := by rw [hm]; split <;> omega
    obtain ⟨E, hE⟩ := Deep.choose_lt (α := Ev) (n := len) (p := fun i e => (0 ≤ e.a ∧ e.a < 4294967296) ∧ ∀ j, j < 6 → W.cell? (a.add (i * 6 + j)) = (Evcs e)[j]?) (fun i hi => by
      obtain ⟨cs', h1, h2⟩ := hall i (by omega)
      obtain ⟨e, rfl, he⟩ := open_event_in h2
      rw [cells35] at h1
      obtain ⟨_, _, h3⟩ := World.cells?_some h1
      exact ⟨e, he, fun j hj => by rw [← h3 j hj, add_add']⟩)
    have hlen : ((List.range len).map E).length = len := by simp
    refine ⟨(List.range len).map E, ⟨evsCs_len _, .inr ⟨a, cap, by rw [hlen]; exact hv, fun i hi => ?_⟩⟩, fun e he => ?_⟩
    · rw [hlen] at hi
      have hq : i / 6 < ((List.range len).map E).length := by rw [hlen]; omega
      have h1 := (hE (i / 6) (by omega)).2 (i % 6) (by omega)
      have h2 := evs_cell ((List.range len).map E) (i := i / 6) (j := i % 6) hq (by omega)
      have e : i / 6 * 6 + i % 6 = i := by omega
      rw [e] at h1 h2
      rw [h1, h2]
      simp
    · obtain ⟨k, hk, rfl⟩ := List.mem_map.1 he
      exact (hE k (List.mem_range.1 hk)).1
theorem open_ints {base : Nat} {spare : Nat → Bool} {held : Bool} {v : Value} {d : DataW H} {p : List MemPlace} (hv : ∃ a len cap, v = .slice a len cap) (h : DataW.Trod enc P W base spare held 39 v d p) :
    ∃ xs : List Int, Row W 1 v xs.length (xs.map I64) := by
  obtain ⟨fuel, hf⟩ := h
  obtain ⟨a0, len0, cap0, rfl⟩ := hv
  rcases Deep.open_slice1 Try.underlying39 cells3 hf with ⟨hc, _⟩ | ⟨a, len, cap, m, n, V, D, Pl, hc, _, hle, hcm, hm, _, hall⟩
  · have hv : Value.slice a0 len0 cap0 = .slice none 0 0 := by simpa [Value.cells] using hc
    exact ⟨[], rfl, .inl ⟨hv, rfl⟩⟩
  · have hv : Value.slice a0 len0 cap0 = .slice (some a) len cap := by simpa [Value.cells] using hc
    have hlm : len ≤ m := by rw [hm]; split <;> omega
    obtain ⟨E, hE⟩ := Deep.choose_lt (α := Int) (n := len) (p := fun i x => W.cell? (a.add i) = some (I64 x)) (fun i hi => by
      obtain ⟨h1, h2⟩ := hall i (by omega)
      obtain ⟨x, e, _⟩ := DataW.trod_int Try.underlying3 h2
      refine ⟨x, ?_⟩
      rw [h1]
      simpa using e)
    refine ⟨(List.range len).map E, by simp, .inr ⟨a, cap, by simpa using hv, fun i hi => ?_⟩⟩
    have hi : i < len := by simpa using hi
    rw [hE i hi, List.map_map, List.getElem?_map, List.getElem?_range hi]
    rfl
theorem readable39 : P.readableRec 39 = true := by kernel_rfl
theorem types39 : 39 < P.types.size := of_decide_eq_true (by kernel_rfl)
end Go.Fx.Try
namespace Go.Proofs.Ytamciedmojpjaaa
open Go Go.Fx Go.Fx.Try Go.Fx.Mo
open Go.ChangeShapes Go.WideShapes Go.ChangeAt Go.RowKit
set_option maxRecDepth 100000
theorem raceNames_lifted (os : Os) (started : os.Started) (H : Type) (enc : TypeId × Value → H) :
    ReturnsInHanded {} Try.checked os 5 .any (Rows.raceNamesSpec.pre6 enc Try.prog Try.f5 Rows.raceNamesRow.domain false) (Rows.raceNamesSpec.post enc Try.prog Try.f5 false true false false) := by
  refine returnsInHanded_of_change (C := Try.checked) own started (by kernel_rfl) Try.func5
    (ChangeSpec.witness6 (enc := enc) (C := Try.checked) false ⟨#[], #[.slice none 0 0, .int .u32 0, .int .u32 0, .slice none 0 0], []⟩ 8 (by kernel_rfl) (by kernel_rfl) (by kernel_rfl) (by kernel_rfl)) ?_
  intro W base args ds gs before hval0 hW _ _
  have hval : ∀ (j : Nat) t v, Try.f5.params[j]? = some t → args[j]? = some v → Value.okWide Try.prog W .any base t v := hval0
  have hW' := hW
  obtain ⟨p, q, hA0, hV, rfl, hfz, hnd⟩ := hW
  have hA : DataW.TrodAll enc Try.prog W 0 (fun _ => true) true Try.f5.params.toList args.toList ds p := hA0
  rw [Try.params5] at hA hval
  obtain ⟨v0, v1, v2, v3, d0, d1, d2, d3, p0, p1, p2, p3, rfl, rfl, rfl, h0, h1, h2, h3⟩ := trodAll_four hA
  obtain ⟨rfl, rfl⟩ := trodVars_none hV
  obtain ⟨l, hrow, hla⟩ := open_events_in (okWide_slice Try.underlying22 (hval 0 22 v0 rfl rfl)) h0
  obtain ⟨words, rfl, rfl, rfl, hwf1⟩ := open_int Try.underlying33 (hval 1 33 v1 rfl rfl) h1
  obtain ⟨mu, rfl, rfl, rfl, hwf2⟩ := open_int Try.underlying33 (hval 2 33 v2 rfl rfl) h2
  obtain ⟨xs, hrow2⟩ := open_ints (okWide_slice Try.underlying39 (hval 3 39 v3 rfl rfl)) h3
  have hcall := names_ok (w0 := W) (H := []) (K := fun v w' => v = .bool true ∧ Below W.heap.size W w') words mu hla (St.refl W) (fun w' h' => Row.old hrow (New.nil W) h') (fun w' h' => Row.old hrow2 (New.nil W) h') (fun w' h' => ⟨rfl, h'.below⟩)
  refine Calls.mono hcall fun e W' he => ?_
  unfold retK at he
  split at he
  · obtain ⟨rfl, hB⟩ := he
    have hlt0 : ∀ x ∈ p0, x.block < W.heap.size := fun x hx => hW'.lt x (by simp [hx])
    have hlt3 : ∀ x ∈ p3, x.block < W.heap.size := fun x hx => hW'.lt x (by simp [hx])
    have h0' := Below.trod laidOut readable22 types22 h0 hB hlt0
    have h3' := Below.trod laidOut readable39 types39 h3 hB hlt3
    exact ⟨_, rfl, _, _, _, [], p0 ++ ([] ++ ([] ++ p3)), [], hW', trodAll_mk1 (shut_bool Try.underlying4 _), trodAll_mk4 h0' (shut_int Try.underlying33 hwf1) (shut_int Try.underlying33 hwf2) h3', rfl, hB.frame _, fun h => by cases h⟩
  · exact he.elim
theorem raceNames_holds : Rows.RaceNamesSaid :=
  OpenClaim.holds_of_wide 5 Try.f5 rfl rfl rfl rfl rfl rfl rfl ⟨rfl, rfl, rfl, rfl, rfl⟩ rfl rfl rfl rfl rfl (by kernel_rfl) Try.func5 (by kernel_rfl)
    (of_decide_eq_true (by kernel_rfl)) (by unfold Func.isWrapper; first | (rw [if_pos (by decide +kernel)]; kernel_rfl) | (rw [if_neg (by decide +kernel)]; exact ⟨rfl, rfl⟩))
    (fun os started H enc _ => raceNames_lifted os started H enc)
#print axioms raceNames_holds
end Go.Proofs.Ytamciedmojpjaaa
