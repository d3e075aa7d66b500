/- RaceQuiet returns true for every list of events and way to quiet it, and both read behind the call as they read before. No condition. -/
import Derived.Test.YtamciedmojpjaaaGb
import Derived.KernelRfl
import Derived.Test.YtamciedmojpjaaaGl
import Derived.Test.YtamciedmojpjaaaGm
namespace Go.Fx
open Go
theorem CS_seq' {P : Program} {c a b : Code} {r : Option Nat} {Lo X L : List Nat} {K : Exit → Env → World → Prop} {e : Env} {w : World} (h : c = .seq a b) (hl : liveIn b Lo X = L) : CS P c r Lo X K e w = CS P a r L X (kseq P a b r Lo X K) e w := by subst h; subst hl; rfl
theorem CS_block' {P : Program} {c b : Code} {id : Nat} {r : Option Nat} {Lo X X' : List Nat} {K : Exit → Env → World → Prop} {e : Env} {w : World} (h : c = .block id b) (hl : union X Lo = X') : CS P c r Lo X K e w = CS P b r Lo X' (kblock id K) e w := by subst h; subst hl; rfl
theorem CS_loop' {P : Program} {c b : Code} {r : Option Nat} {Lo X X' H : List Nat} {K : Exit → Env → World → Prop} {e : Env} {w : World} (h : c = .loop b) (hx : union X Lo = X') (hl : liveIn b [] X' = H) : CS P c r Lo X K e w = LoopE (fun Y e w => Join (fun e w => CS P b r H X' (kloop H Y K) e w) e w) (e.restrict H) w := by subst h; subst hx; subst hl; rfl
theorem CS_scope' {P : Program} {c b : Code} {r : Option Nat} {Lo X : List Nat} {K : Exit → Env → World → Prop} {e : Env} {w : World} (h : c = .scope b) : CS P c r Lo X K e w = CS P b r Lo X (kscope K) e w := by subst h; rfl
end Go.Fx
namespace Go.Fx.Try
set_option maxRecDepth 100000
open Go Go.Fx
/-! 4 candling.candlinglaw30.RaceQuiet -/
noncomputable def c4 : Code := match Go.Proofs.Try.f4.body with
  | some c => c
  | none => .skip
noncomputable def rs4 : List ResultVar := Go.Proofs.Try.f4.results.toList
abbrev f4_kb (K : Value → World → Prop) : Exit → Env → World → Prop := bodyK P rs4 K
def f4 (s0a : Option Addr) (s0l : Nat) (s0c : Nat) (x1 : Int) (w : World) (K : Value → World → Prop) : Prop := CS P c4 none [4] [4] (f4_kb K) (env0 107 [(Value.slice s0a s0l s0c), (Value.int .i64 x1)]) w
def f4_s0 (s2a : Option Addr) (s2l : Nat) (s2c : Nat) (x3 : Int) (w : World) (K : Value → World → Prop) : Prop := CS P (codeAt c4 []) none [4] [4] (f4_kb K) (Env.mk 107 [(0, (Value.slice s2a s2l s2c)), (1, (Value.int .i64 x3))] []) w
abbrev f4_k0 (K : Value → World → Prop) : Exit → Env → World → Prop := kseq P (codeAt c4 [0]) (codeAt c4 [1]) none [4] [4] (f4_kb K)
def f4_s1 (s4a : Option Addr) (s4l : Nat) (s4c : Nat) (x5 : Int) (w : World) (K : Value → World → Prop) : Prop := CS P (codeAt c4 [1]) none [4] [4] (f4_kb K) (Env.mk 107 [(4, (Value.bool false)), (0, (Value.slice s4a s4l s4c)), (1, (Value.int .i64 x5))] []) w
abbrev f4_k1 (K : Value → World → Prop) : Exit → Env → World → Prop := kseq P (codeAt c4 [1, 0]) (codeAt c4 [1, 1]) none [4] [4] (f4_kb K)
def f4_s2 (b9 : Bool) (b10 : Bool) (s11a : Option Addr) (s11l : Nat) (s11c : Nat) (x12 : Int) (w : World) (K : Value → World → Prop) : Prop := CS P (codeAt c4 [1, 1]) none [4] [4] (f4_kb K) (Env.mk 107 [(5, (Value.bool b9)), (14, (Value.bool b10)), (4, (Value.bool false)), (0, (Value.slice s11a s11l s11c)), (1, (Value.int .i64 x12))] []) w
abbrev f4_k2 (K : Value → World → Prop) : Exit → Env → World → Prop := kseq P (codeAt c4 [1, 1, 0]) (codeAt c4 [1, 1, 1]) none [4] [4] (f4_kb K)
abbrev f4_k3 (K : Value → World → Prop) : Exit → Env → World → Prop := kseq P (codeAt c4 [1, 1, 0, 0]) (codeAt c4 [1, 1, 0, 1]) none [4, 5, 1, 0] [4] (f4_k2 K)
def f4_s3 (b14 : Bool) (b15 : Bool) (b16 : Bool) (x17 : Int) (s18a : Option Addr) (s18l : Nat) (s18c : Nat) (w : World) (K : Value → World → Prop) : Prop := Join (fun e w => CS P (codeAt c4 [1, 1, 0, 1]) none [4, 5, 1, 0] [4] (f4_k2 K) e w) (Env.mk 107 [(22, (Value.bool b14)), (5, (Value.bool b15)), (4, (Value.bool b16)), (1, (Value.int .i64 x17)), (0, (Value.slice s18a s18l s18c))] []) w
abbrev f4_k4 (K : Value → World → Prop) : Exit → Env → World → Prop := kseq P (codeAt c4 [1, 1, 0, 1, 0, 0]) (codeAt c4 [1, 1, 0, 1, 0, 1]) none [4, 5, 1, 0] [4] (f4_k2 K)
def f4_s4 (b19 : Bool) (b20 : Bool) (x21 : Int) (s22a : Option Addr) (s22l : Nat) (s22c : Nat) (w : World) (K : Value → World → Prop) : Prop := Join (fun e w => CS P (codeAt c4 [1, 1, 1]) none [4] [4] (f4_kb K) e w) (Env.mk 107 [(4, (Value.bool b19)), (5, (Value.bool b20)), (1, (Value.int .i64 x21)), (0, (Value.slice s22a s22l s22c))] []) w
abbrev f4_k5 (K : Value → World → Prop) : Exit → Env → World → Prop := kseq P (codeAt c4 [1, 1, 1, 0]) (codeAt c4 [1, 1, 1, 1]) none [4] [4] (f4_kb K)
def f4_s5 (s29a : Option Addr) (s29l : Nat) (s29c : Nat) (s30a : Option Addr) (s30l : Nat) (s30c : Nat) (b31 : Bool) (b32 : Bool) (x33 : Int) (s34a : Option Addr) (s34l : Nat) (s34c : Nat) (w : World) (K : Value → World → Prop) : Prop := CS P (codeAt c4 [1, 1, 1, 1]) none [4] [4] (f4_kb K) (Env.mk 107 [(6, (Value.slice s29a s29l s29c)), (24, (Value.slice s30a s30l s30c)), (4, (Value.bool b31)), (5, (Value.bool b32)), (1, (Value.int .i64 x33)), (0, (Value.slice s34a s34l s34c))] []) w
abbrev f4_k6 (K : Value → World → Prop) : Exit → Env → World → Prop := kseq P (codeAt c4 [1, 1, 1, 1, 0]) (codeAt c4 [1, 1, 1, 1, 1]) none [4] [4] (f4_kb K)
abbrev f4_k7 (K : Value → World → Prop) : Exit → Env → World → Prop := kseq P (codeAt c4 [1, 1, 1, 1, 0, 0]) (codeAt c4 [1, 1, 1, 1, 0, 1]) none [5, 6] [4] (f4_k6 K)
def f4_s6 (x36 : Int) (x37 : Int) (s38a : Option Addr) (s38l : Nat) (s38c : Nat) (s39a : Option Addr) (s39l : Nat) (s39c : Nat) (s40a : Option Addr) (s40l : Nat) (s40c : Nat) (b41 : Bool) (b42 : Bool) (x43 : Int) (s44a : Option Addr) (s44l : Nat) (s44c : Nat) (w : World) (K : Value → World → Prop) : Prop := CS P (codeAt c4 [1, 1, 1, 1, 0, 1]) none [5, 6] [4] (f4_k6 K) (Env.mk 107 [(27, (Value.int .i64 x36)), (26, (Value.int .i64 x37)), (25, (Value.slice s38a s38l s38c)), (6, (Value.slice s39a s39l s39c)), (24, (Value.slice s40a s40l s40c)), (4, (Value.bool b41)), (5, (Value.bool b42)), (1, (Value.int .i64 x43)), (0, (Value.slice s44a s44l s44c))] []) w
abbrev f4_k8 (K : Value → World → Prop) : Exit → Env → World → Prop := kblock 0 (f4_k6 K)
def f4_lp7 (K : Value → World → Prop) (Y7 : Env → World → Prop) (e : Env) (w : World) : Prop := Join (fun e w => CS P (codeAt c4 [1, 1, 1, 1, 0, 1, 0, 0]) none [4, 5, 6, 27, 1, 25, 26] [4, 5, 6] (kloop [4, 5, 6, 27, 1, 25, 26] Y7 (f4_k8 K)) e w) e w
abbrev f4_kl7 (K : Value → World → Prop) (Y7 : Env → World → Prop) : Exit → Env → World → Prop := kloop [4, 5, 6, 27, 1, 25, 26] Y7 (f4_k8 K)
def f4_lb7 (b45 : Bool) (b46 : Bool) (s47a : Option Addr) (s47l : Nat) (s47c : Nat) (x48 : Int) (x49 : Int) (s50a : Option Addr) (s50l : Nat) (s50c : Nat) (x51 : Int) (w : World) (K : Value → World → Prop) (Y7 : Env → World → Prop) : Prop := Join (fun e w => CS P (codeAt c4 [1, 1, 1, 1, 0, 1, 0, 0]) none [4, 5, 6, 27, 1, 25, 26] [4, 5, 6] (f4_kl7 K Y7) e w) (Env.mk 107 [(4, (Value.bool b45)), (5, (Value.bool b46)), (6, (Value.slice s47a s47l s47c)), (27, (Value.int .i64 x48)), (1, (Value.int .i64 x49)), (25, (Value.slice s50a s50l s50c)), (26, (Value.int .i64 x51))] []) w
abbrev f4_k9 (K : Value → World → Prop) (Y7 : Env → World → Prop) : Exit → Env → World → Prop := kseq P (codeAt c4 [1, 1, 1, 1, 0, 1, 0, 0, 0]) (codeAt c4 [1, 1, 1, 1, 0, 1, 0, 0, 1]) none [4, 5, 6, 27, 1, 25, 26] [4, 5, 6] (f4_kl7 K Y7)
def f4_s8 (b52 : Bool) (b53 : Bool) (b54 : Bool) (s55a : Option Addr) (s55l : Nat) (s55c : Nat) (x56 : Int) (x57 : Int) (s58a : Option Addr) (s58l : Nat) (s58c : Nat) (x59 : Int) (w : World) (K : Value → World → Prop) (Y7 : Env → World → Prop) : Prop := CS P (codeAt c4 [1, 1, 1, 1, 0, 1, 0, 0, 1]) none [4, 5, 6, 27, 1, 25, 26] [4, 5, 6] (f4_kl7 K Y7) (Env.mk 107 [(28, (Value.bool b52)), (4, (Value.bool b53)), (5, (Value.bool b54)), (6, (Value.slice s55a s55l s55c)), (27, (Value.int .i64 x56)), (1, (Value.int .i64 x57)), (25, (Value.slice s58a s58l s58c)), (26, (Value.int .i64 x59))] []) w
abbrev f4_k10 (K : Value → World → Prop) (Y7 : Env → World → Prop) : Exit → Env → World → Prop := kseq P (codeAt c4 [1, 1, 1, 1, 0, 1, 0, 0, 1, 0]) (codeAt c4 [1, 1, 1, 1, 0, 1, 0, 0, 1, 1]) none [4, 5, 6, 27, 1, 25, 26] [4, 5, 6] (f4_kl7 K Y7)
def f4_s9 (b60 : Bool) (b61 : Bool) (s62a : Option Addr) (s62l : Nat) (s62c : Nat) (x63 : Int) (s64a : Option Addr) (s64l : Nat) (s64c : Nat) (x65 : Int) (x66 : Int) (w : World) (K : Value → World → Prop) (Y7 : Env → World → Prop) : Prop := Join (fun e w => CS P (codeAt c4 [1, 1, 1, 1, 0, 1, 0, 0, 1, 1]) none [4, 5, 6, 27, 1, 25, 26] [4, 5, 6] (f4_kl7 K Y7) e w) (Env.mk 107 [(4, (Value.bool b60)), (5, (Value.bool b61)), (6, (Value.slice s62a s62l s62c)), (1, (Value.int .i64 x63)), (25, (Value.slice s64a s64l s64c)), (26, (Value.int .i64 x65)), (27, (Value.int .i64 x66))] []) w
abbrev f4_k11 (K : Value → World → Prop) (Y7 : Env → World → Prop) : Exit → Env → World → Prop := kseq P (codeAt c4 [1, 1, 1, 1, 0, 1, 0, 0, 1, 1, 0]) (codeAt c4 [1, 1, 1, 1, 0, 1, 0, 0, 1, 1, 1]) none [4, 5, 6, 27, 1, 25, 26] [4, 5, 6] (f4_kl7 K Y7)
abbrev f4_k12 (K : Value → World → Prop) (Y7 : Env → World → Prop) : Exit → Env → World → Prop := kblock 1 (f4_k11 K Y7)
abbrev f4_k13 (K : Value → World → Prop) (Y7 : Env → World → Prop) : Exit → Env → World → Prop := kseq P (codeAt c4 [1, 1, 1, 1, 0, 1, 0, 0, 1, 1, 0, 0, 0]) (codeAt c4 [1, 1, 1, 1, 0, 1, 0, 0, 1, 1, 0, 0, 1]) none [4, 5, 6, 1, 25, 26, 27] [4, 5, 6, 1, 25, 26, 27] (f4_k12 K Y7)
def f4_s10 (a72 : Addr) (cs73 : Array Value) (a74 : Addr) (b75 : Bool) (b76 : Bool) (s77a : Option Addr) (s77l : Nat) (s77c : Nat) (x78 : Int) (s79a : Option Addr) (s79l : Nat) (s79c : Nat) (x80 : Int) (x81 : Int) (w : World) (K : Value → World → Prop) (Y7 : Env → World → Prop) : Prop := CS P (codeAt c4 [1, 1, 1, 1, 0, 1, 0, 0, 1, 1, 0, 0, 1]) none [4, 5, 6, 1, 25, 26, 27] [4, 5, 6, 1, 25, 26, 27] (f4_k12 K Y7) (Env.mk 107 [(8, (Value.pointer (some a72))), (30, (Value.agg cs73)), (29, (Value.pointer (some a74))), (4, (Value.bool b75)), (5, (Value.bool b76)), (6, (Value.slice s77a s77l s77c)), (1, (Value.int .i64 x78)), (25, (Value.slice s79a s79l s79c)), (26, (Value.int .i64 x80)), (27, (Value.int .i64 x81))] []) w
abbrev f4_k14 (K : Value → World → Prop) (Y7 : Env → World → Prop) : Exit → Env → World → Prop := kseq P (codeAt c4 [1, 1, 1, 1, 0, 1, 0, 0, 1, 1, 0, 0, 1, 0]) (codeAt c4 [1, 1, 1, 1, 0, 1, 0, 0, 1, 1, 0, 0, 1, 1]) none [4, 5, 6, 1, 25, 26, 27] [4, 5, 6, 1, 25, 26, 27] (f4_k12 K Y7)
def f4_s11 (b89 : Bool) (b90 : Bool) (b91 : Bool) (b92 : Bool) (b93 : Bool) (b94 : Bool) (b95 : Bool) (b96 : Bool) (b97 : Bool) (b98 : Bool) (b99 : Bool) (b100 : Bool) (cs101 : Array Value) (x102 : Int) (a103 : Addr) (a104 : Addr) (cs105 : Array Value) (a106 : Addr) (b107 : Bool) (b108 : Bool) (s109a : Option Addr) (s109l : Nat) (s109c : Nat) (x110 : Int) (s111a : Option Addr) (s111l : Nat) (s111c : Nat) (x112 : Int) (x113 : Int) (w : World) (K : Value → World → Prop) (Y7 : Env → World → Prop) : Prop := CS P (codeAt c4 [1, 1, 1, 1, 0, 1, 0, 0, 1, 1, 0, 0, 1, 1]) none [4, 5, 6, 1, 25, 26, 27] [4, 5, 6, 1, 25, 26, 27] (f4_k12 K Y7) (Env.mk 107 [(11, (Value.bool b89)), (10, (Value.bool b90)), (9, (Value.bool b91)), (38, (Value.bool b92)), (37, (Value.bool b93)), (36, (Value.bool b94)), (31, (Value.tuple [(Value.bool b95), (Value.bool b96), (Value.bool b97)].toArray)), (35, (Value.tuple [(Value.bool b98), (Value.bool b99), (Value.bool b100)].toArray)), (34, (Value.agg cs101)), (33, (Value.int .i64 x102)), (32, (Value.pointer (some a103))), (8, (Value.pointer (some a104))), (30, (Value.agg cs105)), (29, (Value.pointer (some a106))), (4, (Value.bool b107)), (5, (Value.bool b108)), (6, (Value.slice s109a s109l s109c)), (1, (Value.int .i64 x110)), (25, (Value.slice s111a s111l s111c)), (26, (Value.int .i64 x112)), (27, (Value.int .i64 x113))] []) w
abbrev f4_k15 (K : Value → World → Prop) (Y7 : Env → World → Prop) : Exit → Env → World → Prop := kseq P (codeAt c4 [1, 1, 1, 1, 0, 1, 0, 0, 1, 1, 0, 0, 1, 1, 0]) (codeAt c4 [1, 1, 1, 1, 0, 1, 0, 0, 1, 1, 0, 0, 1, 1, 1]) none [4, 5, 6, 1, 25, 26, 27] [4, 5, 6, 1, 25, 26, 27] (f4_k12 K Y7)
abbrev f4_k16 (K : Value → World → Prop) (Y7 : Env → World → Prop) : Exit → Env → World → Prop := kblock 2 (f4_k15 K Y7)
abbrev f4_k17 (K : Value → World → Prop) (Y7 : Env → World → Prop) : Exit → Env → World → Prop := kseq P (codeAt c4 [1, 1, 1, 1, 0, 1, 0, 0, 1, 1, 0, 0, 1, 1, 0, 0, 0]) (codeAt c4 [1, 1, 1, 1, 0, 1, 0, 0, 1, 1, 0, 0, 1, 1, 0, 0, 1]) none [4, 5, 1, 25, 26, 27, 8, 6] [4, 5, 6, 1, 25, 26, 27, 8] (f4_k16 K Y7)
abbrev f4_k18 (K : Value → World → Prop) (Y7 : Env → World → Prop) : Exit → Env → World → Prop := kseq P (codeAt c4 [1, 1, 1, 1, 0, 1, 0, 0, 1, 1, 0, 0, 1, 1, 0, 0, 1, 0, 0]) (codeAt c4 [1, 1, 1, 1, 0, 1, 0, 0, 1, 1, 0, 0, 1, 1, 0, 0, 1, 0, 1]) none [4, 5, 1, 25, 26, 27, 8, 6] [4, 5, 6, 1, 25, 26, 27, 8] (f4_k16 K Y7)
abbrev f4_k19 (K : Value → World → Prop) (Y7 : Env → World → Prop) : Exit → Env → World → Prop := kseq P (codeAt c4 [1, 1, 1, 1, 0, 1, 0, 0, 1, 1, 0, 0, 1, 1, 0, 0, 1, 0, 0, 0]) (codeAt c4 [1, 1, 1, 1, 0, 1, 0, 0, 1, 1, 0, 0, 1, 1, 0, 0, 1, 0, 0, 1]) none [4, 5, 1, 25, 26, 27, 8, 6] [4, 5, 6, 1, 25, 26, 27, 8] (f4_k18 K Y7)
def f4_s12 (b115 : Bool) (b116 : Bool) (s117a : Option Addr) (s117l : Nat) (s117c : Nat) (x118 : Int) (s119a : Option Addr) (s119l : Nat) (s119c : Nat) (x120 : Int) (x121 : Int) (w : World) (K : Value → World → Prop) (Y7 : Env → World → Prop) : Prop := Join (fun e w => CS P (codeAt c4 [1, 1, 1, 1, 0, 1, 0, 0, 1, 1, 1]) none [4, 5, 6, 27, 1, 25, 26] [4, 5, 6] (f4_kl7 K Y7) e w) (Env.mk 107 [(4, (Value.bool b115)), (5, (Value.bool b116)), (6, (Value.slice s117a s117l s117c)), (1, (Value.int .i64 x118)), (25, (Value.slice s119a s119l s119c)), (26, (Value.int .i64 x120)), (27, (Value.int .i64 x121))] []) w
theorem f4_s12_eq (b115 : Bool) (b116 : Bool) (s117a : Option Addr) (s117l : Nat) (s117c : Nat) (x118 : Int) (s119a : Option Addr) (s119l : Nat) (s119c : Nat) (x120 : Int) (x121 : Int) (w : World) (K : Value → World → Prop) (Y7 : Env → World → Prop) : f4_s12 b115 b116 s117a s117l s117c x118 s119a s119l s119c x120 x121 w K Y7 = (Y7 (Env.mk 107 [(4, (Value.bool b115)), (5, (Value.bool b116)), (6, (Value.slice s117a s117l s117c)), (27, (Value.int .i64 (IntKind.wrap .i64 ((x121 : Int) + 1)))), (1, (Value.int .i64 x118)), (25, (Value.slice s119a s119l s119c)), (26, (Value.int .i64 x120))] []) w) := by
  have h0 : f4_s12 b115 b116 s117a s117l s117c x118 s119a s119l s119c x120 x121 w K Y7 = CS P (codeAt c4 [1, 1, 1, 1, 0, 1, 0, 0, 1, 1, 1]) none [4, 5, 6, 27, 1, 25, 26] [4, 5, 6] (f4_kl7 K Y7) (Env.mk 107 [(4, (Value.bool b115)), (5, (Value.bool b116)), (6, (Value.slice s117a s117l s117c)), (1, (Value.int .i64 x118)), (25, (Value.slice s119a s119l s119c)), (26, (Value.int .i64 x120)), (27, (Value.int .i64 x121))] []) w := by kernel_rfl
  have h1 : CS P (codeAt c4 [1, 1, 1, 1, 0, 1, 0, 0, 1, 1, 1]) none [4, 5, 6, 27, 1, 25, 26] [4, 5, 6] (f4_kl7 K Y7) (Env.mk 107 [(4, (Value.bool b115)), (5, (Value.bool b116)), (6, (Value.slice s117a s117l s117c)), (1, (Value.int .i64 x118)), (25, (Value.slice s119a s119l s119c)), (26, (Value.int .i64 x120)), (27, (Value.int .i64 x121))] []) w = (Y7 (Env.mk 107 [(4, (Value.bool b115)), (5, (Value.bool b116)), (6, (Value.slice s117a s117l s117c)), (27, (Value.int .i64 (IntKind.wrap .i64 ((x121 : Int) + 1)))), (1, (Value.int .i64 x118)), (25, (Value.slice s119a s119l s119c)), (26, (Value.int .i64 x120))] []) w) := by kernel_rfl
  exact h0.trans (h1)
def f4_s13 (b122 : Bool) (b123 : Bool) (x124 : Int) (s125a : Option Addr) (s125l : Nat) (s125c : Nat) (x126 : Int) (x127 : Int) (a128 : Addr) (s129a : Option Addr) (s129l : Nat) (s129c : Nat) (w : World) (K : Value → World → Prop) (Y7 : Env → World → Prop) : Prop := Join (fun e w => CS P (codeAt c4 [1, 1, 1, 1, 0, 1, 0, 0, 1, 1, 0, 0, 1, 1, 0, 0, 1, 0, 1]) none [4, 5, 1, 25, 26, 27, 8, 6] [4, 5, 6, 1, 25, 26, 27, 8] (f4_k16 K Y7) e w) (Env.mk 107 [(4, (Value.bool b122)), (5, (Value.bool b123)), (1, (Value.int .i64 x124)), (25, (Value.slice s125a s125l s125c)), (26, (Value.int .i64 x126)), (27, (Value.int .i64 x127)), (8, (Value.pointer (some a128))), (6, (Value.slice s129a s129l s129c))] []) w
abbrev f4_k20 (K : Value → World → Prop) (Y7 : Env → World → Prop) : Exit → Env → World → Prop := kseq P (codeAt c4 [1, 1, 1, 1, 0, 1, 0, 0, 1, 1, 0, 0, 1, 1, 0, 0, 1, 0, 1, 0]) (codeAt c4 [1, 1, 1, 1, 0, 1, 0, 0, 1, 1, 0, 0, 1, 1, 0, 0, 1, 0, 1, 1]) none [4, 5, 1, 25, 26, 27, 8, 6] [4, 5, 6, 1, 25, 26, 27, 8] (f4_k16 K Y7)
def f4_s14 (b131 : Bool) (b132 : Bool) (b133 : Bool) (x134 : Int) (s135a : Option Addr) (s135l : Nat) (s135c : Nat) (x136 : Int) (x137 : Int) (a138 : Addr) (s139a : Option Addr) (s139l : Nat) (s139c : Nat) (w : World) (K : Value → World → Prop) (Y7 : Env → World → Prop) : Prop := Join (fun e w => CS P (codeAt c4 [1, 1, 1, 1, 0, 1, 0, 0, 1, 1, 0, 0, 1, 1, 0, 0, 1, 0, 1, 1]) none [4, 5, 1, 25, 26, 27, 8, 6] [4, 5, 6, 1, 25, 26, 27, 8] (f4_k16 K Y7) e w) (Env.mk 107 [(52, (Value.bool b131)), (4, (Value.bool b132)), (5, (Value.bool b133)), (1, (Value.int .i64 x134)), (25, (Value.slice s135a s135l s135c)), (26, (Value.int .i64 x136)), (27, (Value.int .i64 x137)), (8, (Value.pointer (some a138))), (6, (Value.slice s139a s139l s139c))] []) w
def f4_s15 (b141 : Bool) (b142 : Bool) (x143 : Int) (s144a : Option Addr) (s144l : Nat) (s144c : Nat) (x145 : Int) (x146 : Int) (a147 : Addr) (s148a : Option Addr) (s148l : Nat) (s148c : Nat) (w : World) (K : Value → World → Prop) (Y7 : Env → World → Prop) : Prop := Join (fun e w => CS P (codeAt c4 [1, 1, 1, 1, 0, 1, 0, 0, 1, 1, 0, 0, 1, 1, 1]) none [4, 5, 6, 1, 25, 26, 27] [4, 5, 6, 1, 25, 26, 27] (f4_k12 K Y7) e w) (Env.mk 107 [(4, (Value.bool b141)), (5, (Value.bool b142)), (1, (Value.int .i64 x143)), (25, (Value.slice s144a s144l s144c)), (26, (Value.int .i64 x145)), (27, (Value.int .i64 x146)), (8, (Value.pointer (some a147))), (6, (Value.slice s148a s148l s148c))] []) w
theorem f4_s15_eq (b141 : Bool) (b142 : Bool) (x143 : Int) (s144a : Option Addr) (s144l : Nat) (s144c : Nat) (x145 : Int) (x146 : Int) (a147 : Addr) (s148a : Option Addr) (s148l : Nat) (s148c : Nat) (w : World) (K : Value → World → Prop) (Y7 : Env → World → Prop) : f4_s15 b141 b142 x143 s144a s144l s144c x145 x146 a147 s148a s148l s148c w K Y7 = (LdA 6 a147 w (fun cs149 => sizesAre 6 [(Value.agg cs149)] ∧ NewC (([(Value.agg cs149)].map fun (v : Value) => v.cells.toList).flatten.toArray) 35 w (fun n153 w151 => ∃ (s154a : Option Addr) (s154l s154c : Nat), ∃ w155 : World, (Builtin.append_ #[22, 22] 22 [(Value.slice s148a s148l s148c), (Value.slice (some (Addr.mk n153 0 none)) 1 1)].toArray).run P w151 = .ok (Value.slice s154a s154l s154c) w155 ∧ f4_s12 b141 b142 s154a s154l s154c x143 s144a s144l s144c x145 x146 w155 K Y7))) := by
  have h0 : f4_s15 b141 b142 x143 s144a s144l s144c x145 x146 a147 s148a s148l s148c w K Y7 = CS P (codeAt c4 [1, 1, 1, 1, 0, 1, 0, 0, 1, 1, 0, 0, 1, 1, 1]) none [4, 5, 6, 1, 25, 26, 27] [4, 5, 6, 1, 25, 26, 27] (f4_k12 K Y7) (Env.mk 107 [(4, (Value.bool b141)), (5, (Value.bool b142)), (1, (Value.int .i64 x143)), (25, (Value.slice s144a s144l s144c)), (26, (Value.int .i64 x145)), (27, (Value.int .i64 x146)), (8, (Value.pointer (some a147))), (6, (Value.slice s148a s148l s148c))] []) w := by kernel_rfl
  have h1 : CS P (codeAt c4 [1, 1, 1, 1, 0, 1, 0, 0, 1, 1, 0, 0, 1, 1, 1]) none [4, 5, 6, 1, 25, 26, 27] [4, 5, 6, 1, 25, 26, 27] (f4_k12 K Y7) (Env.mk 107 [(4, (Value.bool b141)), (5, (Value.bool b142)), (1, (Value.int .i64 x143)), (25, (Value.slice s144a s144l s144c)), (26, (Value.int .i64 x145)), (27, (Value.int .i64 x146)), (8, (Value.pointer (some a147))), (6, (Value.slice s148a s148l s148c))] []) w = (LdA 6 a147 w (fun cs149 => sizesAre 6 [(Value.agg cs149)] ∧ NewC (([(Value.agg cs149)].map fun (v : Value) => v.cells.toList).flatten.toArray) 35 w (fun n153 w151 => ∃ (s154a : Option Addr) (s154l s154c : Nat), ∃ w155 : World, (Builtin.append_ #[22, 22] 22 [(Value.slice s148a s148l s148c), (Value.slice (some (Addr.mk n153 0 none)) 1 1)].toArray).run P w151 = .ok (Value.slice s154a s154l s154c) w155 ∧ f4_s12 b141 b142 s154a s154l s154c x143 s144a s144l s144c x145 x146 w155 K Y7))) := by kernel_rfl
  exact h0.trans (h1)
theorem f4_s14_eq (b131 : Bool) (b132 : Bool) (b133 : Bool) (x134 : Int) (s135a : Option Addr) (s135l : Nat) (s135c : Nat) (x136 : Int) (x137 : Int) (a138 : Addr) (s139a : Option Addr) (s139l : Nat) (s139c : Nat) (w : World) (K : Value → World → Prop) (Y7 : Env → World → Prop) : f4_s14 b131 b132 b133 x134 s135a s135l s135c x136 x137 a138 s139a s139l s139c w K Y7 = (BIf b131 (St1 a138 (Value.int .i64 1) w (fun w140 => f4_s15 b132 b133 x134 s135a s135l s135c x136 x137 a138 s139a s139l s139c w140 K Y7)) (f4_s15 b132 b133 x134 s135a s135l s135c x136 x137 a138 s139a s139l s139c w K Y7)) := by
  have h0 : f4_s14 b131 b132 b133 x134 s135a s135l s135c x136 x137 a138 s139a s139l s139c w K Y7 = CS P (codeAt c4 [1, 1, 1, 1, 0, 1, 0, 0, 1, 1, 0, 0, 1, 1, 0, 0, 1, 0, 1, 1]) none [4, 5, 1, 25, 26, 27, 8, 6] [4, 5, 6, 1, 25, 26, 27, 8] (f4_k16 K Y7) (Env.mk 107 [(52, (Value.bool b131)), (4, (Value.bool b132)), (5, (Value.bool b133)), (1, (Value.int .i64 x134)), (25, (Value.slice s135a s135l s135c)), (26, (Value.int .i64 x136)), (27, (Value.int .i64 x137)), (8, (Value.pointer (some a138))), (6, (Value.slice s139a s139l s139c))] []) w := by kernel_rfl
  have h1 : CS P (codeAt c4 [1, 1, 1, 1, 0, 1, 0, 0, 1, 1, 0, 0, 1, 1, 0, 0, 1, 0, 1, 1]) none [4, 5, 1, 25, 26, 27, 8, 6] [4, 5, 6, 1, 25, 26, 27, 8] (f4_k16 K Y7) (Env.mk 107 [(52, (Value.bool b131)), (4, (Value.bool b132)), (5, (Value.bool b133)), (1, (Value.int .i64 x134)), (25, (Value.slice s135a s135l s135c)), (26, (Value.int .i64 x136)), (27, (Value.int .i64 x137)), (8, (Value.pointer (some a138))), (6, (Value.slice s139a s139l s139c))] []) w = (BIf b131 (St1 a138 (Value.int .i64 1) w (fun w140 => f4_s15 b132 b133 x134 s135a s135l s135c x136 x137 a138 s139a s139l s139c w140 K Y7)) (f4_s15 b132 b133 x134 s135a s135l s135c x136 x137 a138 s139a s139l s139c w K Y7)) := by kernel_rfl
  exact h0.trans (h1)
theorem f4_s13_eq (b122 : Bool) (b123 : Bool) (x124 : Int) (s125a : Option Addr) (s125l : Nat) (s125c : Nat) (x126 : Int) (x127 : Int) (a128 : Addr) (s129a : Option Addr) (s129l : Nat) (s129c : Nat) (w : World) (K : Value → World → Prop) (Y7 : Env → World → Prop) : f4_s13 b122 b123 x124 s125a s125l s125c x126 x127 a128 s129a s129l s129c w K Y7 = (∃ x130 : Int, w.cell? a128 = some (Value.int .i64 x130) ∧ BIf ((x130 : Int) == 11) (f4_s14 true b122 b123 x124 s125a s125l s125c x126 x127 a128 s129a s129l s129c w K Y7) (∃ x156 : Int, w.cell? a128 = some (Value.int .i64 x156) ∧ f4_s14 ((x156 : Int) == 13) b122 b123 x124 s125a s125l s125c x126 x127 a128 s129a s129l s129c w K Y7)) := by
  have h0 : f4_s13 b122 b123 x124 s125a s125l s125c x126 x127 a128 s129a s129l s129c w K Y7 = CS P (codeAt c4 [1, 1, 1, 1, 0, 1, 0, 0, 1, 1, 0, 0, 1, 1, 0, 0, 1, 0, 1]) none [4, 5, 1, 25, 26, 27, 8, 6] [4, 5, 6, 1, 25, 26, 27, 8] (f4_k16 K Y7) (Env.mk 107 [(4, (Value.bool b122)), (5, (Value.bool b123)), (1, (Value.int .i64 x124)), (25, (Value.slice s125a s125l s125c)), (26, (Value.int .i64 x126)), (27, (Value.int .i64 x127)), (8, (Value.pointer (some a128))), (6, (Value.slice s129a s129l s129c))] []) w := by kernel_rfl
  have h1 : CS P (codeAt c4 [1, 1, 1, 1, 0, 1, 0, 0, 1, 1, 0, 0, 1, 1, 0, 0, 1, 0, 1]) none [4, 5, 1, 25, 26, 27, 8, 6] [4, 5, 6, 1, 25, 26, 27, 8] (f4_k16 K Y7) (Env.mk 107 [(4, (Value.bool b122)), (5, (Value.bool b123)), (1, (Value.int .i64 x124)), (25, (Value.slice s125a s125l s125c)), (26, (Value.int .i64 x126)), (27, (Value.int .i64 x127)), (8, (Value.pointer (some a128))), (6, (Value.slice s129a s129l s129c))] []) w = (CS P (codeAt c4 [1, 1, 1, 1, 0, 1, 0, 0, 1, 1, 0, 0, 1, 1, 0, 0, 1, 0, 1, 0]) none [52, 4, 5, 1, 25, 26, 27, 8, 6] [4, 5, 6, 1, 25, 26, 27, 8] (f4_k20 K Y7) (Env.mk 107 [(4, (Value.bool b122)), (5, (Value.bool b123)), (1, (Value.int .i64 x124)), (25, (Value.slice s125a s125l s125c)), (26, (Value.int .i64 x126)), (27, (Value.int .i64 x127)), (8, (Value.pointer (some a128))), (6, (Value.slice s129a s129l s129c))] []) w) := CS_seq' (a := (codeAt c4 [1, 1, 1, 1, 0, 1, 0, 0, 1, 1, 0, 0, 1, 1, 0, 0, 1, 0, 1, 0])) (b := (codeAt c4 [1, 1, 1, 1, 0, 1, 0, 0, 1, 1, 0, 0, 1, 1, 0, 0, 1, 0, 1, 1])) (by kernel_rfl) (by kernel_rfl)
  have h2 : CS P (codeAt c4 [1, 1, 1, 1, 0, 1, 0, 0, 1, 1, 0, 0, 1, 1, 0, 0, 1, 0, 1, 0]) none [52, 4, 5, 1, 25, 26, 27, 8, 6] [4, 5, 6, 1, 25, 26, 27, 8] (f4_k20 K Y7) (Env.mk 107 [(4, (Value.bool b122)), (5, (Value.bool b123)), (1, (Value.int .i64 x124)), (25, (Value.slice s125a s125l s125c)), (26, (Value.int .i64 x126)), (27, (Value.int .i64 x127)), (8, (Value.pointer (some a128))), (6, (Value.slice s129a s129l s129c))] []) w = (∃ x130 : Int, w.cell? a128 = some (Value.int .i64 x130) ∧ BIf ((x130 : Int) == 11) (f4_s14 true b122 b123 x124 s125a s125l s125c x126 x127 a128 s129a s129l s129c w K Y7) (∃ x156 : Int, w.cell? a128 = some (Value.int .i64 x156) ∧ f4_s14 ((x156 : Int) == 13) b122 b123 x124 s125a s125l s125c x126 x127 a128 s129a s129l s129c w K Y7)) := by kernel_rfl
  exact h0.trans (h1.trans (h2))
abbrev f4_k21 (K : Value → World → Prop) (Y7 : Env → World → Prop) : Exit → Env → World → Prop := kseq P (codeAt c4 [1, 1, 1, 1, 0, 1, 0, 0, 1, 1, 0, 0, 1, 1, 0, 0, 1, 1, 0]) (codeAt c4 [1, 1, 1, 1, 0, 1, 0, 0, 1, 1, 0, 0, 1, 1, 0, 0, 1, 1, 1]) none [4, 5, 1, 25, 26, 27, 8, 6] [4, 5, 6, 1, 25, 26, 27, 8] (f4_k16 K Y7)
def f4_s16 (b157 : Bool) (b158 : Bool) (b159 : Bool) (x160 : Int) (s161a : Option Addr) (s161l : Nat) (s161c : Nat) (x162 : Int) (x163 : Int) (a164 : Addr) (s165a : Option Addr) (s165l : Nat) (s165c : Nat) (b166 : Bool) (b167 : Bool) (w : World) (K : Value → World → Prop) (Y7 : Env → World → Prop) : Prop := Join (fun e w => CS P (codeAt c4 [1, 1, 1, 1, 0, 1, 0, 0, 1, 1, 0, 0, 1, 1, 0, 0, 1, 1, 1]) none [4, 5, 1, 25, 26, 27, 8, 6] [4, 5, 6, 1, 25, 26, 27, 8] (f4_k16 K Y7) e w) (Env.mk 107 [(54, (Value.bool b157)), (4, (Value.bool b158)), (5, (Value.bool b159)), (1, (Value.int .i64 x160)), (25, (Value.slice s161a s161l s161c)), (26, (Value.int .i64 x162)), (27, (Value.int .i64 x163)), (8, (Value.pointer (some a164))), (6, (Value.slice s165a s165l s165c)), (10, (Value.bool b166)), (11, (Value.bool b167))] []) w
abbrev f4_k22 (K : Value → World → Prop) (Y7 : Env → World → Prop) : Exit → Env → World → Prop := kseq P (codeAt c4 [1, 1, 1, 1, 0, 1, 0, 0, 1, 1, 0, 0, 1, 1, 0, 0, 1, 1, 1, 1, 0]) (codeAt c4 [1, 1, 1, 1, 0, 1, 0, 0, 1, 1, 0, 0, 1, 1, 0, 0, 1, 1, 1, 1, 1]) none [4, 5, 1, 25, 26, 27, 8, 6] [4, 5, 6, 1, 25, 26, 27, 8] (f4_k16 K Y7)
def f4_s17 (b169 : Bool) (b170 : Bool) (b171 : Bool) (x172 : Int) (s173a : Option Addr) (s173l : Nat) (s173c : Nat) (x174 : Int) (x175 : Int) (a176 : Addr) (s177a : Option Addr) (s177l : Nat) (s177c : Nat) (w : World) (K : Value → World → Prop) (Y7 : Env → World → Prop) : Prop := Join (fun e w => CS P (codeAt c4 [1, 1, 1, 1, 0, 1, 0, 0, 1, 1, 0, 0, 1, 1, 0, 0, 1, 1, 1, 1, 1]) none [4, 5, 1, 25, 26, 27, 8, 6] [4, 5, 6, 1, 25, 26, 27, 8] (f4_k16 K Y7) e w) (Env.mk 107 [(61, (Value.bool b169)), (4, (Value.bool b170)), (5, (Value.bool b171)), (1, (Value.int .i64 x172)), (25, (Value.slice s173a s173l s173c)), (26, (Value.int .i64 x174)), (27, (Value.int .i64 x175)), (8, (Value.pointer (some a176))), (6, (Value.slice s177a s177l s177c))] []) w
theorem f4_s17_eq (b169 : Bool) (b170 : Bool) (b171 : Bool) (x172 : Int) (s173a : Option Addr) (s173l : Nat) (s173c : Nat) (x174 : Int) (x175 : Int) (a176 : Addr) (s177a : Option Addr) (s177l : Nat) (s177c : Nat) (w : World) (K : Value → World → Prop) (Y7 : Env → World → Prop) : f4_s17 b169 b170 b171 x172 s173a s173l s173c x174 x175 a176 s177a s177l s177c w K Y7 = (BIf b169 (∃ x178 : Int, w.cell? (a176.add 5) = some (Value.int .i64 x178) ∧ St1 a176 (Value.int .i64 4) w (fun w179 => St1 (a176.add 5) (Value.int .i64 (IntKind.wrap .i64 ((1 : Int) + (IntKind.wrap .i64 ((BitVec.ofInt (IntKind.bits .i64) (x178 : Int) &&& BitVec.ofInt (IntKind.bits .i64) 3).toNat : Int))))) w179 (fun w180 => f4_s15 b170 b171 x172 s173a s173l s173c x174 x175 a176 s177a s177l s177c w180 K Y7))) (f4_s15 b170 b171 x172 s173a s173l s173c x174 x175 a176 s177a s177l s177c w K Y7)) := by
  have h0 : f4_s17 b169 b170 b171 x172 s173a s173l s173c x174 x175 a176 s177a s177l s177c w K Y7 = CS P (codeAt c4 [1, 1, 1, 1, 0, 1, 0, 0, 1, 1, 0, 0, 1, 1, 0, 0, 1, 1, 1, 1, 1]) none [4, 5, 1, 25, 26, 27, 8, 6] [4, 5, 6, 1, 25, 26, 27, 8] (f4_k16 K Y7) (Env.mk 107 [(61, (Value.bool b169)), (4, (Value.bool b170)), (5, (Value.bool b171)), (1, (Value.int .i64 x172)), (25, (Value.slice s173a s173l s173c)), (26, (Value.int .i64 x174)), (27, (Value.int .i64 x175)), (8, (Value.pointer (some a176))), (6, (Value.slice s177a s177l s177c))] []) w := by kernel_rfl
  have h1 : CS P (codeAt c4 [1, 1, 1, 1, 0, 1, 0, 0, 1, 1, 0, 0, 1, 1, 0, 0, 1, 1, 1, 1, 1]) none [4, 5, 1, 25, 26, 27, 8, 6] [4, 5, 6, 1, 25, 26, 27, 8] (f4_k16 K Y7) (Env.mk 107 [(61, (Value.bool b169)), (4, (Value.bool b170)), (5, (Value.bool b171)), (1, (Value.int .i64 x172)), (25, (Value.slice s173a s173l s173c)), (26, (Value.int .i64 x174)), (27, (Value.int .i64 x175)), (8, (Value.pointer (some a176))), (6, (Value.slice s177a s177l s177c))] []) w = (BIf b169 (∃ x178 : Int, w.cell? (a176.add 5) = some (Value.int .i64 x178) ∧ St1 a176 (Value.int .i64 4) w (fun w179 => St1 (a176.add 5) (Value.int .i64 (IntKind.wrap .i64 ((1 : Int) + (IntKind.wrap .i64 ((BitVec.ofInt (IntKind.bits .i64) (x178 : Int) &&& BitVec.ofInt (IntKind.bits .i64) 3).toNat : Int))))) w179 (fun w180 => f4_s15 b170 b171 x172 s173a s173l s173c x174 x175 a176 s177a s177l s177c w180 K Y7))) (f4_s15 b170 b171 x172 s173a s173l s173c x174 x175 a176 s177a s177l s177c w K Y7)) := by kernel_rfl
  exact h0.trans (h1)
theorem f4_s16_eq (b157 : Bool) (b158 : Bool) (b159 : Bool) (x160 : Int) (s161a : Option Addr) (s161l : Nat) (s161c : Nat) (x162 : Int) (x163 : Int) (a164 : Addr) (s165a : Option Addr) (s165l : Nat) (s165c : Nat) (b166 : Bool) (b167 : Bool) (w : World) (K : Value → World → Prop) (Y7 : Env → World → Prop) : f4_s16 b157 b158 b159 x160 s161a s161l s161c x162 x163 a164 s165a s165l s165c b166 b167 w K Y7 = (BIf b157 (St1 a164 (Value.int .i64 2) w (fun w168 => f4_s15 b158 b159 x160 s161a s161l s161c x162 x163 a164 s165a s165l s165c w168 K Y7)) (BIf ((x160 : Int) != 1) (BIf (!b167) (BIf b166 (f4_s17 true b158 b159 x160 s161a s161l s161c x162 x163 a164 s165a s165l s165c w K Y7) (∃ x181 : Int, w.cell? a164 = some (Value.int .i64 x181) ∧ BIf ((x181 : Int) == 2) (f4_s17 true b158 b159 x160 s161a s161l s161c x162 x163 a164 s165a s165l s165c w K Y7) (∃ x182 : Int, w.cell? a164 = some (Value.int .i64 x182) ∧ f4_s17 ((x182 : Int) == 23) b158 b159 x160 s161a s161l s161c x162 x163 a164 s165a s165l s165c w K Y7))) (f4_s17 false b158 b159 x160 s161a s161l s161c x162 x163 a164 s165a s165l s165c w K Y7)) (f4_s17 false b158 b159 x160 s161a s161l s161c x162 x163 a164 s165a s165l s165c w K Y7))) := by
  have h0 : f4_s16 b157 b158 b159 x160 s161a s161l s161c x162 x163 a164 s165a s165l s165c b166 b167 w K Y7 = CS P (codeAt c4 [1, 1, 1, 1, 0, 1, 0, 0, 1, 1, 0, 0, 1, 1, 0, 0, 1, 1, 1]) none [4, 5, 1, 25, 26, 27, 8, 6] [4, 5, 6, 1, 25, 26, 27, 8] (f4_k16 K Y7) (Env.mk 107 [(54, (Value.bool b157)), (4, (Value.bool b158)), (5, (Value.bool b159)), (1, (Value.int .i64 x160)), (25, (Value.slice s161a s161l s161c)), (26, (Value.int .i64 x162)), (27, (Value.int .i64 x163)), (8, (Value.pointer (some a164))), (6, (Value.slice s165a s165l s165c)), (10, (Value.bool b166)), (11, (Value.bool b167))] []) w := by kernel_rfl
  have h1 : CS P (codeAt c4 [1, 1, 1, 1, 0, 1, 0, 0, 1, 1, 0, 0, 1, 1, 0, 0, 1, 1, 1]) none [4, 5, 1, 25, 26, 27, 8, 6] [4, 5, 6, 1, 25, 26, 27, 8] (f4_k16 K Y7) (Env.mk 107 [(54, (Value.bool b157)), (4, (Value.bool b158)), (5, (Value.bool b159)), (1, (Value.int .i64 x160)), (25, (Value.slice s161a s161l s161c)), (26, (Value.int .i64 x162)), (27, (Value.int .i64 x163)), (8, (Value.pointer (some a164))), (6, (Value.slice s165a s165l s165c)), (10, (Value.bool b166)), (11, (Value.bool b167))] []) w = (BIf b157 (St1 a164 (Value.int .i64 2) w (fun w168 => f4_s15 b158 b159 x160 s161a s161l s161c x162 x163 a164 s165a s165l s165c w168 K Y7)) (BIf ((x160 : Int) != 1) (BIf (!b167) (BIf b166 (f4_s17 true b158 b159 x160 s161a s161l s161c x162 x163 a164 s165a s165l s165c w K Y7) (∃ x181 : Int, w.cell? a164 = some (Value.int .i64 x181) ∧ BIf ((x181 : Int) == 2) (f4_s17 true b158 b159 x160 s161a s161l s161c x162 x163 a164 s165a s165l s165c w K Y7) (∃ x182 : Int, w.cell? a164 = some (Value.int .i64 x182) ∧ f4_s17 ((x182 : Int) == 23) b158 b159 x160 s161a s161l s161c x162 x163 a164 s165a s165l s165c w K Y7))) (f4_s17 false b158 b159 x160 s161a s161l s161c x162 x163 a164 s165a s165l s165c w K Y7)) (f4_s17 false b158 b159 x160 s161a s161l s161c x162 x163 a164 s165a s165l s165c w K Y7))) := by kernel_rfl
  exact h0.trans (h1)
theorem f4_s11_eq (b89 : Bool) (b90 : Bool) (b91 : Bool) (b92 : Bool) (b93 : Bool) (b94 : Bool) (b95 : Bool) (b96 : Bool) (b97 : Bool) (b98 : Bool) (b99 : Bool) (b100 : Bool) (cs101 : Array Value) (x102 : Int) (a103 : Addr) (a104 : Addr) (cs105 : Array Value) (a106 : Addr) (b107 : Bool) (b108 : Bool) (s109a : Option Addr) (s109l : Nat) (s109c : Nat) (x110 : Int) (s111a : Option Addr) (s111l : Nat) (s111c : Nat) (x112 : Int) (x113 : Int) (w : World) (K : Value → World → Prop) (Y7 : Env → World → Prop) : f4_s11 b89 b90 b91 b92 b93 b94 b95 b96 b97 b98 b99 b100 cs101 x102 a103 a104 cs105 a106 b107 b108 s109a s109l s109c x110 s111a s111l s111c x112 x113 w K Y7 = (BIf ((x110 : Int) == 0) (∃ x114 : Int, w.cell? (a104.add 1) = some (Value.int .i64 x114) ∧ BIf ((x114 : Int) != 0) (f4_s12 b107 b108 s109a s109l s109c x110 s111a s111l s111c x112 x113 w K Y7) (f4_s13 b107 b108 x110 s111a s111l s111c x112 x113 a104 s109a s109l s109c w K Y7)) (BIf ((x110 : Int) == 1) (f4_s16 b90 b107 b108 x110 s111a s111l s111c x112 x113 a104 s109a s109l s109c b90 b89 w K Y7) (f4_s16 false b107 b108 x110 s111a s111l s111c x112 x113 a104 s109a s109l s109c b90 b89 w K Y7))) := by
  have h0 : f4_s11 b89 b90 b91 b92 b93 b94 b95 b96 b97 b98 b99 b100 cs101 x102 a103 a104 cs105 a106 b107 b108 s109a s109l s109c x110 s111a s111l s111c x112 x113 w K Y7 = CS P (codeAt c4 [1, 1, 1, 1, 0, 1, 0, 0, 1, 1, 0, 0, 1, 1]) none [4, 5, 6, 1, 25, 26, 27] [4, 5, 6, 1, 25, 26, 27] (f4_k12 K Y7) (Env.mk 107 [(11, (Value.bool b89)), (10, (Value.bool b90)), (9, (Value.bool b91)), (38, (Value.bool b92)), (37, (Value.bool b93)), (36, (Value.bool b94)), (31, (Value.tuple [(Value.bool b95), (Value.bool b96), (Value.bool b97)].toArray)), (35, (Value.tuple [(Value.bool b98), (Value.bool b99), (Value.bool b100)].toArray)), (34, (Value.agg cs101)), (33, (Value.int .i64 x102)), (32, (Value.pointer (some a103))), (8, (Value.pointer (some a104))), (30, (Value.agg cs105)), (29, (Value.pointer (some a106))), (4, (Value.bool b107)), (5, (Value.bool b108)), (6, (Value.slice s109a s109l s109c)), (1, (Value.int .i64 x110)), (25, (Value.slice s111a s111l s111c)), (26, (Value.int .i64 x112)), (27, (Value.int .i64 x113))] []) w := by kernel_rfl
  have h1 : CS P (codeAt c4 [1, 1, 1, 1, 0, 1, 0, 0, 1, 1, 0, 0, 1, 1]) none [4, 5, 6, 1, 25, 26, 27] [4, 5, 6, 1, 25, 26, 27] (f4_k12 K Y7) (Env.mk 107 [(11, (Value.bool b89)), (10, (Value.bool b90)), (9, (Value.bool b91)), (38, (Value.bool b92)), (37, (Value.bool b93)), (36, (Value.bool b94)), (31, (Value.tuple [(Value.bool b95), (Value.bool b96), (Value.bool b97)].toArray)), (35, (Value.tuple [(Value.bool b98), (Value.bool b99), (Value.bool b100)].toArray)), (34, (Value.agg cs101)), (33, (Value.int .i64 x102)), (32, (Value.pointer (some a103))), (8, (Value.pointer (some a104))), (30, (Value.agg cs105)), (29, (Value.pointer (some a106))), (4, (Value.bool b107)), (5, (Value.bool b108)), (6, (Value.slice s109a s109l s109c)), (1, (Value.int .i64 x110)), (25, (Value.slice s111a s111l s111c)), (26, (Value.int .i64 x112)), (27, (Value.int .i64 x113))] []) w = (CS P (codeAt c4 [1, 1, 1, 1, 0, 1, 0, 0, 1, 1, 0, 0, 1, 1, 0]) none [4, 5, 1, 25, 26, 27, 8, 6] [4, 5, 6, 1, 25, 26, 27] (f4_k15 K Y7) (Env.mk 107 [(11, (Value.bool b89)), (10, (Value.bool b90)), (9, (Value.bool b91)), (38, (Value.bool b92)), (37, (Value.bool b93)), (36, (Value.bool b94)), (31, (Value.tuple [(Value.bool b95), (Value.bool b96), (Value.bool b97)].toArray)), (35, (Value.tuple [(Value.bool b98), (Value.bool b99), (Value.bool b100)].toArray)), (34, (Value.agg cs101)), (33, (Value.int .i64 x102)), (32, (Value.pointer (some a103))), (8, (Value.pointer (some a104))), (30, (Value.agg cs105)), (29, (Value.pointer (some a106))), (4, (Value.bool b107)), (5, (Value.bool b108)), (6, (Value.slice s109a s109l s109c)), (1, (Value.int .i64 x110)), (25, (Value.slice s111a s111l s111c)), (26, (Value.int .i64 x112)), (27, (Value.int .i64 x113))] []) w) := CS_seq' (a := (codeAt c4 [1, 1, 1, 1, 0, 1, 0, 0, 1, 1, 0, 0, 1, 1, 0])) (b := (codeAt c4 [1, 1, 1, 1, 0, 1, 0, 0, 1, 1, 0, 0, 1, 1, 1])) (by kernel_rfl) (by kernel_rfl)
  have h2 : CS P (codeAt c4 [1, 1, 1, 1, 0, 1, 0, 0, 1, 1, 0, 0, 1, 1, 0]) none [4, 5, 1, 25, 26, 27, 8, 6] [4, 5, 6, 1, 25, 26, 27] (f4_k15 K Y7) (Env.mk 107 [(11, (Value.bool b89)), (10, (Value.bool b90)), (9, (Value.bool b91)), (38, (Value.bool b92)), (37, (Value.bool b93)), (36, (Value.bool b94)), (31, (Value.tuple [(Value.bool b95), (Value.bool b96), (Value.bool b97)].toArray)), (35, (Value.tuple [(Value.bool b98), (Value.bool b99), (Value.bool b100)].toArray)), (34, (Value.agg cs101)), (33, (Value.int .i64 x102)), (32, (Value.pointer (some a103))), (8, (Value.pointer (some a104))), (30, (Value.agg cs105)), (29, (Value.pointer (some a106))), (4, (Value.bool b107)), (5, (Value.bool b108)), (6, (Value.slice s109a s109l s109c)), (1, (Value.int .i64 x110)), (25, (Value.slice s111a s111l s111c)), (26, (Value.int .i64 x112)), (27, (Value.int .i64 x113))] []) w = (CS P (codeAt c4 [1, 1, 1, 1, 0, 1, 0, 0, 1, 1, 0, 0, 1, 1, 0, 0]) none [4, 5, 1, 25, 26, 27, 8, 6] [4, 5, 6, 1, 25, 26, 27, 8] (f4_k16 K Y7) (Env.mk 107 [(11, (Value.bool b89)), (10, (Value.bool b90)), (9, (Value.bool b91)), (38, (Value.bool b92)), (37, (Value.bool b93)), (36, (Value.bool b94)), (31, (Value.tuple [(Value.bool b95), (Value.bool b96), (Value.bool b97)].toArray)), (35, (Value.tuple [(Value.bool b98), (Value.bool b99), (Value.bool b100)].toArray)), (34, (Value.agg cs101)), (33, (Value.int .i64 x102)), (32, (Value.pointer (some a103))), (8, (Value.pointer (some a104))), (30, (Value.agg cs105)), (29, (Value.pointer (some a106))), (4, (Value.bool b107)), (5, (Value.bool b108)), (6, (Value.slice s109a s109l s109c)), (1, (Value.int .i64 x110)), (25, (Value.slice s111a s111l s111c)), (26, (Value.int .i64 x112)), (27, (Value.int .i64 x113))] []) w) := CS_block' (b := (codeAt c4 [1, 1, 1, 1, 0, 1, 0, 0, 1, 1, 0, 0, 1, 1, 0, 0])) (by kernel_rfl) (by kernel_rfl)
  have h3 : CS P (codeAt c4 [1, 1, 1, 1, 0, 1, 0, 0, 1, 1, 0, 0, 1, 1, 0, 0]) none [4, 5, 1, 25, 26, 27, 8, 6] [4, 5, 6, 1, 25, 26, 27, 8] (f4_k16 K Y7) (Env.mk 107 [(11, (Value.bool b89)), (10, (Value.bool b90)), (9, (Value.bool b91)), (38, (Value.bool b92)), (37, (Value.bool b93)), (36, (Value.bool b94)), (31, (Value.tuple [(Value.bool b95), (Value.bool b96), (Value.bool b97)].toArray)), (35, (Value.tuple [(Value.bool b98), (Value.bool b99), (Value.bool b100)].toArray)), (34, (Value.agg cs101)), (33, (Value.int .i64 x102)), (32, (Value.pointer (some a103))), (8, (Value.pointer (some a104))), (30, (Value.agg cs105)), (29, (Value.pointer (some a106))), (4, (Value.bool b107)), (5, (Value.bool b108)), (6, (Value.slice s109a s109l s109c)), (1, (Value.int .i64 x110)), (25, (Value.slice s111a s111l s111c)), (26, (Value.int .i64 x112)), (27, (Value.int .i64 x113))] []) w = (CS P (codeAt c4 [1, 1, 1, 1, 0, 1, 0, 0, 1, 1, 0, 0, 1, 1, 0, 0, 0]) none [39, 4, 5, 6, 1, 25, 26, 27, 8, 10, 11] [4, 5, 6, 1, 25, 26, 27, 8] (f4_k17 K Y7) (Env.mk 107 [(11, (Value.bool b89)), (10, (Value.bool b90)), (9, (Value.bool b91)), (38, (Value.bool b92)), (37, (Value.bool b93)), (36, (Value.bool b94)), (31, (Value.tuple [(Value.bool b95), (Value.bool b96), (Value.bool b97)].toArray)), (35, (Value.tuple [(Value.bool b98), (Value.bool b99), (Value.bool b100)].toArray)), (34, (Value.agg cs101)), (33, (Value.int .i64 x102)), (32, (Value.pointer (some a103))), (8, (Value.pointer (some a104))), (30, (Value.agg cs105)), (29, (Value.pointer (some a106))), (4, (Value.bool b107)), (5, (Value.bool b108)), (6, (Value.slice s109a s109l s109c)), (1, (Value.int .i64 x110)), (25, (Value.slice s111a s111l s111c)), (26, (Value.int .i64 x112)), (27, (Value.int .i64 x113))] []) w) := CS_seq' (a := (codeAt c4 [1, 1, 1, 1, 0, 1, 0, 0, 1, 1, 0, 0, 1, 1, 0, 0, 0])) (b := (codeAt c4 [1, 1, 1, 1, 0, 1, 0, 0, 1, 1, 0, 0, 1, 1, 0, 0, 1])) (by kernel_rfl) (by kernel_rfl)
  have h4 : CS P (codeAt c4 [1, 1, 1, 1, 0, 1, 0, 0, 1, 1, 0, 0, 1, 1, 0, 0, 0]) none [39, 4, 5, 6, 1, 25, 26, 27, 8, 10, 11] [4, 5, 6, 1, 25, 26, 27, 8] (f4_k17 K Y7) (Env.mk 107 [(11, (Value.bool b89)), (10, (Value.bool b90)), (9, (Value.bool b91)), (38, (Value.bool b92)), (37, (Value.bool b93)), (36, (Value.bool b94)), (31, (Value.tuple [(Value.bool b95), (Value.bool b96), (Value.bool b97)].toArray)), (35, (Value.tuple [(Value.bool b98), (Value.bool b99), (Value.bool b100)].toArray)), (34, (Value.agg cs101)), (33, (Value.int .i64 x102)), (32, (Value.pointer (some a103))), (8, (Value.pointer (some a104))), (30, (Value.agg cs105)), (29, (Value.pointer (some a106))), (4, (Value.bool b107)), (5, (Value.bool b108)), (6, (Value.slice s109a s109l s109c)), (1, (Value.int .i64 x110)), (25, (Value.slice s111a s111l s111c)), (26, (Value.int .i64 x112)), (27, (Value.int .i64 x113))] []) w = (BIf ((x110 : Int) == 0) (∃ x114 : Int, w.cell? (a104.add 1) = some (Value.int .i64 x114) ∧ BIf ((x114 : Int) != 0) (f4_s12 b107 b108 s109a s109l s109c x110 s111a s111l s111c x112 x113 w K Y7) (f4_s13 b107 b108 x110 s111a s111l s111c x112 x113 a104 s109a s109l s109c w K Y7)) (BIf ((x110 : Int) == 1) (f4_s16 b90 b107 b108 x110 s111a s111l s111c x112 x113 a104 s109a s109l s109c b90 b89 w K Y7) (f4_s16 false b107 b108 x110 s111a s111l s111c x112 x113 a104 s109a s109l s109c b90 b89 w K Y7))) := by kernel_rfl
  exact h0.trans (h1.trans (h2.trans (h3.trans (h4))))
theorem f4_s10_eq (a72 : Addr) (cs73 : Array Value) (a74 : Addr) (b75 : Bool) (b76 : Bool) (s77a : Option Addr) (s77l : Nat) (s77c : Nat) (x78 : Int) (s79a : Option Addr) (s79l : Nat) (s79c : Nat) (x80 : Int) (x81 : Int) (w : World) (K : Value → World → Prop) (Y7 : Env → World → Prop) : f4_s10 a72 cs73 a74 b75 b76 s77a s77l s77c x78 s79a s79l s79c x80 x81 w K Y7 = (∃ x82 : Int, w.cell? a72 = some (Value.int .i64 x82) ∧ ∃ cs83 : Array Value, (∀ wq, (Instr.build 35 [(0, (Value.int .i64 x82)), (5, (Value.int .i64 1))].toArray).run P wq = .ok (Value.agg cs83) wq) ∧ CallL P 18 [(Value.agg cs83), (Value.int .u32 0)] w (fun r84 w85 => ∃ b86 : Bool, ∃ b87 : Bool, ∃ b88 : Bool, r84 = (Value.tuple [(Value.bool b86), (Value.bool b87), (Value.bool b88)].toArray) ∧ f4_s11 b88 b87 b86 b88 b87 b86 b86 b87 b88 b86 b87 b88 cs83 x82 a72 a72 cs73 a74 b75 b76 s77a s77l s77c x78 s79a s79l s79c x80 x81 w85 K Y7)) := by
  have h0 : f4_s10 a72 cs73 a74 b75 b76 s77a s77l s77c x78 s79a s79l s79c x80 x81 w K Y7 = CS P (codeAt c4 [1, 1, 1, 1, 0, 1, 0, 0, 1, 1, 0, 0, 1]) none [4, 5, 6, 1, 25, 26, 27] [4, 5, 6, 1, 25, 26, 27] (f4_k12 K Y7) (Env.mk 107 [(8, (Value.pointer (some a72))), (30, (Value.agg cs73)), (29, (Value.pointer (some a74))), (4, (Value.bool b75)), (5, (Value.bool b76)), (6, (Value.slice s77a s77l s77c)), (1, (Value.int .i64 x78)), (25, (Value.slice s79a s79l s79c)), (26, (Value.int .i64 x80)), (27, (Value.int .i64 x81))] []) w := by kernel_rfl
  have h1 : CS P (codeAt c4 [1, 1, 1, 1, 0, 1, 0, 0, 1, 1, 0, 0, 1]) none [4, 5, 6, 1, 25, 26, 27] [4, 5, 6, 1, 25, 26, 27] (f4_k12 K Y7) (Env.mk 107 [(8, (Value.pointer (some a72))), (30, (Value.agg cs73)), (29, (Value.pointer (some a74))), (4, (Value.bool b75)), (5, (Value.bool b76)), (6, (Value.slice s77a s77l s77c)), (1, (Value.int .i64 x78)), (25, (Value.slice s79a s79l s79c)), (26, (Value.int .i64 x80)), (27, (Value.int .i64 x81))] []) w = (CS P (codeAt c4 [1, 1, 1, 1, 0, 1, 0, 0, 1, 1, 0, 0, 1, 0]) none [4, 5, 6, 1, 25, 26, 27, 8, 10, 11] [4, 5, 6, 1, 25, 26, 27] (f4_k14 K Y7) (Env.mk 107 [(8, (Value.pointer (some a72))), (30, (Value.agg cs73)), (29, (Value.pointer (some a74))), (4, (Value.bool b75)), (5, (Value.bool b76)), (6, (Value.slice s77a s77l s77c)), (1, (Value.int .i64 x78)), (25, (Value.slice s79a s79l s79c)), (26, (Value.int .i64 x80)), (27, (Value.int .i64 x81))] []) w) := CS_seq' (a := (codeAt c4 [1, 1, 1, 1, 0, 1, 0, 0, 1, 1, 0, 0, 1, 0])) (b := (codeAt c4 [1, 1, 1, 1, 0, 1, 0, 0, 1, 1, 0, 0, 1, 1])) (by kernel_rfl) (by kernel_rfl)
  have h2 : CS P (codeAt c4 [1, 1, 1, 1, 0, 1, 0, 0, 1, 1, 0, 0, 1, 0]) none [4, 5, 6, 1, 25, 26, 27, 8, 10, 11] [4, 5, 6, 1, 25, 26, 27] (f4_k14 K Y7) (Env.mk 107 [(8, (Value.pointer (some a72))), (30, (Value.agg cs73)), (29, (Value.pointer (some a74))), (4, (Value.bool b75)), (5, (Value.bool b76)), (6, (Value.slice s77a s77l s77c)), (1, (Value.int .i64 x78)), (25, (Value.slice s79a s79l s79c)), (26, (Value.int .i64 x80)), (27, (Value.int .i64 x81))] []) w = (∃ x82 : Int, w.cell? a72 = some (Value.int .i64 x82) ∧ ∃ cs83 : Array Value, (∀ wq, (Instr.build 35 [(0, (Value.int .i64 x82)), (5, (Value.int .i64 1))].toArray).run P wq = .ok (Value.agg cs83) wq) ∧ CallL P 18 [(Value.agg cs83), (Value.int .u32 0)] w (fun r84 w85 => ∃ b86 : Bool, ∃ b87 : Bool, ∃ b88 : Bool, r84 = (Value.tuple [(Value.bool b86), (Value.bool b87), (Value.bool b88)].toArray) ∧ f4_s11 b88 b87 b86 b88 b87 b86 b86 b87 b88 b86 b87 b88 cs83 x82 a72 a72 cs73 a74 b75 b76 s77a s77l s77c x78 s79a s79l s79c x80 x81 w85 K Y7)) := by kernel_rfl
  exact h0.trans (h1.trans (h2))
theorem f4_s9_eq (b60 : Bool) (b61 : Bool) (s62a : Option Addr) (s62l : Nat) (s62c : Nat) (x63 : Int) (s64a : Option Addr) (s64l : Nat) (s64c : Nat) (x65 : Int) (x66 : Int) (w : World) (K : Value → World → Prop) (Y7 : Env → World → Prop) : f4_s9 b60 b61 s62a s62l s62c x63 s64a s64l s64c x65 x66 w K Y7 = (optS s64a (fun a67 => 0 ≤ (x66 : Int) ∧ (x66 : Int) < (s64l : Nat) ∧ LdA 6 (a67.add (Int.toNat x66 * 6)) w (fun cs68 => NewC (zcells P 35) 35 w (fun n69 w70 => StA 6 (Addr.mk n69 0 none) cs68 w70 (fun w71 => f4_s10 (Addr.mk n69 0 none) cs68 (a67.add (Int.toNat x66 * 6)) b60 b61 s62a s62l s62c x63 s64a s64l s64c x65 x66 w71 K Y7))))) := by
  have h0 : f4_s9 b60 b61 s62a s62l s62c x63 s64a s64l s64c x65 x66 w K Y7 = CS P (codeAt c4 [1, 1, 1, 1, 0, 1, 0, 0, 1, 1]) none [4, 5, 6, 27, 1, 25, 26] [4, 5, 6] (f4_kl7 K Y7) (Env.mk 107 [(4, (Value.bool b60)), (5, (Value.bool b61)), (6, (Value.slice s62a s62l s62c)), (1, (Value.int .i64 x63)), (25, (Value.slice s64a s64l s64c)), (26, (Value.int .i64 x65)), (27, (Value.int .i64 x66))] []) w := by kernel_rfl
  have h1 : CS P (codeAt c4 [1, 1, 1, 1, 0, 1, 0, 0, 1, 1]) none [4, 5, 6, 27, 1, 25, 26] [4, 5, 6] (f4_kl7 K Y7) (Env.mk 107 [(4, (Value.bool b60)), (5, (Value.bool b61)), (6, (Value.slice s62a s62l s62c)), (1, (Value.int .i64 x63)), (25, (Value.slice s64a s64l s64c)), (26, (Value.int .i64 x65)), (27, (Value.int .i64 x66))] []) w = (CS P (codeAt c4 [1, 1, 1, 1, 0, 1, 0, 0, 1, 1, 0]) none [4, 5, 6, 1, 25, 26, 27] [4, 5, 6] (f4_k11 K Y7) (Env.mk 107 [(4, (Value.bool b60)), (5, (Value.bool b61)), (6, (Value.slice s62a s62l s62c)), (1, (Value.int .i64 x63)), (25, (Value.slice s64a s64l s64c)), (26, (Value.int .i64 x65)), (27, (Value.int .i64 x66))] []) w) := CS_seq' (a := (codeAt c4 [1, 1, 1, 1, 0, 1, 0, 0, 1, 1, 0])) (b := (codeAt c4 [1, 1, 1, 1, 0, 1, 0, 0, 1, 1, 1])) (by kernel_rfl) (by kernel_rfl)
  have h2 : CS P (codeAt c4 [1, 1, 1, 1, 0, 1, 0, 0, 1, 1, 0]) none [4, 5, 6, 1, 25, 26, 27] [4, 5, 6] (f4_k11 K Y7) (Env.mk 107 [(4, (Value.bool b60)), (5, (Value.bool b61)), (6, (Value.slice s62a s62l s62c)), (1, (Value.int .i64 x63)), (25, (Value.slice s64a s64l s64c)), (26, (Value.int .i64 x65)), (27, (Value.int .i64 x66))] []) w = (CS P (codeAt c4 [1, 1, 1, 1, 0, 1, 0, 0, 1, 1, 0, 0]) none [4, 5, 6, 1, 25, 26, 27] [4, 5, 6, 1, 25, 26, 27] (f4_k12 K Y7) (Env.mk 107 [(4, (Value.bool b60)), (5, (Value.bool b61)), (6, (Value.slice s62a s62l s62c)), (1, (Value.int .i64 x63)), (25, (Value.slice s64a s64l s64c)), (26, (Value.int .i64 x65)), (27, (Value.int .i64 x66))] []) w) := CS_block' (b := (codeAt c4 [1, 1, 1, 1, 0, 1, 0, 0, 1, 1, 0, 0])) (by kernel_rfl) (by kernel_rfl)
  have h3 : CS P (codeAt c4 [1, 1, 1, 1, 0, 1, 0, 0, 1, 1, 0, 0]) none [4, 5, 6, 1, 25, 26, 27] [4, 5, 6, 1, 25, 26, 27] (f4_k12 K Y7) (Env.mk 107 [(4, (Value.bool b60)), (5, (Value.bool b61)), (6, (Value.slice s62a s62l s62c)), (1, (Value.int .i64 x63)), (25, (Value.slice s64a s64l s64c)), (26, (Value.int .i64 x65)), (27, (Value.int .i64 x66))] []) w = (CS P (codeAt c4 [1, 1, 1, 1, 0, 1, 0, 0, 1, 1, 0, 0, 0]) none [4, 5, 6, 1, 25, 26, 27, 8] [4, 5, 6, 1, 25, 26, 27] (f4_k13 K Y7) (Env.mk 107 [(4, (Value.bool b60)), (5, (Value.bool b61)), (6, (Value.slice s62a s62l s62c)), (1, (Value.int .i64 x63)), (25, (Value.slice s64a s64l s64c)), (26, (Value.int .i64 x65)), (27, (Value.int .i64 x66))] []) w) := CS_seq' (a := (codeAt c4 [1, 1, 1, 1, 0, 1, 0, 0, 1, 1, 0, 0, 0])) (b := (codeAt c4 [1, 1, 1, 1, 0, 1, 0, 0, 1, 1, 0, 0, 1])) (by kernel_rfl) (by kernel_rfl)
  have h4 : CS P (codeAt c4 [1, 1, 1, 1, 0, 1, 0, 0, 1, 1, 0, 0, 0]) none [4, 5, 6, 1, 25, 26, 27, 8] [4, 5, 6, 1, 25, 26, 27] (f4_k13 K Y7) (Env.mk 107 [(4, (Value.bool b60)), (5, (Value.bool b61)), (6, (Value.slice s62a s62l s62c)), (1, (Value.int .i64 x63)), (25, (Value.slice s64a s64l s64c)), (26, (Value.int .i64 x65)), (27, (Value.int .i64 x66))] []) w = (optS s64a (fun a67 => 0 ≤ (x66 : Int) ∧ (x66 : Int) < (s64l : Nat) ∧ LdA 6 (a67.add (Int.toNat x66 * 6)) w (fun cs68 => NewC (zcells P 35) 35 w (fun n69 w70 => StA 6 (Addr.mk n69 0 none) cs68 w70 (fun w71 => f4_s10 (Addr.mk n69 0 none) cs68 (a67.add (Int.toNat x66 * 6)) b60 b61 s62a s62l s62c x63 s64a s64l s64c x65 x66 w71 K Y7))))) := by kernel_rfl
  exact h0.trans (h1.trans (h2.trans (h3.trans (h4))))
def f4_s18 (b183 : Bool) (s184a : Option Addr) (s184l : Nat) (s184c : Nat) (w : World) (K : Value → World → Prop) : Prop := Join (fun e w => CS P (codeAt c4 [1, 1, 1, 1, 1]) none [4] [4] (f4_kb K) e w) (Env.mk 107 [(5, (Value.bool b183)), (6, (Value.slice s184a s184l s184c))] []) w
abbrev f4_k23 (K : Value → World → Prop) : Exit → Env → World → Prop := kseq P (codeAt c4 [1, 1, 1, 1, 1, 0]) (codeAt c4 [1, 1, 1, 1, 1, 1]) none [4] [4] (f4_kb K)
abbrev f4_k24 (K : Value → World → Prop) : Exit → Env → World → Prop := kseq P (codeAt c4 [1, 1, 1, 1, 1, 1, 0]) (codeAt c4 [1, 1, 1, 1, 1, 1, 1]) none [4] [4] (f4_kb K)
def f4_s19 (b189 : Bool) (w : World) (K : Value → World → Prop) : Prop := Join (fun e w => CS P (codeAt c4 [1, 1, 1, 1, 1, 1, 1]) none [4] [4] (f4_kb K) e w) (Env.mk 107 [(4, (Value.bool b189))] []) w
theorem f4_s19_eq (b189 : Bool) (w : World) (K : Value → World → Prop) : f4_s19 b189 w K = (K (Value.bool b189) w) := by
  have h0 : f4_s19 b189 w K = CS P (codeAt c4 [1, 1, 1, 1, 1, 1, 1]) none [4] [4] (f4_kb K) (Env.mk 107 [(4, (Value.bool b189))] []) w := by kernel_rfl
  have h1 : CS P (codeAt c4 [1, 1, 1, 1, 1, 1, 1]) none [4] [4] (f4_kb K) (Env.mk 107 [(4, (Value.bool b189))] []) w = (K (Value.bool b189) w) := by kernel_rfl
  exact h0.trans (h1)
theorem f4_s18_eq (b183 : Bool) (s184a : Option Addr) (s184l : Nat) (s184c : Nat) (w : World) (K : Value → World → Prop) : f4_s18 b183 s184a s184l s184c w K = (CallL P 16 [(Value.slice s184a s184l s184c)] w (fun r185 w186 => ∃ (s187a : Option Addr) (s187l s187c : Nat), ∃ x188 : Int, r185 = (Value.tuple [(Value.slice s187a s187l s187c), (Value.int .i64 x188)].toArray) ∧ BIf ((x188 : Int) != 0) (f4_s19 b183 w186 K) (∃ x190 : Int, (∀ wq, Ext w186 wq → (Builtin.len_ #[25] 3 [(Value.slice s187a s187l s187c)].toArray).run P wq = .ok (Value.int .i64 x190) wq) ∧ BIf ((x190 : Int) == 0) (f4_s19 b183 w186 K) (f4_s19 false w186 K)))) := by
  have h0 : f4_s18 b183 s184a s184l s184c w K = CS P (codeAt c4 [1, 1, 1, 1, 1]) none [4] [4] (f4_kb K) (Env.mk 107 [(5, (Value.bool b183)), (6, (Value.slice s184a s184l s184c))] []) w := by kernel_rfl
  have h1 : CS P (codeAt c4 [1, 1, 1, 1, 1]) none [4] [4] (f4_kb K) (Env.mk 107 [(5, (Value.bool b183)), (6, (Value.slice s184a s184l s184c))] []) w = (CS P (codeAt c4 [1, 1, 1, 1, 1, 0]) none [5, 12, 13] [4] (f4_k23 K) (Env.mk 107 [(5, (Value.bool b183)), (6, (Value.slice s184a s184l s184c))] []) w) := CS_seq' (a := (codeAt c4 [1, 1, 1, 1, 1, 0])) (b := (codeAt c4 [1, 1, 1, 1, 1, 1])) (by kernel_rfl) (by kernel_rfl)
  have h2 : CS P (codeAt c4 [1, 1, 1, 1, 1, 0]) none [5, 12, 13] [4] (f4_k23 K) (Env.mk 107 [(5, (Value.bool b183)), (6, (Value.slice s184a s184l s184c))] []) w = (CallL P 16 [(Value.slice s184a s184l s184c)] w (fun r185 w186 => ∃ (s187a : Option Addr) (s187l s187c : Nat), ∃ x188 : Int, r185 = (Value.tuple [(Value.slice s187a s187l s187c), (Value.int .i64 x188)].toArray) ∧ BIf ((x188 : Int) != 0) (f4_s19 b183 w186 K) (∃ x190 : Int, (∀ wq, Ext w186 wq → (Builtin.len_ #[25] 3 [(Value.slice s187a s187l s187c)].toArray).run P wq = .ok (Value.int .i64 x190) wq) ∧ BIf ((x190 : Int) == 0) (f4_s19 b183 w186 K) (f4_s19 false w186 K)))) := by kernel_rfl
  exact h0.trans (h1.trans (h2))
theorem f4_s8_eq (b52 : Bool) (b53 : Bool) (b54 : Bool) (s55a : Option Addr) (s55l : Nat) (s55c : Nat) (x56 : Int) (x57 : Int) (s58a : Option Addr) (s58l : Nat) (s58c : Nat) (x59 : Int) (w : World) (K : Value → World → Prop) (Y7 : Env → World → Prop) : f4_s8 b52 b53 b54 s55a s55l s55c x56 x57 s58a s58l s58c x59 w K Y7 = (BIf b52 (f4_s9 b53 b54 s55a s55l s55c x57 s58a s58l s58c x59 x56 w K Y7) (f4_s18 b54 s55a s55l s55c w K)) := by
  have h0 : f4_s8 b52 b53 b54 s55a s55l s55c x56 x57 s58a s58l s58c x59 w K Y7 = CS P (codeAt c4 [1, 1, 1, 1, 0, 1, 0, 0, 1]) none [4, 5, 6, 27, 1, 25, 26] [4, 5, 6] (f4_kl7 K Y7) (Env.mk 107 [(28, (Value.bool b52)), (4, (Value.bool b53)), (5, (Value.bool b54)), (6, (Value.slice s55a s55l s55c)), (27, (Value.int .i64 x56)), (1, (Value.int .i64 x57)), (25, (Value.slice s58a s58l s58c)), (26, (Value.int .i64 x59))] []) w := by kernel_rfl
  have h1 : CS P (codeAt c4 [1, 1, 1, 1, 0, 1, 0, 0, 1]) none [4, 5, 6, 27, 1, 25, 26] [4, 5, 6] (f4_kl7 K Y7) (Env.mk 107 [(28, (Value.bool b52)), (4, (Value.bool b53)), (5, (Value.bool b54)), (6, (Value.slice s55a s55l s55c)), (27, (Value.int .i64 x56)), (1, (Value.int .i64 x57)), (25, (Value.slice s58a s58l s58c)), (26, (Value.int .i64 x59))] []) w = (CS P (codeAt c4 [1, 1, 1, 1, 0, 1, 0, 0, 1, 0]) none [4, 5, 6, 1, 25, 26, 27] [4, 5, 6] (f4_k10 K Y7) (Env.mk 107 [(28, (Value.bool b52)), (4, (Value.bool b53)), (5, (Value.bool b54)), (6, (Value.slice s55a s55l s55c)), (27, (Value.int .i64 x56)), (1, (Value.int .i64 x57)), (25, (Value.slice s58a s58l s58c)), (26, (Value.int .i64 x59))] []) w) := CS_seq' (a := (codeAt c4 [1, 1, 1, 1, 0, 1, 0, 0, 1, 0])) (b := (codeAt c4 [1, 1, 1, 1, 0, 1, 0, 0, 1, 1])) (by kernel_rfl) (by kernel_rfl)
  have h2 : CS P (codeAt c4 [1, 1, 1, 1, 0, 1, 0, 0, 1, 0]) none [4, 5, 6, 1, 25, 26, 27] [4, 5, 6] (f4_k10 K Y7) (Env.mk 107 [(28, (Value.bool b52)), (4, (Value.bool b53)), (5, (Value.bool b54)), (6, (Value.slice s55a s55l s55c)), (27, (Value.int .i64 x56)), (1, (Value.int .i64 x57)), (25, (Value.slice s58a s58l s58c)), (26, (Value.int .i64 x59))] []) w = (BIf b52 (f4_s9 b53 b54 s55a s55l s55c x57 s58a s58l s58c x59 x56 w K Y7) (f4_s18 b54 s55a s55l s55c w K)) := by kernel_rfl
  exact h0.trans (h1.trans (h2))
theorem f4_lb7_eq (b45 : Bool) (b46 : Bool) (s47a : Option Addr) (s47l : Nat) (s47c : Nat) (x48 : Int) (x49 : Int) (s50a : Option Addr) (s50l : Nat) (s50c : Nat) (x51 : Int) (w : World) (K : Value → World → Prop) (Y7 : Env → World → Prop) : f4_lb7 b45 b46 s47a s47l s47c x48 x49 s50a s50l s50c x51 w K Y7 = (f4_s8 (decide ((x48 : Int) < x51)) b45 b46 s47a s47l s47c x48 x49 s50a s50l s50c x51 w K Y7) := by
  have h0 : f4_lb7 b45 b46 s47a s47l s47c x48 x49 s50a s50l s50c x51 w K Y7 = CS P (codeAt c4 [1, 1, 1, 1, 0, 1, 0, 0]) none [4, 5, 6, 27, 1, 25, 26] [4, 5, 6] (f4_kl7 K Y7) (Env.mk 107 [(4, (Value.bool b45)), (5, (Value.bool b46)), (6, (Value.slice s47a s47l s47c)), (27, (Value.int .i64 x48)), (1, (Value.int .i64 x49)), (25, (Value.slice s50a s50l s50c)), (26, (Value.int .i64 x51))] []) w := by kernel_rfl
  have h1 : CS P (codeAt c4 [1, 1, 1, 1, 0, 1, 0, 0]) none [4, 5, 6, 27, 1, 25, 26] [4, 5, 6] (f4_kl7 K Y7) (Env.mk 107 [(4, (Value.bool b45)), (5, (Value.bool b46)), (6, (Value.slice s47a s47l s47c)), (27, (Value.int .i64 x48)), (1, (Value.int .i64 x49)), (25, (Value.slice s50a s50l s50c)), (26, (Value.int .i64 x51))] []) w = (CS P (codeAt c4 [1, 1, 1, 1, 0, 1, 0, 0, 0]) none [28, 4, 5, 6, 1, 25, 26, 27] [4, 5, 6] (f4_k9 K Y7) (Env.mk 107 [(4, (Value.bool b45)), (5, (Value.bool b46)), (6, (Value.slice s47a s47l s47c)), (27, (Value.int .i64 x48)), (1, (Value.int .i64 x49)), (25, (Value.slice s50a s50l s50c)), (26, (Value.int .i64 x51))] []) w) := CS_seq' (a := (codeAt c4 [1, 1, 1, 1, 0, 1, 0, 0, 0])) (b := (codeAt c4 [1, 1, 1, 1, 0, 1, 0, 0, 1])) (by kernel_rfl) (by kernel_rfl)
  have h2 : CS P (codeAt c4 [1, 1, 1, 1, 0, 1, 0, 0, 0]) none [28, 4, 5, 6, 1, 25, 26, 27] [4, 5, 6] (f4_k9 K Y7) (Env.mk 107 [(4, (Value.bool b45)), (5, (Value.bool b46)), (6, (Value.slice s47a s47l s47c)), (27, (Value.int .i64 x48)), (1, (Value.int .i64 x49)), (25, (Value.slice s50a s50l s50c)), (26, (Value.int .i64 x51))] []) w = (f4_s8 (decide ((x48 : Int) < x51)) b45 b46 s47a s47l s47c x48 x49 s50a s50l s50c x51 w K Y7) := by kernel_rfl
  exact h0.trans (h1.trans (h2))
theorem f4_s6_eq (x36 : Int) (x37 : Int) (s38a : Option Addr) (s38l : Nat) (s38c : Nat) (s39a : Option Addr) (s39l : Nat) (s39c : Nat) (s40a : Option Addr) (s40l : Nat) (s40c : Nat) (b41 : Bool) (b42 : Bool) (x43 : Int) (s44a : Option Addr) (s44l : Nat) (s44c : Nat) (w : World) (K : Value → World → Prop) : f4_s6 x36 x37 s38a s38l s38c s39a s39l s39c s40a s40l s40c b41 b42 x43 s44a s44l s44c w K = (LoopE (f4_lp7 K) (Env.mk 107 [(4, (Value.bool b41)), (5, (Value.bool b42)), (6, (Value.slice s39a s39l s39c)), (27, (Value.int .i64 x36)), (1, (Value.int .i64 x43)), (25, (Value.slice s38a s38l s38c)), (26, (Value.int .i64 x37))] []) w) := by
  have h0 : f4_s6 x36 x37 s38a s38l s38c s39a s39l s39c s40a s40l s40c b41 b42 x43 s44a s44l s44c w K = CS P (codeAt c4 [1, 1, 1, 1, 0, 1]) none [5, 6] [4] (f4_k6 K) (Env.mk 107 [(27, (Value.int .i64 x36)), (26, (Value.int .i64 x37)), (25, (Value.slice s38a s38l s38c)), (6, (Value.slice s39a s39l s39c)), (24, (Value.slice s40a s40l s40c)), (4, (Value.bool b41)), (5, (Value.bool b42)), (1, (Value.int .i64 x43)), (0, (Value.slice s44a s44l s44c))] []) w := by kernel_rfl
  have h1 : CS P (codeAt c4 [1, 1, 1, 1, 0, 1]) none [5, 6] [4] (f4_k6 K) (Env.mk 107 [(27, (Value.int .i64 x36)), (26, (Value.int .i64 x37)), (25, (Value.slice s38a s38l s38c)), (6, (Value.slice s39a s39l s39c)), (24, (Value.slice s40a s40l s40c)), (4, (Value.bool b41)), (5, (Value.bool b42)), (1, (Value.int .i64 x43)), (0, (Value.slice s44a s44l s44c))] []) w = (CS P (codeAt c4 [1, 1, 1, 1, 0, 1, 0]) none [5, 6] [4, 5, 6] (f4_k8 K) (Env.mk 107 [(27, (Value.int .i64 x36)), (26, (Value.int .i64 x37)), (25, (Value.slice s38a s38l s38c)), (6, (Value.slice s39a s39l s39c)), (24, (Value.slice s40a s40l s40c)), (4, (Value.bool b41)), (5, (Value.bool b42)), (1, (Value.int .i64 x43)), (0, (Value.slice s44a s44l s44c))] []) w) := CS_block' (b := (codeAt c4 [1, 1, 1, 1, 0, 1, 0])) (by kernel_rfl) (by kernel_rfl)
  have h2 : CS P (codeAt c4 [1, 1, 1, 1, 0, 1, 0]) none [5, 6] [4, 5, 6] (f4_k8 K) (Env.mk 107 [(27, (Value.int .i64 x36)), (26, (Value.int .i64 x37)), (25, (Value.slice s38a s38l s38c)), (6, (Value.slice s39a s39l s39c)), (24, (Value.slice s40a s40l s40c)), (4, (Value.bool b41)), (5, (Value.bool b42)), (1, (Value.int .i64 x43)), (0, (Value.slice s44a s44l s44c))] []) w = (LoopE (f4_lp7 K) (Env.mk 107 [(4, (Value.bool b41)), (5, (Value.bool b42)), (6, (Value.slice s39a s39l s39c)), (27, (Value.int .i64 x36)), (1, (Value.int .i64 x43)), (25, (Value.slice s38a s38l s38c)), (26, (Value.int .i64 x37))] []) w) := (CS_loop' (b := (codeAt c4 [1, 1, 1, 1, 0, 1, 0, 0])) (X' := [4, 5, 6]) (H := [4, 5, 6, 27, 1, 25, 26]) (by kernel_rfl) (by kernel_rfl) (by kernel_rfl)).trans (by kernel_rfl)
  exact h0.trans (h1.trans (h2))
theorem f4_s5_eq (s29a : Option Addr) (s29l : Nat) (s29c : Nat) (s30a : Option Addr) (s30l : Nat) (s30c : Nat) (b31 : Bool) (b32 : Bool) (x33 : Int) (s34a : Option Addr) (s34l : Nat) (s34c : Nat) (w : World) (K : Value → World → Prop) : f4_s5 s29a s29l s29c s30a s30l s30c b31 b32 x33 s34a s34l s34c w K = (∃ x35 : Int, (∀ wq, Ext w wq → (Builtin.len_ #[22] 3 [(Value.slice s34a s34l s34c)].toArray).run P wq = .ok (Value.int .i64 x35) wq) ∧ f4_s6 0 x35 s34a s34l s34c s29a s29l s29c s30a s30l s30c b31 b32 x33 s34a s34l s34c w K) := by
  have h0 : f4_s5 s29a s29l s29c s30a s30l s30c b31 b32 x33 s34a s34l s34c w K = CS P (codeAt c4 [1, 1, 1, 1]) none [4] [4] (f4_kb K) (Env.mk 107 [(6, (Value.slice s29a s29l s29c)), (24, (Value.slice s30a s30l s30c)), (4, (Value.bool b31)), (5, (Value.bool b32)), (1, (Value.int .i64 x33)), (0, (Value.slice s34a s34l s34c))] []) w := by kernel_rfl
  have h1 : CS P (codeAt c4 [1, 1, 1, 1]) none [4] [4] (f4_kb K) (Env.mk 107 [(6, (Value.slice s29a s29l s29c)), (24, (Value.slice s30a s30l s30c)), (4, (Value.bool b31)), (5, (Value.bool b32)), (1, (Value.int .i64 x33)), (0, (Value.slice s34a s34l s34c))] []) w = (CS P (codeAt c4 [1, 1, 1, 1, 0]) none [5, 6] [4] (f4_k6 K) (Env.mk 107 [(6, (Value.slice s29a s29l s29c)), (24, (Value.slice s30a s30l s30c)), (4, (Value.bool b31)), (5, (Value.bool b32)), (1, (Value.int .i64 x33)), (0, (Value.slice s34a s34l s34c))] []) w) := CS_seq' (a := (codeAt c4 [1, 1, 1, 1, 0])) (b := (codeAt c4 [1, 1, 1, 1, 1])) (by kernel_rfl) (by kernel_rfl)
  have h2 : CS P (codeAt c4 [1, 1, 1, 1, 0]) none [5, 6] [4] (f4_k6 K) (Env.mk 107 [(6, (Value.slice s29a s29l s29c)), (24, (Value.slice s30a s30l s30c)), (4, (Value.bool b31)), (5, (Value.bool b32)), (1, (Value.int .i64 x33)), (0, (Value.slice s34a s34l s34c))] []) w = (CS P (codeAt c4 [1, 1, 1, 1, 0, 0]) none [4, 5, 6, 27, 1, 25, 26] [4] (f4_k7 K) (Env.mk 107 [(6, (Value.slice s29a s29l s29c)), (24, (Value.slice s30a s30l s30c)), (4, (Value.bool b31)), (5, (Value.bool b32)), (1, (Value.int .i64 x33)), (0, (Value.slice s34a s34l s34c))] []) w) := CS_seq' (a := (codeAt c4 [1, 1, 1, 1, 0, 0])) (b := (codeAt c4 [1, 1, 1, 1, 0, 1])) (by kernel_rfl) (by kernel_rfl)
  have h3 : CS P (codeAt c4 [1, 1, 1, 1, 0, 0]) none [4, 5, 6, 27, 1, 25, 26] [4] (f4_k7 K) (Env.mk 107 [(6, (Value.slice s29a s29l s29c)), (24, (Value.slice s30a s30l s30c)), (4, (Value.bool b31)), (5, (Value.bool b32)), (1, (Value.int .i64 x33)), (0, (Value.slice s34a s34l s34c))] []) w = (∃ x35 : Int, (∀ wq, Ext w wq → (Builtin.len_ #[22] 3 [(Value.slice s34a s34l s34c)].toArray).run P wq = .ok (Value.int .i64 x35) wq) ∧ f4_s6 0 x35 s34a s34l s34c s29a s29l s29c s30a s30l s30c b31 b32 x33 s34a s34l s34c w K) := by kernel_rfl
  exact h0.trans (h1.trans (h2.trans (h3)))
theorem f4_s4_eq (b19 : Bool) (b20 : Bool) (x21 : Int) (s22a : Option Addr) (s22l : Nat) (s22c : Nat) (w : World) (K : Value → World → Prop) : f4_s4 b19 b20 x21 s22a s22l s22c w K = (∃ (s27a : Option Addr) (s27l s27c : Nat), ∃ w28 : World, (Instr.buildSlice 22 0 ([] : List (Nat × Value)).toArray).run P w = .ok (Value.slice s27a s27l s27c) w28 ∧ f4_s5 s27a s27l s27c s27a s27l s27c b19 b20 x21 s22a s22l s22c w28 K) := by
  have h0 : f4_s4 b19 b20 x21 s22a s22l s22c w K = CS P (codeAt c4 [1, 1, 1]) none [4] [4] (f4_kb K) (Env.mk 107 [(4, (Value.bool b19)), (5, (Value.bool b20)), (1, (Value.int .i64 x21)), (0, (Value.slice s22a s22l s22c))] []) w := by kernel_rfl
  have h1 : CS P (codeAt c4 [1, 1, 1]) none [4] [4] (f4_kb K) (Env.mk 107 [(4, (Value.bool b19)), (5, (Value.bool b20)), (1, (Value.int .i64 x21)), (0, (Value.slice s22a s22l s22c))] []) w = (CS P (codeAt c4 [1, 1, 1, 0]) none [4, 5, 6, 1, 0] [4] (f4_k5 K) (Env.mk 107 [(4, (Value.bool b19)), (5, (Value.bool b20)), (1, (Value.int .i64 x21)), (0, (Value.slice s22a s22l s22c))] []) w) := CS_seq' (a := (codeAt c4 [1, 1, 1, 0])) (b := (codeAt c4 [1, 1, 1, 1])) (by kernel_rfl) (by kernel_rfl)
  have h2 : CS P (codeAt c4 [1, 1, 1, 0]) none [4, 5, 6, 1, 0] [4] (f4_k5 K) (Env.mk 107 [(4, (Value.bool b19)), (5, (Value.bool b20)), (1, (Value.int .i64 x21)), (0, (Value.slice s22a s22l s22c))] []) w = (∃ (s27a : Option Addr) (s27l s27c : Nat), ∃ w28 : World, (Instr.buildSlice 22 0 ([] : List (Nat × Value)).toArray).run P w = .ok (Value.slice s27a s27l s27c) w28 ∧ f4_s5 s27a s27l s27c s27a s27l s27c b19 b20 x21 s22a s22l s22c w28 K) := by kernel_rfl
  exact h0.trans (h1.trans (h2))
theorem f4_s3_eq (b14 : Bool) (b15 : Bool) (b16 : Bool) (x17 : Int) (s18a : Option Addr) (s18l : Nat) (s18c : Nat) (w : World) (K : Value → World → Prop) : f4_s3 b14 b15 b16 x17 s18a s18l s18c w K = (BIf b14 (K (Value.bool b15) w) (f4_s4 b16 b15 x17 s18a s18l s18c w K)) := by
  have h0 : f4_s3 b14 b15 b16 x17 s18a s18l s18c w K = CS P (codeAt c4 [1, 1, 0, 1]) none [4, 5, 1, 0] [4] (f4_k2 K) (Env.mk 107 [(22, (Value.bool b14)), (5, (Value.bool b15)), (4, (Value.bool b16)), (1, (Value.int .i64 x17)), (0, (Value.slice s18a s18l s18c))] []) w := by kernel_rfl
  have h1 : CS P (codeAt c4 [1, 1, 0, 1]) none [4, 5, 1, 0] [4] (f4_k2 K) (Env.mk 107 [(22, (Value.bool b14)), (5, (Value.bool b15)), (4, (Value.bool b16)), (1, (Value.int .i64 x17)), (0, (Value.slice s18a s18l s18c))] []) w = (BIf b14 (K (Value.bool b15) w) (f4_s4 b16 b15 x17 s18a s18l s18c w K)) := by kernel_rfl
  exact h0.trans (h1)
theorem f4_s2_eq (b9 : Bool) (b10 : Bool) (s11a : Option Addr) (s11l : Nat) (s11c : Nat) (x12 : Int) (w : World) (K : Value → World → Prop) : f4_s2 b9 b10 s11a s11l s11c x12 w K = (∃ x13 : Int, (∀ wq, Ext w wq → (Builtin.len_ #[22] 3 [(Value.slice s11a s11l s11c)].toArray).run P wq = .ok (Value.int .i64 x13) wq) ∧ BIf (decide ((x13 : Int) > 200)) (f4_s3 true b9 false x12 s11a s11l s11c w K) (CallL P 14 [(Value.slice s11a s11l s11c)] w (fun r191 w192 => ∃ x193 : Int, r191 = (Value.int .i64 x193) ∧ f4_s3 (decide ((x193 : Int) > 2000)) b9 false x12 s11a s11l s11c w192 K))) := by
  have h0 : f4_s2 b9 b10 s11a s11l s11c x12 w K = CS P (codeAt c4 [1, 1]) none [4] [4] (f4_kb K) (Env.mk 107 [(5, (Value.bool b9)), (14, (Value.bool b10)), (4, (Value.bool false)), (0, (Value.slice s11a s11l s11c)), (1, (Value.int .i64 x12))] []) w := by kernel_rfl
  have h1 : CS P (codeAt c4 [1, 1]) none [4] [4] (f4_kb K) (Env.mk 107 [(5, (Value.bool b9)), (14, (Value.bool b10)), (4, (Value.bool false)), (0, (Value.slice s11a s11l s11c)), (1, (Value.int .i64 x12))] []) w = (CS P (codeAt c4 [1, 1, 0]) none [4, 5, 1, 0] [4] (f4_k2 K) (Env.mk 107 [(5, (Value.bool b9)), (14, (Value.bool b10)), (4, (Value.bool false)), (0, (Value.slice s11a s11l s11c)), (1, (Value.int .i64 x12))] []) w) := CS_seq' (a := (codeAt c4 [1, 1, 0])) (b := (codeAt c4 [1, 1, 1])) (by kernel_rfl) (by kernel_rfl)
  have h2 : CS P (codeAt c4 [1, 1, 0]) none [4, 5, 1, 0] [4] (f4_k2 K) (Env.mk 107 [(5, (Value.bool b9)), (14, (Value.bool b10)), (4, (Value.bool false)), (0, (Value.slice s11a s11l s11c)), (1, (Value.int .i64 x12))] []) w = (CS P (codeAt c4 [1, 1, 0, 0]) none [22, 5, 4, 1, 0] [4] (f4_k3 K) (Env.mk 107 [(5, (Value.bool b9)), (14, (Value.bool b10)), (4, (Value.bool false)), (0, (Value.slice s11a s11l s11c)), (1, (Value.int .i64 x12))] []) w) := CS_seq' (a := (codeAt c4 [1, 1, 0, 0])) (b := (codeAt c4 [1, 1, 0, 1])) (by kernel_rfl) (by kernel_rfl)
  have h3 : CS P (codeAt c4 [1, 1, 0, 0]) none [22, 5, 4, 1, 0] [4] (f4_k3 K) (Env.mk 107 [(5, (Value.bool b9)), (14, (Value.bool b10)), (4, (Value.bool false)), (0, (Value.slice s11a s11l s11c)), (1, (Value.int .i64 x12))] []) w = (∃ x13 : Int, (∀ wq, Ext w wq → (Builtin.len_ #[22] 3 [(Value.slice s11a s11l s11c)].toArray).run P wq = .ok (Value.int .i64 x13) wq) ∧ BIf (decide ((x13 : Int) > 200)) (f4_s3 true b9 false x12 s11a s11l s11c w K) (CallL P 14 [(Value.slice s11a s11l s11c)] w (fun r191 w192 => ∃ x193 : Int, r191 = (Value.int .i64 x193) ∧ f4_s3 (decide ((x193 : Int) > 2000)) b9 false x12 s11a s11l s11c w192 K))) := by kernel_rfl
  exact h0.trans (h1.trans (h2.trans (h3)))
theorem f4_s1_eq (s4a : Option Addr) (s4l : Nat) (s4c : Nat) (x5 : Int) (w : World) (K : Value → World → Prop) : f4_s1 s4a s4l s4c x5 w K = (CallL P 13 [] w (fun r6 w7 => ∃ b8 : Bool, r6 = (Value.bool b8) ∧ f4_s2 b8 b8 s4a s4l s4c x5 w7 K)) := by
  have h0 : f4_s1 s4a s4l s4c x5 w K = CS P (codeAt c4 [1]) none [4] [4] (f4_kb K) (Env.mk 107 [(4, (Value.bool false)), (0, (Value.slice s4a s4l s4c)), (1, (Value.int .i64 x5))] []) w := by kernel_rfl
  have h1 : CS P (codeAt c4 [1]) none [4] [4] (f4_kb K) (Env.mk 107 [(4, (Value.bool false)), (0, (Value.slice s4a s4l s4c)), (1, (Value.int .i64 x5))] []) w = (CS P (codeAt c4 [1, 0]) none [5, 4, 1, 0] [4] (f4_k1 K) (Env.mk 107 [(4, (Value.bool false)), (0, (Value.slice s4a s4l s4c)), (1, (Value.int .i64 x5))] []) w) := CS_seq' (a := (codeAt c4 [1, 0])) (b := (codeAt c4 [1, 1])) (by kernel_rfl) (by kernel_rfl)
  have h2 : CS P (codeAt c4 [1, 0]) none [5, 4, 1, 0] [4] (f4_k1 K) (Env.mk 107 [(4, (Value.bool false)), (0, (Value.slice s4a s4l s4c)), (1, (Value.int .i64 x5))] []) w = (CallL P 13 [] w (fun r6 w7 => ∃ b8 : Bool, r6 = (Value.bool b8) ∧ f4_s2 b8 b8 s4a s4l s4c x5 w7 K)) := by kernel_rfl
  exact h0.trans (h1.trans (h2))
theorem f4_s0_eq (s2a : Option Addr) (s2l : Nat) (s2c : Nat) (x3 : Int) (w : World) (K : Value → World → Prop) : f4_s0 s2a s2l s2c x3 w K = (f4_s1 s2a s2l s2c x3 w K) := by
  have h0 : f4_s0 s2a s2l s2c x3 w K = CS P (codeAt c4 []) none [4] [4] (f4_kb K) (Env.mk 107 [(0, (Value.slice s2a s2l s2c)), (1, (Value.int .i64 x3))] []) w := by kernel_rfl
  have h1 : CS P (codeAt c4 []) none [4] [4] (f4_kb K) (Env.mk 107 [(0, (Value.slice s2a s2l s2c)), (1, (Value.int .i64 x3))] []) w = (CS P (codeAt c4 [0]) none [4, 1, 0] [4] (f4_k0 K) (Env.mk 107 [(0, (Value.slice s2a s2l s2c)), (1, (Value.int .i64 x3))] []) w) := CS_seq' (a := (codeAt c4 [0])) (b := (codeAt c4 [1])) (by kernel_rfl) (by kernel_rfl)
  have h2 : CS P (codeAt c4 [0]) none [4, 1, 0] [4] (f4_k0 K) (Env.mk 107 [(0, (Value.slice s2a s2l s2c)), (1, (Value.int .i64 x3))] []) w = (f4_s1 s2a s2l s2c x3 w K) := by kernel_rfl
  exact h0.trans (h1.trans (h2))
theorem f4_eq (s0a : Option Addr) (s0l : Nat) (s0c : Nat) (x1 : Int) (w : World) (K : Value → World → Prop) : f4 s0a s0l s0c x1 w K = (f4_s0 s0a s0l s0c x1 w K) := by kernel_rfl
theorem c4_eq : Go.Proofs.Try.f4.body = some c4 := by kernel_rfl
theorem f4_un (s0a : Option Addr) (s0l : Nat) (s0c : Nat) (x1 : Int) (w : World) (K : Value → World → Prop) : f4 s0a s0l s0c x1 w K = CS P c4 none (resT Go.Proofs.Try.f4.results.toList) (resT Go.Proofs.Try.f4.results.toList) (bodyK P Go.Proofs.Try.f4.results.toList K) (env0 Go.Proofs.Try.f4.ntmps [(Value.slice s0a s0l s0c), (Value.int .i64 x1)]) w := by kernel_rfl
theorem f4_ok (s0a : Option Addr) (s0l : Nat) (s0c : Nat) (x1 : Int) (w : World) (K : Value → World → Prop) (h : f4 s0a s0l s0c x1 w K) : CallL P 4 [(Value.slice s0a s0l s0c), (Value.int .i64 x1)] w K := calls_of_CS Go.Proofs.Try.func4 c4_eq (Eq.mp (f4_un s0a s0l s0c x1 w K) h)
/-! 18 candling.candlinglaw30.touches -/
noncomputable def c18 : Code := match Go.Proofs.Try.f18.body with
  | some c => c
  | none => .skip
noncomputable def rs18 : List ResultVar := Go.Proofs.Try.f18.results.toList
abbrev f18_kb (K : Value → World → Prop) : Exit → Env → World → Prop := bodyK P rs18 K
def f18 (cs0 : Array Value) (x1 : Int) (w : World) (K : Value → World → Prop) : Prop := CS P c18 none [4, 5, 6] [4, 5, 6] (f18_kb K) (env0 33 [(Value.agg cs0), (Value.int .u32 x1)]) w
abbrev f18_k0 (K : Value → World → Prop) : Exit → Env → World → Prop := kseq P (codeAt c18 [0]) (codeAt c18 [1]) none [4, 5, 6] [4, 5, 6] (f18_kb K)
abbrev f18_k1 (K : Value → World → Prop) : Exit → Env → World → Prop := kseq P (codeAt c18 [1, 0]) (codeAt c18 [1, 1]) none [4, 5, 6] [4, 5, 6] (f18_kb K)
abbrev f18_k2 (K : Value → World → Prop) : Exit → Env → World → Prop := kseq P (codeAt c18 [1, 0, 0]) (codeAt c18 [1, 0, 1]) none [6, 5, 2, 1] [4, 5, 6] (f18_k1 K)
abbrev f18_k3 (K : Value → World → Prop) : Exit → Env → World → Prop := kblock 0 (f18_k1 K)
abbrev f18_k4 (K : Value → World → Prop) : Exit → Env → World → Prop := kseq P (codeAt c18 [1, 0, 1, 0, 0]) (codeAt c18 [1, 0, 1, 0, 1]) none [6, 5, 2, 1] [4, 5, 6, 2, 1] (f18_k3 K)
abbrev f18_k5 (K : Value → World → Prop) : Exit → Env → World → Prop := kseq P (codeAt c18 [1, 0, 1, 0, 0, 0]) (codeAt c18 [1, 0, 1, 0, 0, 1]) none [9, 6, 5, 2, 1, 8] [4, 5, 6, 2, 1] (f18_k4 K)
def f18_s0 (b5 : Bool) (b6 : Bool) (b7 : Bool) (a8 : Addr) (x9 : Int) (x10 : Int) (w : World) (K : Value → World → Prop) : Prop := Join (fun e w => CS P (codeAt c18 [1, 0, 1, 0, 1]) none [6, 5, 2, 1] [4, 5, 6, 2, 1] (f18_k3 K) e w) (Env.mk 33 [(9, (Value.bool b5)), (6, (Value.bool b6)), (5, (Value.bool b7)), (2, (Value.pointer (some a8))), (1, (Value.int .u32 x9)), (8, (Value.int .i64 x10))] []) w
def f18_s1 (b11 : Bool) (b12 : Bool) (a13 : Addr) (x14 : Int) (w : World) (K : Value → World → Prop) : Prop := Join (fun e w => CS P (codeAt c18 [1, 1]) none [4, 5, 6] [4, 5, 6] (f18_kb K) e w) (Env.mk 33 [(6, (Value.bool b11)), (5, (Value.bool b12)), (2, (Value.pointer (some a13))), (1, (Value.int .u32 x14))] []) w
abbrev f18_k6 (K : Value → World → Prop) : Exit → Env → World → Prop := kseq P (codeAt c18 [1, 1, 0]) (codeAt c18 [1, 1, 1]) none [4, 5, 6] [4, 5, 6] (f18_kb K)
def f18_s2 (b18 : Bool) (b19 : Bool) (b20 : Bool) (w : World) (K : Value → World → Prop) : Prop := Join (fun e w => CS P (codeAt c18 [1, 1, 1]) none [4, 5, 6] [4, 5, 6] (f18_kb K) e w) (Env.mk 33 [(4, (Value.bool b18)), (5, (Value.bool b19)), (6, (Value.bool b20))] []) w
theorem f18_s2_eq (b18 : Bool) (b19 : Bool) (b20 : Bool) (w : World) (K : Value → World → Prop) : f18_s2 b18 b19 b20 w K = (K (Value.tuple [(Value.bool b18), (Value.bool b19), (Value.bool b20)].toArray) w) := by kernel_rfl
theorem f18_s1_eq (b11 : Bool) (b12 : Bool) (a13 : Addr) (x14 : Int) (w : World) (K : Value → World → Prop) : f18_s1 b11 b12 a13 x14 w K = (∃ x15 : Int, w.cell? (a13.add 5) = some (Value.int .i64 x15) ∧ BIf (decide ((x15 : Int) > 0)) (∃ x16 : Int, w.cell? (a13.add 3) = some (Value.int .u32 x16) ∧ ∃ x17 : Int, w.cell? (a13.add 5) = some (Value.int .i64 x17) ∧ f18_s2 (decide (((IntKind.wrap .u64 (IntKind.wrap .u32 ((x14 : Int) - x16))) : Int) < (IntKind.wrap .u64 x17))) b12 b11 w K) (f18_s2 false b12 b11 w K)) := by kernel_rfl
abbrev f18_k7 (K : Value → World → Prop) : Exit → Env → World → Prop := kseq P (codeAt c18 [1, 0, 1, 0, 1, 1, 0]) (codeAt c18 [1, 0, 1, 0, 1, 1, 1]) none [6, 5, 2, 1] [4, 5, 6, 2, 1] (f18_k3 K)
abbrev f18_k8 (K : Value → World → Prop) : Exit → Env → World → Prop := kseq P (codeAt c18 [1, 0, 1, 0, 1, 1, 0, 0]) (codeAt c18 [1, 0, 1, 0, 1, 1, 0, 1]) none [12, 6, 2, 1, 8] [4, 5, 6, 2, 1] (f18_k7 K)
def f18_s3 (b21 : Bool) (b22 : Bool) (a23 : Addr) (x24 : Int) (x25 : Int) (w : World) (K : Value → World → Prop) : Prop := Join (fun e w => CS P (codeAt c18 [1, 0, 1, 0, 1, 1, 1]) none [6, 5, 2, 1] [4, 5, 6, 2, 1] (f18_k3 K) e w) (Env.mk 33 [(12, (Value.bool b21)), (6, (Value.bool b22)), (2, (Value.pointer (some a23))), (1, (Value.int .u32 x24)), (8, (Value.int .i64 x25))] []) w
abbrev f18_k9 (K : Value → World → Prop) : Exit → Env → World → Prop := kseq P (codeAt c18 [1, 0, 1, 0, 1, 1, 1, 1, 0]) (codeAt c18 [1, 0, 1, 0, 1, 1, 1, 1, 1]) none [6, 5, 2, 1] [4, 5, 6, 2, 1] (f18_k3 K)
abbrev f18_k10 (K : Value → World → Prop) : Exit → Env → World → Prop := kseq P (codeAt c18 [1, 0, 1, 0, 1, 1, 1, 1, 1, 1, 0]) (codeAt c18 [1, 0, 1, 0, 1, 1, 1, 1, 1, 1, 1]) none [6, 5, 2, 1] [4, 5, 6, 2, 1] (f18_k3 K)
theorem f18_s3_eq (b21 : Bool) (b22 : Bool) (a23 : Addr) (x24 : Int) (x25 : Int) (w : World) (K : Value → World → Prop) : f18_s3 b21 b22 a23 x24 x25 w K = (BIf b21 (f18_s1 b22 true a23 x24 w K) (BIf ((x25 : Int) == 4) (f18_s1 true true a23 x24 w K) (K (Value.tuple [(Value.bool false), (Value.bool false), (Value.bool false)].toArray) w))) := by kernel_rfl
theorem f18_s0_eq (b5 : Bool) (b6 : Bool) (b7 : Bool) (a8 : Addr) (x9 : Int) (x10 : Int) (w : World) (K : Value → World → Prop) : f18_s0 b5 b6 b7 a8 x9 x10 w K = (BIf b5 (f18_s1 b6 b7 a8 x9 w K) (BIf ((x10 : Int) == 3) (f18_s3 true b6 a8 x9 x10 w K) (f18_s3 ((x10 : Int) == 22) b6 a8 x9 x10 w K))) := by kernel_rfl
theorem f18_eq (cs0 : Array Value) (x1 : Int) (w : World) (K : Value → World → Prop) : f18 cs0 x1 w K = (NewC cs0 35 w (fun n2 w3 => ∃ x4 : Int, w3.cell? (Addr.mk n2 0 none) = some (Value.int .i64 x4) ∧ BIf ((x4 : Int) == 2) (f18_s0 true false false (Addr.mk n2 0 none) x1 x4 w3 K) (f18_s0 ((x4 : Int) == 23) false false (Addr.mk n2 0 none) x1 x4 w3 K))) := by kernel_rfl
theorem c18_eq : Go.Proofs.Try.f18.body = some c18 := by kernel_rfl
theorem f18_un (cs0 : Array Value) (x1 : Int) (w : World) (K : Value → World → Prop) : f18 cs0 x1 w K = CS P c18 none (resT Go.Proofs.Try.f18.results.toList) (resT Go.Proofs.Try.f18.results.toList) (bodyK P Go.Proofs.Try.f18.results.toList K) (env0 Go.Proofs.Try.f18.ntmps [(Value.agg cs0), (Value.int .u32 x1)]) w := by kernel_rfl
theorem f18_ok (cs0 : Array Value) (x1 : Int) (w : World) (K : Value → World → Prop) (h : f18 cs0 x1 w K) : CallL P 18 [(Value.agg cs0), (Value.int .u32 x1)] w K := calls_of_CS Go.Proofs.Try.func18 c18_eq (Eq.mp (f18_un cs0 x1 w K) h)
end Go.Fx.Try
namespace Go.Fx.Mo
def w64u' (x : Int) : Int := IntKind.wrap .u64 x
/-- Whether an event accesses a byte, stores it, and atomically. -/
def touches (e : Ev) (b : Int) : Bool × Bool × Bool := ((accesses e).2.2 && (decide (e.n > 0) && decide (w64u' (w32 (b - e.a)) < w64u' e.n)), (accesses e).1, (accesses e).2.1)
def and3 (n : Int) : Int := IntKind.wrap .i64 ((BitVec.ofInt (IntKind.bits .i64) n &&& BitVec.ofInt (IntKind.bits .i64) 3).toNat : Int)
def quiet (how : Int) (e : Ev) : Option Ev :=
  if how = 0 then (if e.th ≠ 0 then none else some (if e.kind = 11 ∨ e.kind = 13 then { e with kind := 1 } else e))
  else if how = 1 ∧ (accesses e).1 = true then some { e with kind := 2 }
  else if how ≠ 1 ∧ (accesses e).2.1 = false ∧ ((accesses e).1 = true ∨ e.kind = 2 ∨ e.kind = 23) then some { e with kind := 4, n := IntKind.wrap .i64 (1 + and3 e.n) }
  else some e
theorem accesses_2 (e : Ev) (h : e.kind = 2) : accesses e = (false, false, true) := by unfold accesses; rw [if_pos (.inl h)]
theorem accesses_4 (e : Ev) (h : e.kind = 4) : accesses e = (true, true, true) := by unfold accesses; rw [if_neg (by omega), if_neg (by omega), if_pos h]
theorem acc_conf {a b : Acc} : conflict a b = true → a.th ≠ b.th ∧ (a.st = true ∨ b.st = true) ∧ ¬(a.at' = true ∧ b.at' = true) := by
  unfold conflict; intro h; simp only [Bool.and_eq_true, bne_iff_ne, ne_eq, Bool.or_eq_true, Bool.not_eq_true', Bool.and_eq_false_iff] at h
  refine ⟨h.1.1, h.1.2, fun hh => ?_⟩
  rcases h.2 with h2 | h2 <;> simp [hh.1, hh.2] at h2
theorem quiet_races {how : Int} {l : List Ev} {x : List Race} (h : races (l.filterMap (quiet how)) = .inl x) : x = [] := by
  refine races_quiet (Q := fun a => (how = 0 → a.th = 0) ∧ (how = 1 → a.st = false) ∧ (how ≠ 0 → how ≠ 1 → a.at' = true)) (fun a b ha hb => ?_) (fun e he hacc m => ?_) h
  · by_cases hc : conflict a b = true
    · obtain ⟨h1, h2, h3⟩ := acc_conf hc
      by_cases h0 : how = 0
      · exact absurd ((ha.1 h0).trans (hb.1 h0).symm) h1
      · by_cases h1' : how = 1
        · rcases h2 with h2 | h2
          · rw [ha.2.1 h1'] at h2; cases h2
          · rw [hb.2.1 h1'] at h2; cases h2
        · exact absurd ⟨ha.2.2 h0 h1', hb.2.2 h0 h1'⟩ h3
    · simpa using hc
  · obtain ⟨o, _, hq⟩ := List.mem_filterMap.1 he
    unfold quiet at hq
    split at hq
    · rename_i h0
      split at hq
      · cases hq
      · rename_i hth
        refine ⟨fun _ => ?_, fun h => by omega, fun h => absurd h0 h⟩
        simp only [Option.some.injEq] at hq
        subst hq
        split <;> simpa using hth
    · rename_i h0
      refine ⟨fun h => absurd h h0, ?_⟩
      split at hq
      · rename_i h1
        simp only [Option.some.injEq] at hq
        subst hq
        rw [accesses_2 _ rfl]
        exact ⟨fun _ => rfl, fun _ h => absurd h1.1 h⟩
      · rename_i h1
        split at hq
        · rename_i h2
          simp only [Option.some.injEq] at hq
          subst hq
          rw [accesses_4 _ rfl]
          exact ⟨fun h => absurd h h2.1, fun _ _ => rfl⟩
        · rename_i h2
          simp only [Option.some.injEq] at hq
          subst hq
          refine ⟨fun h => ?_, fun _ h => ?_⟩
          · simpa [h] using h1
          · have hat : (accesses o).2.1 = false → (accesses o).1 = false ∧ ¬ (o.kind = 2 ∨ o.kind = 23) := fun ha => by
              refine ⟨?_, fun hk => h2 ⟨h, ha, .inr hk⟩⟩
              by_cases hs : (accesses o).1 = true
              · exact absurd ⟨h, ha, .inl hs⟩ h2
              · simpa using hs
            by_cases ha : (accesses o).2.1 = true
            · exact ha
            · obtain ⟨h3, h4⟩ := hat (by simpa using ha)
              exfalso
              unfold accesses at hacc h3
              rw [if_neg h4] at hacc h3
              split at h3
              · cases h3
              · rename_i h5
                rw [if_neg h5] at hacc
                split at h3
                · cases h3
                · rename_i h6; rw [if_neg h6] at hacc; cases hacc
theorem accesses_kind {e f : Ev} (h : e.kind = f.kind) : accesses e = accesses f := by unfold accesses; rw [h]
theorem filterMap_snoc {f : Ev → Option Ev} {l : List Ev} {i : Nat} (hi : i < l.length) : (l.take (i + 1)).filterMap f = (l.take i).filterMap f ++ (f l[i]).toList := by
  rw [List.take_add_one, List.getElem?_eq_getElem hi, List.filterMap_append]
  cases h : f l[i] <;> simp [h]
end Go.Fx.Mo
namespace Go.Fx.Try
open Go Go.Fx Go.Fx.Mo
open Go.Proofs
variable {w0 w : World} {H : List (Nat × Obj)} {K : Value → World → Prop}
set_option maxRecDepth 20000
theorem touches_ok (h : St w0 w H) (e : Ev) (b : Int) (hK : ∀ w', St w0 w' H → K (.tuple [.bool (touches e b).1, .bool (touches e b).2.1, .bool (touches e b).2.2].toArray) w') : CallL P 18 [.agg (Evcs e).toArray, .int .u32 b] w K := by
  refine f18_ok _ _ _ _ ?_
  rw [f18_eq]
  refine h.newC fun n w1 hn h1 => ?_
  have h1 : St w0 w1 ((n, Cs (Evcs e) 35) :: H) := h1
  have s1 : ∀ st at', accesses e = (st, at', true) → f18_s1 at' st (Addr.mk n 0 none) b w1 K := by
    intro st at' hacc
    have hK := hK w1 (h1.tail hn)
    rw [f18_s1_eq]
    refine ⟨e.n, by rw [add_lit']; exact h1.cell (k := 0) rfl, ?_⟩
    rw [BIf_iff]
    constructor
    · intro hp
      refine ⟨e.a, by rw [add_lit']; exact h1.cell (k := 0) rfl, e.n, by rw [add_lit']; exact h1.cell (k := 0) rfl, ?_⟩
      rw [f18_s2_eq]
      have hp : e.n > 0 := by simpa using hp
      have ht : touches e b = (decide ((IntKind.wrap .u64 (IntKind.wrap .u32 (b - e.a))) < (IntKind.wrap .u64 e.n)), st, at') := by
        unfold touches; rw [hacc]; simp only [Bool.true_and]; rw [decide_eq_true hp]; rfl
      rw [ht] at hK
      exact hK
    · intro hp
      rw [f18_s2_eq]
      have hp : ¬ e.n > 0 := by simpa using hp
      have ht : touches e b = (false, st, at') := by
        unfold touches; rw [hacc]; simp only [Bool.true_and]; rw [decide_eq_false hp]; rfl
      rw [ht] at hK
      exact hK
  refine ⟨e.kind, h1.cell (k := 0) rfl, ?_⟩
  have hno : ∀ m : Int, (e.kind == m) = false → e.kind ≠ m := fun m hm => by simpa using hm
  have hye : ∀ m : Int, (e.kind == m) = true → e.kind = m := fun m hm => by simpa using hm
  rw [BIf_iff]
  refine ⟨fun h2 => ?_, fun h2 => ?_⟩
  · rw [f18_s0_eq, BIf_true]
    exact s1 false false (accesses_2 e (hye _ h2))
  · rw [f18_s0_eq, BIf_iff]
    have h2 := hno _ h2
    refine ⟨fun h23 => s1 false false (by have := hye _ h23; unfold accesses; rw [if_pos (by omega)]), fun h23 => ?_⟩
    have h23 := hno _ h23
    have s3 : ∀ b', (b' = true → e.kind = 3 ∨ e.kind = 22) → (b' = false → e.kind ≠ 3 ∧ e.kind ≠ 22) → f18_s3 b' false (Addr.mk n 0 none) b e.kind w1 K := by
      intro b' ht hf
      rw [f18_s3_eq, BIf_iff]
      refine ⟨fun hb => s1 true false (by have := ht hb; unfold accesses; rw [if_neg (by omega), if_pos this]), fun hb => ?_⟩
      have := hf hb
      rw [BIf_iff]
      refine ⟨fun h4 => s1 true true (accesses_4 e (hye _ h4)), fun h4 => ?_⟩
      have h4 := hno _ h4
      have hacc : accesses e = (false, false, false) := by unfold accesses; rw [if_neg (by omega), if_neg (by omega), if_neg h4]
      have ht : touches e b = (false, false, false) := by unfold touches; rw [hacc]; rfl
      have hK := hK w1 (h1.tail hn)
      rw [ht] at hK
      exact hK
    rw [BIf_iff]
    refine ⟨fun h3 => s3 true (fun _ => .inl (hye _ h3)) (fun h => by cases h), fun h3 => s3 _ (fun h => .inr (hye _ h)) (fun h => ⟨hno _ h3, hno _ h⟩)⟩
/-- A list of events that grows. -/
theorem evs_append {A L X : List (Nat × Obj)} {ov : Value} {out : List Ev} (h : St w0 w (A ++ (L ++ X))) (hL : SlO 6 35 ov out.length (evsCs out) L) (hLn : New w0 L) {j nb : Nat} {e : Ev} {t2 : TypeId} (hj : A[j]? = some (nb, Cs (Evcs e) t2)) (hlen : out.length < 1000000000) :
    ∃ g cap w' L', (Builtin.append_ #[22, 22] 22 [ov, .slice (some ⟨nb, 0, none⟩) 1 1].toArray).run P w = .ok (.slice (some ⟨g, 0, none⟩) (out ++ [e]).length cap) w' ∧
      SlO 6 35 (.slice (some ⟨g, 0, none⟩) (out ++ [e]).length cap) (out ++ [e]).length (evsCs (out ++ [e])) L' ∧ St w0 w' (A ++ (L' ++ X)) ∧ New w0 L' := by
  have e2 : evsCs (out ++ [e]) = evsCs out ++ Evcs e := by simp [evsCs]
  rw [List.length_append, List.length_singleton, e2]
  exact St.append (P := P) 22 22 35 Try.t35 (.agg #[I64 0, I64 0, .int .u32 0, .int .u32 0, .int .u32 0, I64 0]) 6 40 Try.underlying22 (by kernel_rfl) rfl rfl rfl rfl (by omega) h hL hLn hj (Evcs_len e) (fun u hu => Evcs_one e u (by simpa using hu)) (by simp [maxLen]; omega) (by omega)
theorem bs22 (w : World) : (Instr.buildSlice 22 0 ([] : List (Nat × Value)).toArray).run P w = .ok (.slice (some ⟨w.heap.size, 0, none⟩) 0 0) (w.alloc (.cells #[] 35 (0, 0))) := by kernel_rfl
theorem St.emptyS (h : St w0 w H) : SlO 6 35 (.slice (some ⟨w.heap.size, 0, none⟩) 0 0) 0 [] [(w.heap.size, Cs [] 35)] ∧ New w0 [(w.heap.size, Cs [] 35)] ∧ St w0 (w.alloc (.cells #[] 35 (0, 0))) ([(w.heap.size, Cs [] 35)] ++ H) :=
  ⟨⟨rfl, .inr ⟨_, 0, [], rfl, rfl, by omega, by simp [maxLen], rfl, rfl⟩⟩, by simpa [New] using h.le, h.alloc (.cells #[] 35 (0, 0))⟩
end Go.Fx.Try
namespace Go.Fx.Try
open Go Go.Fx Go.Fx.Mo
open Go.Proofs
variable {w0 w : World} {H : List (Nat × Obj)} {K : Value → World → Prop}
set_option maxRecDepth 20000
theorem build35t (k : Int) (wq : World) : (Instr.build 35 [(0, (Value.int .i64 k)), (5, (Value.int .i64 1))].toArray).run P wq = .ok (.agg (Evcs ⟨k, 0, 0, 0, 0, 1⟩).toArray) wq := by kernel_rfl
theorem quiet_ok {l : List Ev} {ov : Value} (how : Int) (h : St w0 w H) (hrow : ∀ w', St w0 w' H → Row w' 6 ov l.length (evsCs l)) (hK : ∀ w', St w0 w' H → K (.bool true) w') : CallL P 4 [ov, .int .i64 how] w K := by
  obtain ⟨sa, sc, hov⟩ := (hrow w h).form
  rw [hov]
  refine f4_ok _ _ _ _ _ _ ?_
  rw [f4_eq, f4_s0_eq, f4_s1_eq]
  refine sane_ok h fun w1 h1 => ⟨true, rfl, ?_⟩
  rw [f4_s2_eq]
  refine ⟨l.length, fun wq _ => run_len_22 wq, ?_⟩
  have s3 : ∀ b w1, St w0 w1 H → (b = false → l.length ≤ 200) → f4_s3 b true false how sa l.length sc w1 K := by
    intro b w1 h1 hb
    rw [f4_s3_eq, BIf_iff]
    refine ⟨fun _ => hK w1 h1, fun hbf => ?_⟩
    have hl := hb hbf
    rw [f4_s4_eq]
    obtain ⟨hS0, hN0, h2⟩ := St.emptyS h1
    refine ⟨_, _, _, _, bs22 w1, ?_⟩
    rw [f4_s5_eq]
    refine ⟨l.length, fun wq _ => run_len_22 wq, ?_⟩
    rw [f4_s6_eq]
    refine ⟨fun m ee w => ∃ (i : Nat) (oa : Option Addr) (oc : Nat) (Lo : List (Nat × Obj)), i ≤ l.length ∧ m = l.length - i ∧
      ee = Env.mk 107 [(4, (Value.bool false)), (5, (Value.bool true)), (6, (Value.slice oa ((l.take i).filterMap (quiet how)).length oc)), (27, (Value.int .i64 i)), (1, (Value.int .i64 how)), (25, (Value.slice sa l.length sc)), (26, (Value.int .i64 l.length))] [] ∧
      SlO 6 35 (.slice oa ((l.take i).filterMap (quiet how)).length oc) ((l.take i).filterMap (quiet how)).length (evsCs ((l.take i).filterMap (quiet how))) Lo ∧ New w0 Lo ∧ St w0 w (Lo ++ H),
      ⟨l.length, 0, _, _, _, by omega, rfl, rfl, hS0, hN0, h2⟩, ?_⟩
    rintro m ee w3 ⟨i, oa, oc, Lo, hi, rfl, rfl, hS, hN, h3⟩
    show f4_lb7 _ _ _ _ _ _ _ _ _ _ _ _ _ _
    rw [f4_lb7_eq, f4_s8_eq, BIf_iff]
    have hll : ∀ j, ((l.take j).filterMap (quiet how)).length ≤ 200 := fun j => by
      have := List.length_filterMap_le (quiet how) (l.take j)
      simp at this; omega
    constructor
    · intro hlt
      have hlt : i < l.length := by simpa using hlt
      rw [f4_s9_eq]
      obtain ⟨a, c, hac, hld⟩ := (hrow w3 (h3.sub hN)).ldA hlt
      rw [hov] at hac
      obtain ⟨hsa, -⟩ : sa = some a ∧ sc = c := by simpa using hac
      subst hsa
      refine ⟨by omega, by omega, hld _ ?_⟩
      rw [evs_at hlt]
      obtain ⟨ze, hze, hzel⟩ := z35
      rw [hze]
      refine h3.newC fun n5 w5 hn5 h5 => h5.stA (k := 0) rfl (by simp [Evcs_len]) (by simp [hzel]) (Evcs_one _) fun w6 h6 => ?_
      have h6 : St w0 w6 ((n5, Cs (splice ze 0 (Evcs l[i])) 35) :: (Lo ++ H)) := h6
      rw [splice_whole (by rw [Evcs_len, hzel])] at h6
      generalize hx : l[i] = x at h6 ⊢
      -- what is appended at last
      have nxt : ∀ q, quiet how x = q → ((l.take (i + 1)).filterMap (quiet how)) = (l.take i).filterMap (quiet how) ++ q.toList   := fun q hq => by rw [filterMap_snoc hlt, hx, hq]
      have s12 : ∀ w7 oa' oc' Lo', SlO 6 35 (.slice oa' ((l.take (i + 1)).filterMap (quiet how)).length oc') ((l.take (i + 1)).filterMap (quiet how)).length (evsCs ((l.take (i + 1)).filterMap (quiet how))) Lo' → New w0 Lo' → St w0 w7 (Lo' ++ H) →
          f4_s12 false true oa' ((l.take (i + 1)).filterMap (quiet how)).length oc' how (some a) l.length sc l.length i w7 K (fun e' w' => ∃ m, m < l.length - i ∧ ∃ (i : Nat) (oa : Option Addr) (oc : Nat) (Lo : List (Nat × Obj)), i ≤ l.length ∧ m = l.length - i ∧
      e' = Env.mk 107 [(4, (Value.bool false)), (5, (Value.bool true)), (6, (Value.slice oa ((l.take i).filterMap (quiet how)).length oc)), (27, (Value.int .i64 i)), (1, (Value.int .i64 how)), (25, (Value.slice (some a) l.length sc)), (26, (Value.int .i64 l.length))] [] ∧
      SlO 6 35 (.slice oa ((l.take i).filterMap (quiet how)).length oc) ((l.take i).filterMap (quiet how)).length (evsCs ((l.take i).filterMap (quiet how))) Lo ∧ New w0 Lo ∧ St w0 w' (Lo ++ H)) := by
        intro w7 oa' oc' Lo' k1 k2 k3
        rw [f4_s12_eq]
        refine ⟨l.length - (i + 1), by omega, i + 1, oa', oc', Lo', by omega, rfl, ?_, k1, k2, k3⟩
        rw [wrap_i64 (by omega) (by omega)]; rfl
      have s15 : ∀ w7 (y : Ev), quiet how x = some y → St w0 w7 ((n5, Cs (Evcs y) 35) :: (Lo ++ H)) →
          f4_s15 false true how (some a) l.length sc l.length i (Addr.mk n5 0 none) oa ((l.take i).filterMap (quiet how)).length oc w7 K (fun e' w' => ∃ m, m < l.length - i ∧ ∃ (i : Nat) (oa : Option Addr) (oc : Nat) (Lo : List (Nat × Obj)), i ≤ l.length ∧ m = l.length - i ∧
      e' = Env.mk 107 [(4, (Value.bool false)), (5, (Value.bool true)), (6, (Value.slice oa ((l.take i).filterMap (quiet how)).length oc)), (27, (Value.int .i64 i)), (1, (Value.int .i64 how)), (25, (Value.slice (some a) l.length sc)), (26, (Value.int .i64 l.length))] [] ∧
      SlO 6 35 (.slice oa ((l.take i).filterMap (quiet how)).length oc) ((l.take i).filterMap (quiet how)).length (evsCs ((l.take i).filterMap (quiet how))) Lo ∧ New w0 Lo ∧ St w0 w' (Lo ++ H)) := by
        intro w7 y hy h7
        rw [f4_s15_eq]
        refine h7.ldA (k := 0) (i := 0) rfl (by simp [Evcs_len]) ⟨⟨rfl, trivial⟩, h7.newC fun n8 w8 hn8 h8 => ?_⟩
        have h8 : St w0 w8 ([(n8, Cs (Evcs y) 35), (n5, Cs (Evcs y) 35)] ++ (Lo ++ H)) := h8
        obtain ⟨g, cap, w9, Lo', hr, hS', h9, hN'⟩ := evs_append (A := [(n8, Cs (Evcs y) 35), (n5, Cs (Evcs y) 35)]) h8 hS hN (j := 0) rfl (by have := hll i; omega)
        refine ⟨_, _, _, w9, hr, ?_⟩
        have e := nxt _ hy
        have e : (l.take (i + 1)).filterMap (quiet how) = (l.take i).filterMap (quiet how) ++ [y] := e
        have := s12 w9 (some (Addr.mk g 0 none)) cap Lo'
        rw [e] at this
        exact this hS' hN' ((h9.tail hn8).tail hn5)
      rw [f4_s10_eq]
      refine ⟨x.kind, h6.cell (k := 0) rfl, _, build35t _, ?_⟩
      refine touches_ok h6 ⟨x.kind, 0, 0, 0, 0, 1⟩ 0 fun w7 h7 => ⟨_, _, _, rfl, ?_⟩
      have ha1 : (touches ⟨x.kind, 0, 0, 0, 0, 1⟩ 0).2.1 = (accesses x).1 := congrArg (·.1) (accesses_kind (e := ⟨x.kind, 0, 0, 0, 0, 1⟩) (f := x) rfl)
      have ha2 : (touches ⟨x.kind, 0, 0, 0, 0, 1⟩ 0).2.2 = (accesses x).2.1 := congrArg (·.2.1) (accesses_kind (e := ⟨x.kind, 0, 0, 0, 0, 1⟩) (f := x) rfl)
      rw [ha1, ha2, f4_s11_eq, BIf_iff]
      constructor
      · intro h0
        have h0 : how = 0 := by simpa using h0
        refine ⟨x.th, by rw [add_lit']; exact h7.cell (k := 0) rfl, ?_⟩
        rw [BIf_iff]
        constructor
        · intro hth
          have hth : x.th ≠ 0 := by simpa using hth
          have hq : quiet how x = none := by unfold quiet; rw [if_pos h0, if_pos hth]
          have e := nxt _ hq
          have e : (l.take (i + 1)).filterMap (quiet how) = (l.take i).filterMap (quiet how) := by rw [e]; simp
          have := s12 w7 oa oc Lo
          rw [e] at this
          exact this hS hN (h7.tail hn5)
        · intro hth
          have hth : ¬ x.th ≠ 0 := by simpa using hth
          have hq : quiet how x = some (if x.kind = 11 ∨ x.kind = 13 then { x with kind := 1 } else x) := by unfold quiet; rw [if_pos h0, if_neg hth]
          have s14 : ∀ b, (b = true ↔ x.kind = 11 ∨ x.kind = 13) → f4_s14 b false true how (some a) l.length sc l.length i (Addr.mk n5 0 none) oa ((l.take i).filterMap (quiet how)).length oc w7 K (fun e' w' => ∃ m, m < l.length - i ∧ ∃ (i : Nat) (oa : Option Addr) (oc : Nat) (Lo : List (Nat × Obj)), i ≤ l.length ∧ m = l.length - i ∧
      e' = Env.mk 107 [(4, (Value.bool false)), (5, (Value.bool true)), (6, (Value.slice oa ((l.take i).filterMap (quiet how)).length oc)), (27, (Value.int .i64 i)), (1, (Value.int .i64 how)), (25, (Value.slice (some a) l.length sc)), (26, (Value.int .i64 l.length))] [] ∧
      SlO 6 35 (.slice oa ((l.take i).filterMap (quiet how)).length oc) ((l.take i).filterMap (quiet how)).length (evsCs ((l.take i).filterMap (quiet how))) Lo ∧ New w0 Lo ∧ St w0 w' (Lo ++ H)) := by
            intro b hb
            rw [f4_s14_eq, BIf_iff]
            refine ⟨fun hbt => h7.st1 (k := 0) rfl (by simp [Evcs_len]) rfl fun w8 h8 => s15 w8 { x with kind := 1 } (by rw [hq, if_pos (hb.1 hbt)]) h8, fun hbf => s15 w7 x (by rw [hq, if_neg (fun hh => by rw [hb.2 hh] at hbf; cases hbf)]) h7⟩
          rw [f4_s13_eq]
          refine ⟨x.kind, h7.cell (k := 0) rfl, ?_⟩
          rw [BIf_iff]
          refine ⟨fun hk => s14 true ⟨fun _ => .inl (by simpa using hk), fun _ => rfl⟩, fun hk => ⟨x.kind, h7.cell (k := 0) rfl, s14 _ ⟨fun hh => .inr (by simpa using hh), fun hh => ?_⟩⟩⟩
          have hk : x.kind ≠ 11 := by simpa using hk
          simp; omega
      · intro h0
        have h0 : how ≠ 0 := by simpa using h0
        have s16 : ∀ b, (b = true ↔ how = 1 ∧ (accesses x).1 = true) → f4_s16 b false true how (some a) l.length sc l.length i (Addr.mk n5 0 none) oa ((l.take i).filterMap (quiet how)).length oc (accesses x).1 (accesses x).2.1 w7 K (fun e' w' => ∃ m, m < l.length - i ∧ ∃ (i : Nat) (oa : Option Addr) (oc : Nat) (Lo : List (Nat × Obj)), i ≤ l.length ∧ m = l.length - i ∧
      e' = Env.mk 107 [(4, (Value.bool false)), (5, (Value.bool true)), (6, (Value.slice oa ((l.take i).filterMap (quiet how)).length oc)), (27, (Value.int .i64 i)), (1, (Value.int .i64 how)), (25, (Value.slice (some a) l.length sc)), (26, (Value.int .i64 l.length))] [] ∧
      SlO 6 35 (.slice oa ((l.take i).filterMap (quiet how)).length oc) ((l.take i).filterMap (quiet how)).length (evsCs ((l.take i).filterMap (quiet how))) Lo ∧ New w0 Lo ∧ St w0 w' (Lo ++ H)) := by
          intro b hb
          rw [f4_s16_eq, BIf_iff]
          refine ⟨fun hbt => h7.st1 (k := 0) rfl (by simp [Evcs_len]) rfl fun w8 h8 => s15 w8 { x with kind := 2 } (by unfold quiet; rw [if_neg h0, if_pos (hb.1 hbt)]) h8, fun hbf => ?_⟩
          have hnb : ¬ (how = 1 ∧ (accesses x).1 = true) := fun hh => by rw [hb.2 hh] at hbf; cases hbf
          have s17 : ∀ b, (b = true ↔ how ≠ 1 ∧ (accesses x).2.1 = false ∧ ((accesses x).1 = true ∨ x.kind = 2 ∨ x.kind = 23)) → f4_s17 b false true how (some a) l.length sc l.length i (Addr.mk n5 0 none) oa ((l.take i).filterMap (quiet how)).length oc w7 K (fun e' w' => ∃ m, m < l.length - i ∧ ∃ (i : Nat) (oa : Option Addr) (oc : Nat) (Lo : List (Nat × Obj)), i ≤ l.length ∧ m = l.length - i ∧
      e' = Env.mk 107 [(4, (Value.bool false)), (5, (Value.bool true)), (6, (Value.slice oa ((l.take i).filterMap (quiet how)).length oc)), (27, (Value.int .i64 i)), (1, (Value.int .i64 how)), (25, (Value.slice (some a) l.length sc)), (26, (Value.int .i64 l.length))] [] ∧
      SlO 6 35 (.slice oa ((l.take i).filterMap (quiet how)).length oc) ((l.take i).filterMap (quiet how)).length (evsCs ((l.take i).filterMap (quiet how))) Lo ∧ New w0 Lo ∧ St w0 w' (Lo ++ H)) := by
            intro b hb
            rw [f4_s17_eq, BIf_iff]
            refine ⟨fun hbt => ⟨x.n, by rw [add_lit']; exact h7.cell (k := 0) rfl, h7.st1 (k := 0) rfl (by simp [Evcs_len]) rfl fun w8 h8 => ?_⟩, fun hbf => s15 w7 x (by unfold quiet; rw [if_neg h0, if_neg hnb, if_neg (fun hh => by rw [hb.2 hh] at hbf; cases hbf)]) h7⟩
            rw [add_lit']
            refine h8.st1 (k := 0) rfl (by simp [Evcs_len]) rfl fun w9 h9 => s15 w9 { x with kind := 4, n := IntKind.wrap .i64 (1 + and3 x.n) } (by unfold quiet; rw [if_neg h0, if_neg hnb, if_pos (hb.1 hbt)]) h9
          rw [BIf_iff]
          refine ⟨fun hn1 => ?_, fun hn1 => s17 false ⟨fun h => (by cases h), fun hh => ?_⟩⟩
          · have hn1 : how ≠ 1 := by simpa using hn1
            rw [BIf_iff]
            refine ⟨fun hat => ?_, fun hat => s17 false ⟨fun h => (by cases h), fun hh => (by rw [hh.2.1] at hat; cases hat)⟩⟩
            have hat : (accesses x).2.1 = false := by simpa using hat
            rw [BIf_iff]
            refine ⟨fun hs => s17 true ⟨fun _ => ⟨hn1, hat, .inl hs⟩, fun _ => rfl⟩, fun hs => ⟨x.kind, h7.cell (k := 0) rfl, ?_⟩⟩
            rw [BIf_iff]
            refine ⟨fun hk => s17 true ⟨fun _ => ⟨hn1, hat, .inr (.inl (by simpa using hk))⟩, fun _ => rfl⟩, fun hk => ⟨x.kind, h7.cell (k := 0) rfl, s17 _ ⟨fun hh => ⟨hn1, hat, .inr (.inr (by simpa using hh))⟩, fun hh => ?_⟩⟩⟩
            have hk : x.kind ≠ 2 := by simpa using hk
            rcases hh.2.2 with h | h | h
            · rw [hs] at h; cases h
            · exact absurd h hk
            · simp [h]
          · have : how = 1 := by simpa using hn1
            exact absurd this hh.1
        rw [BIf_iff]
        refine ⟨fun h1 => s16 _ ⟨fun hh => ⟨by simpa using h1, hh⟩, fun hh => hh.2⟩, fun h1 => s16 false ⟨fun h => (by cases h), fun hh => ?_⟩⟩
        have h1 : how ≠ 1 := by simpa using h1
        exact absurd hh.1 h1
    · intro hge
      have : i = l.length := by simp at hge; omega
      subst this
      rw [List.take_length] at hS
      rw [f4_s18_eq, List.take_length]
      have hlo : (l.filterMap (quiet how)).length ≤ 200 := by have := hll l.length; rw [List.take_length] at this; exact this
      refine races_ok sort48 h3 (l := l.filterMap (quiet how)) (fun w' h' => hS.row fun y hy => h'.has _ _ (by simp [hy])) (by omega) (fun x hx hx0 w4 h4 => ⟨none, 0, 0, x, rfl, ?_⟩) (fun out hx hlen w4 rv Lo2 hS2 hN2 h4 => ?_)
      · rw [show (x != 0) = true by simpa using hx0, BIf_true, f4_s19_eq]
        exact hK w4 (h4.sub hN)
      · have := quiet_races hx
        subst this
        obtain ⟨ra, rc, hrv⟩ := hS2.form
        subst hrv
        refine ⟨ra, _, rc, 0, rfl, ?_⟩
        rw [show ((0 : Int) != 0) = false by decide, BIf_false]
        refine ⟨0, fun wq _ => run_len_25 wq, ?_⟩
        rw [show ((0 : Int) == 0) = true by decide, BIf_true, f4_s19_eq]
        exact hK w4 ((h4.sub hN2).sub hN)
  rw [BIf_iff]
  refine ⟨fun _ => s3 true w1 h1 (by intro hh; cases hh), fun hle => ?_⟩
  have hle : l.length ≤ 200 := by simp at hle; omega
  rw [← hov]
  exact bytesOf_ok h1 hrow (by omega) fun x w2 h2 => ⟨x, rfl, s3 _ w2 h2 fun _ => hle⟩
end Go.Fx.Try
namespace Go.Proofs.Ytamciedmojpjaaa
open Go Go.Fx Go.Fx.Try Go.Fx.Mo
open Go.ChangeShapes Go.WideShapes Go.ChangeAt Go.RowKit
set_option maxRecDepth 100000
theorem raceQuiet_lifted (os : Os) (started : os.Started) (H : Type) (enc : TypeId × Value → H) :
    ReturnsInHanded {} Try.checked os 4 .any (Rows.raceQuietSpec.pre6 enc Try.prog Try.f4 Rows.raceQuietRow.domain false) (Rows.raceQuietSpec.post enc Try.prog Try.f4 false true false false) := by
  refine returnsInHanded_of_change (C := Try.checked) own started (by kernel_rfl) Try.func4
    (ChangeSpec.witness6 (enc := enc) (C := Try.checked) false ⟨#[], #[.slice none 0 0, .int .i64 0], []⟩ 8 (by kernel_rfl) (by kernel_rfl) (by kernel_rfl) (by kernel_rfl)) ?_
  intro W base args ds gs before hval0 hW _ _
  have hval : ∀ (j : Nat) t v, Try.f4.params[j]? = some t → args[j]? = some v → Value.okWide Try.prog W .any base t v := hval0
  have hW' := hW
  obtain ⟨p, q, hA0, hV, rfl, hfz, hnd⟩ := hW
  have hA : DataW.TrodAll enc Try.prog W 0 (fun _ => true) true Try.f4.params.toList args.toList ds p := hA0
  rw [Try.params4] at hA hval
  obtain ⟨v0, v1, d0, d1, p0, p1, rfl, rfl, rfl, h0, h1⟩ := trodAll_two hA
  obtain ⟨rfl, rfl⟩ := trodVars_none hV
  obtain ⟨l, hrow, _⟩ := open_events (okWide_slice Try.underlying22 (hval 0 22 v0 rfl rfl)) h0
  obtain ⟨how, rfl, rfl, rfl, hwf⟩ := open_int Try.underlying3 (hval 1 3 v1 rfl rfl) h1
  have hcall := quiet_ok (w0 := W) (H := []) (K := fun v w' => v = .bool true ∧ Below W.heap.size W w') how (St.refl W) (fun w' h' => Row.old hrow (New.nil W) h') (fun w' h' => ⟨rfl, h'.below⟩)
  refine Calls.mono hcall fun e W' he => ?_
  unfold retK at he
  split at he
  · obtain ⟨rfl, hB⟩ := he
    have hlt : ∀ x ∈ p0, x.block < W.heap.size := fun x hx => hW'.lt x (by simp [hx])
    have h0' := Below.trod laidOut readable22 types22 h0 hB hlt
    exact ⟨_, rfl, _, _, _, [], p0 ++ [], [], hW', trodAll_mk1 (shut_bool Try.underlying4 _), trodAll_mk2 h0' (shut_int Try.underlying3 hwf), rfl, hB.frame _, fun h => by cases h⟩
  · exact he.elim
theorem raceQuiet_holds : Rows.RaceQuietSaid :=
  OpenClaim.holds_of_wide 4 Try.f4 rfl rfl rfl rfl rfl rfl rfl ⟨rfl, rfl, rfl, rfl, rfl⟩ rfl rfl rfl rfl rfl (by kernel_rfl) Try.func4 (by kernel_rfl)
    (of_decide_eq_true (by kernel_rfl)) (by unfold Func.isWrapper; first | (rw [if_pos (by decide +kernel)]; kernel_rfl) | (rw [if_neg (by decide +kernel)]; exact ⟨rfl, rfl⟩))
    (fun os started H enc _ => raceQuiet_lifted os started H enc)
#print axioms raceQuiet_holds
end Go.Proofs.Ytamciedmojpjaaa
