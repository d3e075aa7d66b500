/- RaceMutexed returns true for every list of events and mutex, and they read behind the call as they read before. No condition. -/
import Derived.Test.YtamciedmojpjaaaGb
import Derived.KernelRfl
import Derived.Test.YtamciedmojpjaaaGg
import Derived.Test.YtamciedmojpjaaaGl
import Derived.Test.YtamciedmojpjaaaGm
namespace Go.Fx.Try
set_option maxRecDepth 100000
open Go Go.Fx
/-! 6 candling.candlinglaw30.RaceMutexed -/
noncomputable def c6 : Code := match Go.Proofs.Try.f6.body with
  | some c => c
  | none => .skip
noncomputable def rs6 : List ResultVar := Go.Proofs.Try.f6.results.toList
abbrev f6_kb (K : KT) : Exit → YT := bodyK P rs6 K
def f6 (s0a : Option Addr) (s0l s0c : Nat) (x1 : Int) (w : World) (K : KT) : Prop := CS P c6 none [4] [4] (f6_kb K) (env0 69 [(Value.slice s0a s0l s0c), (Value.int .u32 x1)]) w
abbrev f6_k0 (K : KT) : Exit → YT := kseq P (codeAt c6 [0]) (codeAt c6 [1]) none [4] [4] (f6_kb K)
abbrev f6_k1 (K : KT) : Exit → YT := kseq P (codeAt c6 [1, 0]) (codeAt c6 [1, 1]) none [4] [4] (f6_kb K)
abbrev f6_k2 (K : KT) : Exit → YT := kseq P (codeAt c6 [1, 1, 0]) (codeAt c6 [1, 1, 1]) none [4] [4] (f6_kb K)
abbrev f6_k3 (K : KT) : Exit → YT := kseq P (codeAt c6 [1, 1, 0, 0]) (codeAt c6 [1, 1, 0, 1]) none [1, 4, 5, 0] [4] (f6_k2 K)
def f6_s0 (b6 b7 : Bool) (x8 : Int) (b9 : Bool) (s10a : Option Addr) (s10l s10c : Nat) (w : World) (K : KT) : Prop := Join (fun e w => CS P (codeAt c6 [1, 1, 0, 1]) none [1, 4, 5, 0] [4] (f6_k2 K) e w) (Env.mk 69 [(22, (Value.bool b6)), (5, (Value.bool b7)), (1, (Value.int .u32 x8)), (4, (Value.bool b9)), (0, (Value.slice s10a s10l s10c))] []) w
abbrev f6_k4 (K : KT) : Exit → YT := kseq P (codeAt c6 [1, 1, 0, 1, 0, 0]) (codeAt c6 [1, 1, 0, 1, 0, 1]) none [1, 4, 5, 0] [4] (f6_k2 K)
def f6_s1 (x11 : Int) (b12 b13 : Bool) (s14a : Option Addr) (s14l s14c : Nat) (w : World) (K : KT) : Prop := Join (fun e w => CS P (codeAt c6 [1, 1, 1]) none [4] [4] (f6_kb K) e w) (Env.mk 69 [(1, (Value.int .u32 x11)), (4, (Value.bool b12)), (5, (Value.bool b13)), (0, (Value.slice s14a s14l s14c))] []) w
abbrev f6_k5 (K : KT) : Exit → YT := kseq P (codeAt c6 [1, 1, 1, 0]) (codeAt c6 [1, 1, 1, 1]) none [4] [4] (f6_kb K)
abbrev f6_k6 (K : KT) : Exit → YT := kseq P (codeAt c6 [1, 1, 1, 1, 0]) (codeAt c6 [1, 1, 1, 1, 1]) none [4] [4] (f6_kb K)
abbrev f6_k7 (K : KT) : Exit → YT := kseq P (codeAt c6 [1, 1, 1, 1, 0, 0]) (codeAt c6 [1, 1, 1, 1, 0, 1]) none [5, 6, 0] [4] (f6_k6 K)
abbrev f6_k8 (K : KT) : Exit → YT := kblock 0 (f6_k6 K)
def f6_lp2 (K : KT) (Y2 : YT) (e : Env) (w : World) : Prop := Join (fun e w => CS P (codeAt c6 [1, 1, 1, 1, 0, 1, 0, 0]) none [27, 1, 6, 25, 4, 5, 0, 26] [4, 5, 6, 0] (kloop [27, 1, 6, 25, 4, 5, 0, 26] Y2 (f6_k8 K)) e w) e w
abbrev f6_kl2 (K : KT) (Y2 : YT) : Exit → YT := kloop [27, 1, 6, 25, 4, 5, 0, 26] Y2 (f6_k8 K)
def f6_lb2 (x22 x23 : Int) (s24a : Option Addr) (s24l s24c : Nat) (s25a : Option Addr) (s25l s25c : Nat) (b26 b27 : Bool) (s28a : Option Addr) (s28l s28c : Nat) (x29 : Int) (w : World) (K : KT) (Y2 : YT) : Prop := Join (fun e w => CS P (codeAt c6 [1, 1, 1, 1, 0, 1, 0, 0]) none [27, 1, 6, 25, 4, 5, 0, 26] [4, 5, 6, 0] (f6_kl2 K Y2) e w) (Env.mk 69 [(27, (Value.int .i64 x22)), (1, (Value.int .u32 x23)), (6, (Value.slice s24a s24l s24c)), (25, (Value.slice s25a s25l s25c)), (4, (Value.bool b26)), (5, (Value.bool b27)), (0, (Value.slice s28a s28l s28c)), (26, (Value.int .i64 x29))] []) w
abbrev f6_k9 (K : KT) (Y2 : YT) : Exit → YT := kseq P (codeAt c6 [1, 1, 1, 1, 0, 1, 0, 0, 0]) (codeAt c6 [1, 1, 1, 1, 0, 1, 0, 0, 1]) none [27, 1, 6, 25, 4, 5, 0, 26] [4, 5, 6, 0] (f6_kl2 K Y2)
abbrev f6_k10 (K : KT) (Y2 : YT) : Exit → YT := kseq P (codeAt c6 [1, 1, 1, 1, 0, 1, 0, 0, 1, 0]) (codeAt c6 [1, 1, 1, 1, 0, 1, 0, 0, 1, 1]) none [27, 1, 6, 25, 4, 5, 0, 26] [4, 5, 6, 0] (f6_kl2 K Y2)
def f6_s3 (x30 : Int) (s31a : Option Addr) (s31l s31c : Nat) (b32 b33 : Bool) (s34a : Option Addr) (s34l s34c : Nat) (x35 x36 : Int) (s37a : Option Addr) (s37l s37c : Nat) (w : World) (K : KT) (Y2 : YT) : Prop := Join (fun e w => CS P (codeAt c6 [1, 1, 1, 1, 0, 1, 0, 0, 1, 1]) none [27, 1, 6, 25, 4, 5, 0, 26] [4, 5, 6, 0] (f6_kl2 K Y2) e w) (Env.mk 69 [(1, (Value.int .u32 x30)), (25, (Value.slice s31a s31l s31c)), (4, (Value.bool b32)), (5, (Value.bool b33)), (0, (Value.slice s34a s34l s34c)), (26, (Value.int .i64 x35)), (27, (Value.int .i64 x36)), (6, (Value.slice s37a s37l s37c))] []) w
abbrev f6_k11 (K : KT) (Y2 : YT) : Exit → YT := kseq P (codeAt c6 [1, 1, 1, 1, 0, 1, 0, 0, 1, 1, 0]) (codeAt c6 [1, 1, 1, 1, 0, 1, 0, 0, 1, 1, 1]) none [27, 1, 6, 25, 4, 5, 0, 26] [4, 5, 6, 0] (f6_kl2 K Y2)
abbrev f6_k12 (K : KT) (Y2 : YT) : Exit → YT := kblock 1 (f6_k11 K Y2)
abbrev f6_k13 (K : KT) (Y2 : YT) : Exit → YT := kseq P (codeAt c6 [1, 1, 1, 1, 0, 1, 0, 0, 1, 1, 0, 0, 0]) (codeAt c6 [1, 1, 1, 1, 0, 1, 0, 0, 1, 1, 0, 0, 1]) none [1, 6, 25, 4, 5, 0, 26, 27] [4, 5, 6, 0, 1, 25, 26, 27] (f6_k12 K Y2)
def f6_s4 (x58 : Int) (s59a : Option Addr) (s59l s59c : Nat) (s60a : Option Addr) (s60l s60c : Nat) (b61 b62 : Bool) (s63a : Option Addr) (s63l s63c : Nat) (x64 x65 : Int) (w : World) (K : KT) (Y2 : YT) : Prop := Join (fun e w => CS P (codeAt c6 [1, 1, 1, 1, 0, 1, 0, 0, 1, 1, 1]) none [27, 1, 6, 25, 4, 5, 0, 26] [4, 5, 6, 0] (f6_kl2 K Y2) e w) (Env.mk 69 [(1, (Value.int .u32 x58)), (6, (Value.slice s59a s59l s59c)), (25, (Value.slice s60a s60l s60c)), (4, (Value.bool b61)), (5, (Value.bool b62)), (0, (Value.slice s63a s63l s63c)), (26, (Value.int .i64 x64)), (27, (Value.int .i64 x65))] []) w
theorem f6_s4_eq (x58 : Int) (s59a : Option Addr) (s59l s59c : Nat) (s60a : Option Addr) (s60l s60c : Nat) (b61 b62 : Bool) (s63a : Option Addr) (s63l s63c : Nat) (x64 x65 : Int) (w : World) (K : KT) (Y2 : YT) : f6_s4 x58 s59a s59l s59c s60a s60l s60c b61 b62 s63a s63l s63c x64 x65 w K Y2 = (Y2 (Env.mk 69 [(27, (Value.int .i64 (IntKind.wrap .i64 ((x65 : Int) + 1)))), (1, (Value.int .u32 x58)), (6, (Value.slice s59a s59l s59c)), (25, (Value.slice s60a s60l s60c)), (4, (Value.bool b61)), (5, (Value.bool b62)), (0, (Value.slice s63a s63l s63c)), (26, (Value.int .i64 x64))] []) w) := by kernel_rfl
theorem f6_s3_eq (x30 : Int) (s31a : Option Addr) (s31l s31c : Nat) (b32 b33 : Bool) (s34a : Option Addr) (s34l s34c : Nat) (x35 x36 : Int) (s37a : Option Addr) (s37l s37c : Nat) (w : World) (K : KT) (Y2 : YT) : f6_s3 x30 s31a s31l s31c b32 b33 s34a s34l s34c x35 x36 s37a s37l s37c w K Y2 = (optS s31a (fun a38 => 0 ≤ (x36 : Int) ∧ (x36 : Int) < (s31l : Nat) ∧ LdA 6 (a38.add (Int.toNat x36 * 6)) w (fun cs39 => NewC (zcells P 35) 35 w (fun n40 w41 => StA 6 (Addr.mk n40 0 none) cs39 w41 (fun w42 => ∃ x43 : Int, w42.drew.cell? ((Addr.mk n40 0 none).add 1) = some (Value.int .i64 x43) ∧ (CallL P 26 [(Value.int .i64 14), (Value.int .i64 x43), (Value.int .u32 x30), (Value.int .i64 0)] w42.drew (fun r44 w45 => ∃ cs46 : Array Value, r44 = (Value.agg cs46) ∧ ∃ x47 : Int, w45.cell? ((Addr.mk n40 0 none).add 1) = some (Value.int .i64 x47) ∧ (LdA 6 (Addr.mk n40 0 none) w45 (fun cs48 => CallL P 26 [(Value.int .i64 15), (Value.int .i64 x47), (Value.int .u32 x30), (Value.int .i64 0)] w45 (fun r49 w50 => ∃ cs51 : Array Value, r49 = (Value.agg cs51) ∧ sizesAre 6 [(Value.agg cs46), (Value.agg cs48), (Value.agg cs51)] ∧ NewC (([(Value.agg cs46), (Value.agg cs48), (Value.agg cs51)].map fun (v : Value) => v.cells.toList).flatten.toArray) 35 w50 (fun n55 w53 => ∃ (s56a : Option Addr) (s56l s56c : Nat), ∃ w57 : World, (Builtin.append_ #[22, 22] 22 [(Value.slice s37a s37l s37c), (Value.slice (some (Addr.mk n55 0 none)) 3 3)].toArray).run P w53 = .ok (Value.slice s56a s56l s56c) w57 ∧ f6_s4 x30 s56a s56l s56c s31a s31l s31c b32 b33 s34a s34l s34c x35 x36 w57 K Y2)))) ∧ (CallL P 26 [(Value.int .i64 15), (Value.int .i64 x47), (Value.int .u32 x30), (Value.int .i64 0)] w45 (fun r66 w67 => ∃ cs68 : Array Value, r66 = (Value.agg cs68) ∧ LdA 6 (Addr.mk n40 0 none) w67 (fun cs69 => sizesAre 6 [(Value.agg cs46), (Value.agg cs69), (Value.agg cs68)] ∧ NewC (([(Value.agg cs46), (Value.agg cs69), (Value.agg cs68)].map fun (v : Value) => v.cells.toList).flatten.toArray) 35 w67 (fun n73 w71 => ∃ (s74a : Option Addr) (s74l s74c : Nat), ∃ w75 : World, (Builtin.append_ #[22, 22] 22 [(Value.slice s37a s37l s37c), (Value.slice (some (Addr.mk n73 0 none)) 3 3)].toArray).run P w71 = .ok (Value.slice s74a s74l s74c) w75 ∧ f6_s4 x30 s74a s74l s74c s31a s31l s31c b32 b33 s34a s34l s34c x35 x36 w75 K Y2)))))) ∧ (LdA 6 (Addr.mk n40 0 none) w42.drew (fun cs76 => (CallL P 26 [(Value.int .i64 14), (Value.int .i64 x43), (Value.int .u32 x30), (Value.int .i64 0)] w42.drew (fun r77 w78 => ∃ cs79 : Array Value, r77 = (Value.agg cs79) ∧ ∃ x80 : Int, w78.cell? ((Addr.mk n40 0 none).add 1) = some (Value.int .i64 x80) ∧ CallL P 26 [(Value.int .i64 15), (Value.int .i64 x80), (Value.int .u32 x30), (Value.int .i64 0)] w78 (fun r81 w82 => ∃ cs83 : Array Value, r81 = (Value.agg cs83) ∧ sizesAre 6 [(Value.agg cs79), (Value.agg cs76), (Value.agg cs83)] ∧ NewC (([(Value.agg cs79), (Value.agg cs76), (Value.agg cs83)].map fun (v : Value) => v.cells.toList).flatten.toArray) 35 w82 (fun n87 w85 => ∃ (s88a : Option Addr) (s88l s88c : Nat), ∃ w89 : World, (Builtin.append_ #[22, 22] 22 [(Value.slice s37a s37l s37c), (Value.slice (some (Addr.mk n87 0 none)) 3 3)].toArray).run P w85 = .ok (Value.slice s88a s88l s88c) w89 ∧ f6_s4 x30 s88a s88l s88c s31a s31l s31c b32 b33 s34a s34l s34c x35 x36 w89 K Y2)))) ∧ (∃ x90 : Int, w42.drew.cell? ((Addr.mk n40 0 none).add 1) = some (Value.int .i64 x90) ∧ CallL P 26 [(Value.int .i64 14), (Value.int .i64 x43), (Value.int .u32 x30), (Value.int .i64 0)] w42.drew (fun r91 w92 => ∃ cs93 : Array Value, r91 = (Value.agg cs93) ∧ CallL P 26 [(Value.int .i64 15), (Value.int .i64 x90), (Value.int .u32 x30), (Value.int .i64 0)] w92 (fun r94 w95 => ∃ cs96 : Array Value, r94 = (Value.agg cs96) ∧ sizesAre 6 [(Value.agg cs93), (Value.agg cs76), (Value.agg cs96)] ∧ NewC (([(Value.agg cs93), (Value.agg cs76), (Value.agg cs96)].map fun (v : Value) => v.cells.toList).flatten.toArray) 35 w95 (fun n100 w98 => ∃ (s101a : Option Addr) (s101l s101c : Nat), ∃ w102 : World, (Builtin.append_ #[22, 22] 22 [(Value.slice s37a s37l s37c), (Value.slice (some (Addr.mk n100 0 none)) 3 3)].toArray).run P w98 = .ok (Value.slice s101a s101l s101c) w102 ∧ f6_s4 x30 s101a s101l s101c s31a s31l s31c b32 b33 s34a s34l s34c x35 x36 w102 K Y2)))))) ∧ (∃ x103 : Int, w42.drew.cell? ((Addr.mk n40 0 none).add 1) = some (Value.int .i64 x103) ∧ (CallL P 26 [(Value.int .i64 14), (Value.int .i64 x43), (Value.int .u32 x30), (Value.int .i64 0)] w42.drew (fun r104 w105 => ∃ cs106 : Array Value, r104 = (Value.agg cs106) ∧ (LdA 6 (Addr.mk n40 0 none) w105 (fun cs107 => CallL P 26 [(Value.int .i64 15), (Value.int .i64 x103), (Value.int .u32 x30), (Value.int .i64 0)] w105 (fun r108 w109 => ∃ cs110 : Array Value, r108 = (Value.agg cs110) ∧ sizesAre 6 [(Value.agg cs106), (Value.agg cs107), (Value.agg cs110)] ∧ NewC (([(Value.agg cs106), (Value.agg cs107), (Value.agg cs110)].map fun (v : Value) => v.cells.toList).flatten.toArray) 35 w109 (fun n114 w112 => ∃ (s115a : Option Addr) (s115l s115c : Nat), ∃ w116 : World, (Builtin.append_ #[22, 22] 22 [(Value.slice s37a s37l s37c), (Value.slice (some (Addr.mk n114 0 none)) 3 3)].toArray).run P w112 = .ok (Value.slice s115a s115l s115c) w116 ∧ f6_s4 x30 s115a s115l s115c s31a s31l s31c b32 b33 s34a s34l s34c x35 x36 w116 K Y2)))) ∧ (CallL P 26 [(Value.int .i64 15), (Value.int .i64 x103), (Value.int .u32 x30), (Value.int .i64 0)] w105 (fun r117 w118 => ∃ cs119 : Array Value, r117 = (Value.agg cs119) ∧ LdA 6 (Addr.mk n40 0 none) w118 (fun cs120 => sizesAre 6 [(Value.agg cs106), (Value.agg cs120), (Value.agg cs119)] ∧ NewC (([(Value.agg cs106), (Value.agg cs120), (Value.agg cs119)].map fun (v : Value) => v.cells.toList).flatten.toArray) 35 w118 (fun n124 w122 => ∃ (s125a : Option Addr) (s125l s125c : Nat), ∃ w126 : World, (Builtin.append_ #[22, 22] 22 [(Value.slice s37a s37l s37c), (Value.slice (some (Addr.mk n124 0 none)) 3 3)].toArray).run P w122 = .ok (Value.slice s125a s125l s125c) w126 ∧ f6_s4 x30 s125a s125l s125c s31a s31l s31c b32 b33 s34a s34l s34c x35 x36 w126 K Y2)))))) ∧ (LdA 6 (Addr.mk n40 0 none) w42.drew (fun cs127 => CallL P 26 [(Value.int .i64 14), (Value.int .i64 x43), (Value.int .u32 x30), (Value.int .i64 0)] w42.drew (fun r128 w129 => ∃ cs130 : Array Value, r128 = (Value.agg cs130) ∧ CallL P 26 [(Value.int .i64 15), (Value.int .i64 x103), (Value.int .u32 x30), (Value.int .i64 0)] w129 (fun r131 w132 => ∃ cs133 : Array Value, r131 = (Value.agg cs133) ∧ sizesAre 6 [(Value.agg cs130), (Value.agg cs127), (Value.agg cs133)] ∧ NewC (([(Value.agg cs130), (Value.agg cs127), (Value.agg cs133)].map fun (v : Value) => v.cells.toList).flatten.toArray) 35 w132 (fun n137 w135 => ∃ (s138a : Option Addr) (s138l s138c : Nat), ∃ w139 : World, (Builtin.append_ #[22, 22] 22 [(Value.slice s37a s37l s37c), (Value.slice (some (Addr.mk n137 0 none)) 3 3)].toArray).run P w135 = .ok (Value.slice s138a s138l s138c) w139 ∧ f6_s4 x30 s138a s138l s138c s31a s31l s31c b32 b33 s34a s34l s34c x35 x36 w139 K Y2))))))))))) := by kernel_rfl
def f6_s5 (b140 : Bool) (s141a : Option Addr) (s141l s141c : Nat) (s142a : Option Addr) (s142l s142c : Nat) (w : World) (K : KT) : Prop := Join (fun e w => CS P (codeAt c6 [1, 1, 1, 1, 1]) none [4] [4] (f6_kb K) e w) (Env.mk 69 [(5, (Value.bool b140)), (6, (Value.slice s141a s141l s141c)), (0, (Value.slice s142a s142l s142c))] []) w
abbrev f6_k14 (K : KT) : Exit → YT := kseq P (codeAt c6 [1, 1, 1, 1, 1, 0]) (codeAt c6 [1, 1, 1, 1, 1, 1]) none [4] [4] (f6_kb K)
abbrev f6_k15 (K : KT) : Exit → YT := kseq P (codeAt c6 [1, 1, 1, 1, 1, 1, 0]) (codeAt c6 [1, 1, 1, 1, 1, 1, 1]) none [4] [4] (f6_kb K)
abbrev f6_k16 (K : KT) : Exit → YT := kseq P (codeAt c6 [1, 1, 1, 1, 1, 1, 1, 0]) (codeAt c6 [1, 1, 1, 1, 1, 1, 1, 1]) none [4] [4] (f6_kb K)
def f6_s6 (b152 : Bool) (w : World) (K : KT) : Prop := Join (fun e w => CS P (codeAt c6 [1, 1, 1, 1, 1, 1, 1, 1]) none [4] [4] (f6_kb K) e w) (Env.mk 69 [(4, (Value.bool b152))] []) w
theorem f6_s6_eq (b152 : Bool) (w : World) (K : KT) : f6_s6 b152 w K = (K (Value.bool b152) w) := by kernel_rfl
theorem f6_s5_eq (b140 : Bool) (s141a : Option Addr) (s141l s141c : Nat) (s142a : Option Addr) (s142l s142c : Nat) (w : World) (K : KT) : f6_s5 b140 s141a s141l s141c s142a s142l s142c w K = (CallL P 27 [(Value.slice s142a s142l s142c)] w (fun r143 w144 => ∃ (s145a : Option Addr) (s145l s145c : Nat), ∃ (s146a : Option Addr) (s146l s146c : Nat), ∃ x147 : Int, r143 = (Value.tuple [(Value.slice s145a s145l s145c), (Value.slice s146a s146l s146c), (Value.int .i64 x147)].toArray) ∧ CallL P 16 [(Value.slice s141a s141l s141c)] w144 (fun r148 w149 => ∃ (s150a : Option Addr) (s150l s150c : Nat), ∃ x151 : Int, r148 = (Value.tuple [(Value.slice s150a s150l s150c), (Value.int .i64 x151)].toArray) ∧ BIf ((x147 : Int) != 0) (f6_s6 b140 w149 K) (BIf ((x151 : Int) == 0) (∃ x153 : Int, (∀ wq, Ext w149 wq → (Builtin.len_ #[25] 3 [(Value.slice s150a s150l s150c)].toArray).run P wq = .ok (Value.int .i64 x153) wq) ∧ BIf ((x153 : Int) == 0) (f6_s6 b140 w149 K) (f6_s6 false w149 K)) (f6_s6 false w149 K))))) := by kernel_rfl
theorem f6_lb2_eq (x22 x23 : Int) (s24a : Option Addr) (s24l s24c : Nat) (s25a : Option Addr) (s25l s25c : Nat) (b26 b27 : Bool) (s28a : Option Addr) (s28l s28c : Nat) (x29 : Int) (w : World) (K : KT) (Y2 : YT) : f6_lb2 x22 x23 s24a s24l s24c s25a s25l s25c b26 b27 s28a s28l s28c x29 w K Y2 = (BIf (decide ((x22 : Int) < x29)) (f6_s3 x23 s25a s25l s25c b26 b27 s28a s28l s28c x29 x22 s24a s24l s24c w K Y2) (f6_s5 b27 s24a s24l s24c s28a s28l s28c w K)) := by kernel_rfl
theorem f6_s1_eq (x11 : Int) (b12 b13 : Bool) (s14a : Option Addr) (s14l s14c : Nat) (w : World) (K : KT) : f6_s1 x11 b12 b13 s14a s14l s14c w K = (∃ (s19a : Option Addr) (s19l s19c : Nat), ∃ w20 : World, (Instr.buildSlice 22 0 ([] : List (Nat × Value)).toArray).run P w = .ok (Value.slice s19a s19l s19c) w20 ∧ ∃ x21 : Int, (∀ wq, Ext w20 wq → (Builtin.len_ #[22] 3 [(Value.slice s14a s14l s14c)].toArray).run P wq = .ok (Value.int .i64 x21) wq) ∧ LoopE (f6_lp2 K) (Env.mk 69 [(27, (Value.int .i64 0)), (1, (Value.int .u32 x11)), (6, (Value.slice s19a s19l s19c)), (25, (Value.slice s14a s14l s14c)), (4, (Value.bool b12)), (5, (Value.bool b13)), (0, (Value.slice s14a s14l s14c)), (26, (Value.int .i64 x21))] []) w20) := by kernel_rfl
theorem f6_s0_eq (b6 b7 : Bool) (x8 : Int) (b9 : Bool) (s10a : Option Addr) (s10l s10c : Nat) (w : World) (K : KT) : f6_s0 b6 b7 x8 b9 s10a s10l s10c w K = (BIf b6 (K (Value.bool b7) w) (f6_s1 x8 b9 b7 s10a s10l s10c w K)) := by kernel_rfl
theorem f6_eq (s0a : Option Addr) (s0l s0c : Nat) (x1 : Int) (w : World) (K : KT) : f6 s0a s0l s0c x1 w K = (CallL P 13 [] w (fun r2 w3 => ∃ b4 : Bool, r2 = (Value.bool b4) ∧ ∃ x5 : Int, (∀ wq, Ext w3 wq → (Builtin.len_ #[22] 3 [(Value.slice s0a s0l s0c)].toArray).run P wq = .ok (Value.int .i64 x5) wq) ∧ BIf (decide ((x5 : Int) > 100)) (f6_s0 true b4 x1 false s0a s0l s0c w3 K) (CallL P 14 [(Value.slice s0a s0l s0c)] w3 (fun r154 w155 => ∃ x156 : Int, r154 = (Value.int .i64 x156) ∧ f6_s0 (decide ((x156 : Int) > 2000)) b4 x1 false s0a s0l s0c w155 K)))) := by kernel_rfl
theorem c6_eq : Go.Proofs.Try.f6.body = some c6 := by kernel_rfl
theorem f6_un (s0a : Option Addr) (s0l s0c : Nat) (x1 : Int) (w : World) (K : KT) : f6 s0a s0l s0c x1 w K = CS P c6 none (resT Go.Proofs.Try.f6.results.toList) (resT Go.Proofs.Try.f6.results.toList) (bodyK P Go.Proofs.Try.f6.results.toList K) (env0 Go.Proofs.Try.f6.ntmps [(Value.slice s0a s0l s0c), (Value.int .u32 x1)]) w := by kernel_rfl
theorem f6_ok (s0a : Option Addr) (s0l s0c : Nat) (x1 : Int) (w : World) (K : KT) (h : f6 s0a s0l s0c x1 w K) : CallL P 6 [(Value.slice s0a s0l s0c), (Value.int .u32 x1)] w K := calls_of_CS Go.Proofs.Try.func6 c6_eq (Eq.mp (f6_un s0a s0l s0c x1 w K) h)
/-! 27 candling.race.Order -/
noncomputable def c27 : Code := match Go.Proofs.Try.f27.body with
  | some c => c
  | none => .skip
noncomputable def rs27 : List ResultVar := Go.Proofs.Try.f27.results.toList
abbrev f27_kb (K : KT) : Exit → YT := bodyK P rs27 K
def f27 (s0a : Option Addr) (s0l s0c : Nat) (w : World) (K : KT) : Prop := CS P c27 none [2, 3, 4] [2, 3, 4] (f27_kb K) (env0 17 [(Value.slice s0a s0l s0c)]) w
abbrev f27_k0 (K : KT) : Exit → YT := kseq P (codeAt c27 [0]) (codeAt c27 [1]) none [2, 3, 4] [2, 3, 4] (f27_kb K)
abbrev f27_k1 (K : KT) : Exit → YT := kseq P (codeAt c27 [1, 0]) (codeAt c27 [1, 1]) none [2, 3, 4] [2, 3, 4] (f27_kb K)
abbrev f27_k2 (K : KT) : Exit → YT := kseq P (codeAt c27 [1, 1, 0]) (codeAt c27 [1, 1, 1]) none [2, 3, 4] [2, 3, 4] (f27_kb K)
theorem f27_eq (s0a : Option Addr) (s0l s0c : Nat) (w : World) (K : KT) : f27 s0a s0l s0c w K = (CallL P 47 [(Value.slice s0a s0l s0c)] w (fun r1 w2 => ∃ cs3 : Array Value, ∃ x4 : Int, r1 = (Value.tuple [(Value.agg cs3), (Value.int .i64 x4)].toArray) ∧ NewC (zcells P 89) 89 w2 (fun n5 w6 => StA 3 (Addr.mk n5 0 none) cs3 w6 (fun w7 => ∃ (s8a : Option Addr) (s8l s8c : Nat), w7.drew.cell? (Addr.mk n5 0 none) = some (Value.slice s8a s8l s8c) ∧ ∃ (s9a : Option Addr) (s9l s9c : Nat), w7.drew.cell? ((Addr.mk n5 0 none).add 1) = some (Value.slice s9a s9l s9c) ∧ K (Value.tuple [(Value.slice s8a s8l s8c), (Value.slice s9a s9l s9c), (Value.int .i64 x4)].toArray) w7.drew)))) := by kernel_rfl
theorem c27_eq : Go.Proofs.Try.f27.body = some c27 := by kernel_rfl
theorem f27_un (s0a : Option Addr) (s0l s0c : Nat) (w : World) (K : KT) : f27 s0a s0l s0c w K = CS P c27 none (resT Go.Proofs.Try.f27.results.toList) (resT Go.Proofs.Try.f27.results.toList) (bodyK P Go.Proofs.Try.f27.results.toList K) (env0 Go.Proofs.Try.f27.ntmps [(Value.slice s0a s0l s0c)]) w := by kernel_rfl
theorem f27_ok (s0a : Option Addr) (s0l s0c : Nat) (w : World) (K : KT) (h : f27 s0a s0l s0c w K) : CallL P 27 [(Value.slice s0a s0l s0c)] w K := calls_of_CS Go.Proofs.Try.func27 c27_eq (Eq.mp (f27_un s0a s0l s0c w K) h)
end Go.Fx.Try
namespace Go.Fx.Mo
section assoc
variable {K V : Type} [DecidableEq K]
theorem look_mem {m : List (K × V)} {k : K} {v : V} (h : look m k = some v) : (k, v) ∈ m := by
  unfold look at h
  cases hf : m.find? fun p => p.1 == k with
  | none => rw [hf] at h; cases h
  | some p =>
    rw [hf] at h
    simp at h
    have h1 := List.find?_some hf
    have h2 := List.mem_of_find?_eq_some hf
    simp at h1
    subst h1; subst h
    exact h2
theorem put_mem {m : List (K × V)} {k : K} {v : V} {q : K × V} (h : q ∈ put m k v) : q ∈ m ∨ q.2 = v := by
  unfold put at h
  split at h
  · obtain ⟨p, hp, rfl⟩ := List.mem_map.1 h
    split
    · exact .inr rfl
    · exact .inl hp
  · rcases List.mem_append.1 h with h | h
    · exact .inl h
    · simp at h; subst h; exact .inr rfl
theorem put_keys (m : List (K × V)) (k : K) (v : V) : (put m k v).map (·.1) = if (look m k).isSome then m.map (·.1) else m.map (·.1) ++ [k] := by
  unfold put
  cases h : look m k with
  | none => simp
  | some u =>
    simp only [Option.isSome_some, if_true, List.map_map]
    apply List.map_congr_left
    intro p _
    simp only [Function.comp]
    split <;> rfl
theorem put_nodup {m : List (K × V)} (h : (m.map (·.1)).Nodup) (k : K) (v : V) : ((put m k v).map (·.1)).Nodup := by
  rw [put_keys]
  split
  · exact h
  · rename_i hn
    have hn : look m k = none := by simpa using hn
    refine List.nodup_append.2 ⟨h, by simp, fun a ha b hb => ?_⟩
    simp at hb
    subst hb
    rintro rfl
    obtain ⟨p, hp, he⟩ := List.mem_map.1 ha
    exact look_none.1 hn p hp he
theorem putAll_look : ∀ (u m : List (K × V)), (u.map (·.1)).Nodup → ∀ k, look (putAll m u) k = (look u k).or (look m k)
  | [], m, _, k => by simp [putAll, look]
  | p :: r, m, h, k => by
    simp only [List.map_cons, List.nodup_cons] at h
    rw [putAll, putAll_look r _ h.2 k, put_look]
    have e : look (p :: r) k = if p.1 = k then some p.2 else look r k := by
      unfold look
      rw [List.find?_cons]
      by_cases hk : p.1 = k
      · simp [hk]
      · have : (p.1 == k) = false := by simpa using hk
        rw [this, if_neg hk]
    rw [e]
    by_cases hk : k = p.1
    · subst hk
      have : look r p.1 = none := look_none.2 fun q hq he => h.1 (List.mem_map.2 ⟨q, hq, he⟩)
      simp [this]
    · rw [if_neg hk, if_neg (Ne.symm hk)]
theorem putAll_mem : ∀ (u m : List (K × V)) {q : K × V}, q ∈ putAll m u → q ∈ m ∨ ∃ p ∈ u, q.2 = p.2
  | [], m, q, h => .inl h
  | p :: r, m, q, h => by
    rcases putAll_mem r _ h with h | ⟨p', hp, he⟩
    · rcases put_mem h with h | h
      · exact .inl h
      · exact .inr ⟨p, by simp, h⟩
    · exact .inr ⟨p', by simp [hp], he⟩
end assoc
/-- A clock of eight numbers up to B. -/
def CB (c : Clk) (B : Int) : Prop := c.length = 8 ∧ ∀ t, 0 ≤ at0 c t ∧ at0 c t ≤ B
theorem CB.mono {c : Clk} {B B' : Int} (h : CB c B) (hb : B ≤ B') : CB c B' := ⟨h.1, fun t => ⟨(h.2 t).1, by have := (h.2 t).2; omega⟩⟩
theorem zeroC_at (t : Int) : at0 zeroC t = 0 := by
  unfold at0 zeroC
  rw [List.getD_eq_getElem?_getD, List.getElem?_replicate]
  split <;> rfl
theorem CB.zero {B : Int} (h : 0 ≤ B) : CB zeroC B := ⟨rfl, fun t => by rw [zeroC_at]; omega⟩
theorem joinC_at {c d : Clk} (hc : c.length = 8) (hd : d.length = 8) (t : Int) : at0 (joinC c d) t = if at0 d t > at0 c t then at0 d t else at0 c t := by
  unfold at0 joinC
  simp only [List.getD_eq_getElem?_getD, List.getElem?_zipWith]
  by_cases h : t.toNat < 8
  · rw [List.getElem?_eq_getElem (by omega), List.getElem?_eq_getElem (by omega)]; rfl
  · rw [List.getElem?_eq_none (by omega), List.getElem?_eq_none (by omega)]; simp
theorem CB.join {c d : Clk} {B : Int} (hc : CB c B) (hd : CB d B) : CB (joinC c d) B := by
  refine ⟨by simp [joinC, hc.1, hd.1], fun t => ?_⟩
  rw [joinC_at hc.1 hd.1]
  have h1 := hc.2 t
  have h2 := hd.2 t
  split <;> omega
theorem join_l {c d : Clk} (hc : c.length = 8) (hd : d.length = 8) (t : Int) : at0 c t ≤ at0 (joinC c d) t := by rw [joinC_at hc hd]; split <;> omega
theorem join_r {c d : Clk} (hc : c.length = 8) (hd : d.length = 8) (t : Int) : at0 d t ≤ at0 (joinC c d) t := by rw [joinC_at hc hd]; split <;> omega
theorem set_at {c : Clk} {i : Nat} (hi : i < c.length) (x t : Int) : at0 (c.set i x) t = if t.toNat = i then x else at0 c t := by
  unfold at0
  simp only [List.getD_eq_getElem?_getD, List.getElem?_set]
  by_cases h : i = t.toNat
  · simp [h, h ▸ hi]
  · simp [h, Ne.symm h]
/-- The threads' clocks are up to B. -/
structure ThB (T : Th) (B : Int) : Prop where
  clocks : T.clocks.length = 8
  each : ∀ c ∈ T.clocks, CB c B
  objs : ∀ q ∈ T.objs, CB q.2 B
  pos : 0 ≤ B
theorem ThB.mono {T : Th} {B B' : Int} (h : ThB T B) (hb : B ≤ B') : ThB T B' := ⟨h.clocks, fun c hc => (h.each c hc).mono hb, fun q hq => (h.objs q hq).mono hb, by have := h.pos; omega⟩
theorem ThB.getC {T : Th} {B : Int} (h : ThB T B) (i : Int) : CB (getC T.clocks i) B := by
  unfold Mo.getC
  rw [List.getD_eq_getElem?_getD]
  cases hx : T.clocks[i.toNat]? with
  | none => exact CB.zero h.pos
  | some c => exact h.each c (List.mem_of_getElem? hx)
/-- How a plan that began as p0 has grown. -/
structure PM (T : Th) (e : Ev) (p0 p : Pl) (B : Int) : Prop where
  own : CB p.own B
  objs : ∀ q ∈ p.objs, CB q.2 B
  nd : (p.objs.map (·.1)).Nodup
  grow : ∀ t, at0 p0.own t ≤ at0 p.own t
  ob : ∀ k t, at0 (clockOf T p0 k) t ≤ at0 (clockOf T p k) t
  tk : 0 ≤ p.tk ∧ p.tk ≤ at0 p.own e.th
theorem clockOf_CB {T : Th} {p : Pl} {B : Int} (hT : ThB T B) (hp : ∀ q ∈ p.objs, CB q.2 B) (k : Ob) : CB (clockOf T p k) B := by
  unfold clockOf
  split
  · rename_i c hc; exact hp _ (look_mem hc)
  · cases hx : look T.objs k with
    | none => exact CB.zero hT.pos
    | some c => exact hT.objs _ (look_mem hx)
theorem PM.same {T : Th} {e : Ev} {p0 p q : Pl} {B : Int} (h : PM T e p0 p B) (h1 : q.own = p.own) (h2 : q.objs = p.objs) (h3 : q.tk = p.tk) : PM T e p0 q B :=
  ⟨by rw [h1]; exact h.own, by rw [h2]; exact h.objs, by rw [h2]; exact h.nd, by rw [h1]; exact h.grow, fun k t => by have := h.ob k t; unfold clockOf at this ⊢; rw [h2]; exact this, by rw [h1, h3]; exact h.tk⟩
theorem PM.mono {T : Th} {e : Ev} {p0 p : Pl} {B B' : Int} (h : PM T e p0 p B) (hb : B ≤ B') : PM T e p0 p B' :=
  ⟨h.own.mono hb, fun q hq => (h.objs q hq).mono hb, h.nd, h.grow, h.ob, h.tk⟩
theorem tick_own {e : Ev} {p : Pl} {o : Ord} {B : Int} (h : CB p.own B) (ht : 0 ≤ e.th ∧ e.th < 8) (hB : B < 4611686018427387904) (t : Int) : at0 (tick e p o).own t = if t.toNat = e.th.toNat then at0 p.own e.th + 1 else at0 p.own t := by
  have h1 := h.2 e.th
  show at0 (p.own.set e.th.toNat (w64 (at0 p.own e.th + 1))) t = _
  rw [set_at (by rw [h.1]; omega), w64_small (by omega) (by omega)]
theorem at0_nat {c : Clk} {t u : Int} (h : t.toNat = u.toNat) : at0 c t = at0 c u := by unfold at0; rw [h]
theorem tick_CB {e : Ev} {p : Pl} {o : Ord} {B : Int} (h : CB p.own B) (ht : 0 ≤ e.th ∧ e.th < 8) (hB : B < 4611686018427387904) : CB (tick e p o).own (B + 1) := by
  refine ⟨by show (p.own.set _ _).length = 8; rw [List.length_set, h.1], fun t => ?_⟩
  rw [tick_own h ht hB]
  have h1 := h.2 e.th
  have h2 := h.2 t
  split <;> omega
theorem tick_grow {e : Ev} {p : Pl} {o : Ord} {B : Int} (h : CB p.own B) (ht : 0 ≤ e.th ∧ e.th < 8) (hB : B < 4611686018427387904) (t : Int) : at0 p.own t ≤ at0 (tick e p o).own t := by
  rw [tick_own h ht hB]
  split
  · rename_i he; rw [at0_nat he]; omega
  · omega
theorem PM.tick {T : Th} {e : Ev} {p0 p : Pl} {B : Int} (h : PM T e p0 p B) (ht : 0 ≤ e.th ∧ e.th < 8) (hB : B < 4611686018427387904) (o : Ord) : PM T e p0 (tick e p o) (B + 1) := by
  refine ⟨tick_CB h.own ht hB, fun q hq => (h.objs q hq).mono (by omega), h.nd, fun t => Int.le_trans (h.grow t) (tick_grow h.own ht hB t), h.ob, ?_⟩
  have h1 := h.own.2 e.th
  have h2 := tick_own (o := o) h.own ht hB e.th
  rw [if_pos rfl] at h2
  rw [h2]
  show 0 ≤ (if p.tk = 0 then at0 (Mo.tick e p o).own e.th else p.tk) ∧ (if p.tk = 0 then at0 (Mo.tick e p o).own e.th else p.tk) ≤ _
  rw [h2]
  have := h.tk
  split <;> omega
theorem number_objs (T : Th) (p : Pl) (x : Ob) : (number T p x).2.own = p.own ∧ (number T p x).2.objs = p.objs ∧ (number T p x).2.tk = p.tk := by
  unfold number
  split
  · exact ⟨rfl, rfl, rfl⟩
  · split <;> exact ⟨rfl, rfl, rfl⟩
theorem PM.number {T : Th} {e : Ev} {p0 p : Pl} {B : Int} (h : PM T e p0 p B) (x : Ob) : PM T e p0 (number T p x).2 B :=
  have n := number_objs T p x
  h.same n.1 n.2.1 n.2.2
theorem PM.acquire {T : Th} {e : Ev} {p0 p : Pl} {B : Int} (hT : ThB T B) (h : PM T e p0 p B) (x : Ob) : PM T e p0 (acquire T p x) B :=
  have hc := clockOf_CB hT h.objs x
  ⟨h.own.join hc, h.objs, h.nd, fun t => Int.le_trans (h.grow t) (join_l h.own.1 hc.1 t), h.ob, h.tk.1, Int.le_trans h.tk.2 (join_l h.own.1 hc.1 e.th)⟩
theorem release_clock (T : Th) (p : Pl) (x k : Ob) : clockOf T (release T p x) k = if k = x then joinC (clockOf T p x) p.own else clockOf T p k := by
  show (match look (put p.objs x (joinC (clockOf T p x) p.own)) k with | some c => c | none => (look T.objs k).getD zeroC) = _
  rw [put_look]
  by_cases hk : k = x
  · simp [hk]
  · simp only [hk, if_false]; rfl
theorem PM.release {T : Th} {e : Ev} {p0 p : Pl} {B : Int} (hT : ThB T B) (h : PM T e p0 p B) (x : Ob) : PM T e p0 (release T p x) B := by
  have hc := clockOf_CB hT h.objs x
  refine ⟨h.own, fun q hq => ?_, put_nodup h.nd _ _, h.grow, fun k t => ?_, h.tk⟩
  · rcases put_mem hq with hq | hq
    · exact h.objs q hq
    · rw [hq]; exact hc.join h.own
  · rw [release_clock]
    split
    · rename_i hk; subst hk; exact Int.le_trans (h.ob k t) (join_l hc.1 h.own.1 t)
    · exact h.ob k t
theorem PM.atomicL {T : Th} {e : Ev} {p0 : Pl} (ht : 0 ≤ e.th ∧ e.th < 8) : ∀ (l : List Int) (x : Ob) (p : Pl) (B : Int), ThB T B → PM T e p0 p B → B + l.length < 4611686018427387904 → PM T e p0 (atomicL T e l x p) (B + l.length)
  | [], _, p, B, _, h, _ => h.mono (by simp)
  | a :: r, last, p, B, hT, h, hB => by
    simp only [List.length_cons] at hB ⊢
    unfold Mo.atomicL
    simp only
    split
    · exact (PM.atomicL ht r last p B hT h (by omega)).mono (by omega)
    · refine (PM.atomicL ht r _ _ (B + 1) (hT.mono (by omega)) ?_ (by omega)).mono (by omega)
      exact (((h.number _).acquire hT _).tick ht (by omega) _).release (hT.mono (by omega)) _
theorem refused_th {T : Th} {e : Ev} (h : refused T e = false) : 0 ≤ e.th ∧ e.th < 8 := by
  unfold refused at h
  simp only [Bool.or_eq_false_iff, decide_eq_false_iff_not] at h
  omega
theorem refused_at {T : Th} {e : Ev} (h : refused T e = false) (hk : e.kind = 4) : e.n ≤ 16 := by
  unfold refused at h
  have : (accesses e).2.1 = true := by unfold accesses; rw [if_neg (by omega), if_neg (by omega), if_pos hk]
  rw [this] at h
  simp only [Bool.or_eq_false_iff, Bool.true_and, decide_eq_false_iff_not] at h
  omega
theorem PM.act {T : Th} {e : Ev} {p0 p : Pl} {B : Int} (hr : refused T e = false) (hT : ThB T B) (h : PM T e p0 p B) (hB : B + 16 < 4611686018427387904) : PM T e p0 (act T e p) (B + 16) := by
  have ht := refused_th hr
  unfold Mo.act
  split
  · rename_i hk
    have := refused_at hr hk
    have hl : (bytes e.a e.n).length = e.n.toNat := by simp [bytes]
    exact (PM.atomicL ht _ _ _ B hT h (by rw [hl]; omega)).mono (by rw [hl]; omega)
  · split
    · unfold spawn
      split
      · exact PM.mono (B := B) (h.same rfl rfl rfl) (by omega)
      · exact PM.mono (B := B + 1) ((h.tick ht (by omega) ⟨5, 0, e.n, 0⟩).same rfl rfl rfl) (by omega)
    · split
      · unfold Mo.join
        split
        · exact PM.mono (B := B) (h.same rfl rfl rfl) (by omega)
        · have hc := hT.getC e.n
          have h' : PM T e p0 { p with own := joinC p.own (getC T.clocks e.n) } B :=
            ⟨h.own.join hc, h.objs, h.nd, fun t => Int.le_trans (h.grow t) (join_l h.own.1 hc.1 t), h.ob, h.tk.1, Int.le_trans h.tk.2 (join_l h.own.1 hc.1 e.th)⟩
          exact PM.mono (B := B + 1) ((h'.tick ht (by omega) ⟨6, 0, e.n, 0⟩).same rfl rfl rfl) (by omega)
      · split
        · exact PM.mono (B := B + 1) (((h.number _).acquire hT _).tick ht (by omega) _) (by omega)
        · split
          · exact PM.mono (B := B + 1) (((h.number _).tick ht (by omega) _).release (hT.mono (by omega)) _) (by omega)
          · exact PM.mono (B := B + 1) (h.tick ht (by omega) _) (by omega)
theorem pl0_PM {T : Th} {e : Ev} {B : Int} (hT : ThB T B) : PM T e (pl0 T e) (pl0 T e) B :=
  ⟨hT.getC e.th, by simp [pl0], by simp [pl0], fun _ => Int.le_refl _, fun _ _ => Int.le_refl _, Int.le_refl _, ((hT.getC e.th).2 e.th).1⟩
theorem plan_act {T : Th} {e : Ev} {p : Pl} (h : plan T e = some p) : refused T e = false ∧ p = act T e (pl0 T e) ∧ p.bad = false := by
  unfold plan at h
  split at h
  · cases h
  · rename_i hr
    split at h
    · cases h
    · rename_i hb
      cases h
      exact ⟨by simpa using hr, rfl, by simpa using hb⟩
theorem plan_PM {T : Th} {e : Ev} {p : Pl} {B : Int} (h : plan T e = some p) (hT : ThB T B) (hB : B + 16 < 4611686018427387904) : PM T e (pl0 T e) p (B + 16) := by
  obtain ⟨hr, rfl, _⟩ := plan_act h
  exact PM.act hr hT (pl0_PM hT) hB
theorem pl0_clock (T : Th) (e : Ev) (k : Ob) : clockOf T (pl0 T e) k = (look T.objs k).getD zeroC := rfl
/-- What a thread that locks a mutex has behind it. -/
theorem lock_own {T : Th} {e : Ev} {p : Pl} {B : Int} (h : plan T e = some p) (hT : ThB T B) (hB : B + 16 < 4611686018427387904) (hk : e.kind = 14) (t : Int) : at0 ((look T.objs (false, e.a)).getD zeroC) t ≤ at0 p.own t := by
  obtain ⟨hr, rfl, _⟩ := plan_act h
  have ht := refused_th hr
  unfold act
  rw [if_neg (by omega), if_neg (by omega), if_neg (by omega), if_pos hk]
  have h0 := (pl0_PM (e := e) hT).number (false, e.a)
  have hc := clockOf_CB hT h0.objs (false, e.a)
  have e1 : clockOf T (number T (pl0 T e) (false, e.a)).2 (false, e.a) = (look T.objs (false, e.a)).getD zeroC := by
    rw [← pl0_clock T e]; unfold clockOf; rw [(number_objs T (pl0 T e) (false, e.a)).2.1]
  refine Int.le_trans ?_ (tick_grow (h0.acquire hT (false, e.a)).own ht (by omega) t)
  rw [← e1]
  exact join_r h0.own.1 hc.1 t
/-- What a mutex has behind an unlock of it. -/
theorem unlock_clock {T : Th} {e : Ev} {p : Pl} {B : Int} (h : plan T e = some p) (hT : ThB T B) (hB : B + 16 < 4611686018427387904) (hk : e.kind = 15) (t : Int) : at0 p.own t ≤ at0 (clockOf T p (false, e.a)) t := by
  obtain ⟨hr, rfl, _⟩ := plan_act h
  have ht := refused_th hr
  unfold act
  rw [if_neg (by omega), if_neg (by omega), if_neg (by omega), if_neg (by omega), if_pos hk]
  have h0 := ((pl0_PM (e := e) hT).number (false, e.a)).tick ht (by omega) ⟨2, 0, 0, (number T (pl0 T e) (false, e.a)).1⟩
  have hc := clockOf_CB (hT.mono (by omega : B ≤ B + 1)) h0.objs (false, e.a)
  show at0 (release T _ (false, e.a)).own t ≤ at0 (clockOf T (release T _ (false, e.a)) (false, e.a)) t
  rw [release_clock, if_pos rfl]
  exact join_r hc.1 h0.own.1 t
theorem perform_objs {T : Th} {e : Ev} {p : Pl} (hn : (p.objs.map (·.1)).Nodup) (k : Ob) : (look (perform T e p).objs k).getD zeroC = clockOf T p k := by
  have : (perform T e p).objs = putAll T.objs p.objs := by unfold perform; simp only; split <;> split <;> split <;> rfl
  rw [this, putAll_look _ _ hn]
  unfold clockOf
  cases look p.objs k <;> rfl
theorem perform_clocks (T : Th) (e : Ev) (p : Pl) : (perform T e p).clocks = if p.fork ≥ 0 then (T.clocks.set e.th.toNat p.own).set p.fork.toNat (joinC (getC (T.clocks.set e.th.toNat p.own) p.fork) p.own) else T.clocks.set e.th.toNat p.own := by
  unfold perform; simp only; split <;> split <;> split <;> rfl
theorem getC_set {l : List Clk} {i : Nat} (hi : i < l.length) (c : Clk) (u : Int) : getC (l.set i c) u = if u.toNat = i then c else getC l u := by
  unfold getC
  simp only [List.getD_eq_getElem?_getD, List.getElem?_set]
  by_cases h : i = u.toNat
  · simp [h, h ▸ hi]
  · simp [h, Ne.symm h]
theorem perform_ThB {T : Th} {e : Ev} {p : Pl} {B : Int} (h : plan T e = some p) (hT : ThB T B) (hB : B + 16 < 4611686018427387904) : ThB (perform T e p) (B + 16) := by
  have hp := plan_PM h hT hB
  have hT' := hT.mono (by omega : B ≤ B + 16)
  have hset : ∀ c ∈ T.clocks.set e.th.toNat p.own, CB c (B + 16) := fun c hc => by
    rcases List.mem_or_eq_of_mem_set hc with hc | rfl
    · exact hT'.each c hc
    · exact hp.own
  have hg : ∀ u, CB (getC (T.clocks.set e.th.toNat p.own) u) (B + 16) := fun u => by
    unfold getC
    rw [List.getD_eq_getElem?_getD]
    cases hx : (T.clocks.set e.th.toNat p.own)[u.toNat]? with
    | none => exact CB.zero hT'.pos
    | some c => exact hset c (List.mem_of_getElem? hx)
  refine ⟨?_, fun c hc => ?_, fun q hq => ?_, hT'.pos⟩
  · rw [perform_clocks]; split <;> simp [hT.clocks]
  · rw [perform_clocks] at hc
    split at hc
    · rcases List.mem_or_eq_of_mem_set hc with hc | rfl
      · exact hset c hc
      · exact (hg _).join hp.own
    · exact hset c hc
  · have : (perform T e p).objs = putAll T.objs p.objs := by unfold perform; simp only; split <;> split <;> split <;> rfl
    rw [this] at hq
    rcases putAll_mem _ _ hq with hq | ⟨r, hr, he⟩
    · exact hT'.objs q hq
    · rw [he]; exact hp.objs r hr
theorem perform_own {T : Th} {e : Ev} {p : Pl} {B : Int} (h : plan T e = some p) (hT : ThB T B) (hB : B + 16 < 4611686018427387904) (t : Int) : at0 p.own t ≤ at0 (getC (perform T e p).clocks e.th) t := by
  have hp := plan_PM h hT hB
  have ht := refused_th (plan_refused h)
  have hi : e.th.toNat < T.clocks.length := by rw [hT.clocks]; omega
  rw [perform_clocks]
  split
  · rw [getC_set (by rw [List.length_set, hT.clocks]; have := (plan_fork h).1; omega)]
    split
    · rename_i hf
      have : getC (T.clocks.set e.th.toNat p.own) p.fork = p.own := by rw [getC_set hi, if_pos hf.symm]
      rw [this]
      exact join_l hp.own.1 hp.own.1 t
    · rw [getC_set hi, if_pos rfl]; exact Int.le_refl _
  · rw [getC_set hi, if_pos rfl]; exact Int.le_refl _
theorem perform_grow {T : Th} {e : Ev} {p : Pl} {B : Int} (h : plan T e = some p) (hT : ThB T B) (hB : B + 16 < 4611686018427387904) (u t : Int) : at0 (getC T.clocks u) t ≤ at0 (getC (perform T e p).clocks u) t := by
  have hp := plan_PM h hT hB
  have ht := refused_th (plan_refused h)
  have hi : e.th.toNat < T.clocks.length := by rw [hT.clocks]; omega
  have h1 : ∀ u, at0 (getC T.clocks u) t ≤ at0 (getC (T.clocks.set e.th.toNat p.own) u) t := fun u => by
    rw [getC_set hi]
    split
    · rename_i hu
      have : getC T.clocks u = (pl0 T e).own := by unfold getC pl0; simp only [getC, hu]
      rw [this]
      exact hp.grow t
    · exact Int.le_refl _
  have hl : ∀ u, (getC (T.clocks.set e.th.toNat p.own) u).length = 8 := fun u => by
    rw [getC_set hi]
    split
    · exact hp.own.1
    · exact (hT.getC u).1
  rw [perform_clocks]
  split
  · rw [getC_set (by rw [List.length_set, hT.clocks]; have := (plan_fork h).1; omega)]
    split
    · rename_i hf
      have : getC (T.clocks.set e.th.toNat p.own) p.fork = getC (T.clocks.set e.th.toNat p.own) u := by unfold getC; rw [hf]
      rw [this]
      exact Int.le_trans (h1 u) (join_l (hl u) hp.own.1 t)
    · exact h1 u
  · exact h1 u
theorem begin_ThB : ThB begin' 0 := by
  refine ⟨rfl, fun c hc => ?_, by simp [begin'], by omega⟩
  have : c = zeroC := by simp [begin'] at hc; exact hc
  subst this
  exact CB.zero (by omega)
end Go.Fx.Mo
namespace Go.Fx.Mo
section assoc
variable {K V : Type} [DecidableEq K]
theorem put_len (m : List (K × V)) (k : K) (v : V) : (put m k v).length ≤ m.length + 1 := by
  unfold put
  split <;> simp
theorem putAll_len : ∀ (u m : List (K × V)), (putAll m u).length ≤ m.length + u.length
  | [], m => by simp [putAll]
  | p :: r, m => by
    have h1 := putAll_len r (put m p.1 p.2)
    have h2 := put_len m p.1 p.2
    unfold putAll
    simp only [List.length_cons]
    omega
end assoc
def mutexed (mu : Int) : List Ev → List Ev
  | [] => []
  | e :: r => ev 14 e.th mu 0 :: e :: ev 15 e.th mu 0 :: mutexed mu r
theorem mutexed_len (mu : Int) : ∀ l, (mutexed mu l).length = 3 * l.length
  | [] => rfl
  | e :: r => by have := mutexed_len mu r; simp only [mutexed, List.length_cons, this]; omega
/-- What makes an event bad, by the threads alone. -/
def bad0 (T : Th) (e : Ev) : Bool := if e.kind = 11 then !otherIs e || getB T.begun e.n else if e.kind = 13 then !otherIs e || !getB T.begun e.n || getB T.ended e.n || e.n == e.th else false
structure Sim (T T' : Th) : Prop where
  begun : T'.begun = T.begun
  ended : T'.ended = T.ended
theorem Sim.refused {T T' : Th} (h : Sim T T') (e : Ev) : Mo.refused T' e = Mo.refused T e := by unfold Mo.refused; rw [h.begun, h.ended]
theorem Sim.bad0 {T T' : Th} (h : Sim T T') (e : Ev) : Mo.bad0 T' e = Mo.bad0 T e := by unfold Mo.bad0; rw [h.begun, h.ended]
theorem plan_bad0 {T : Th} {e : Ev} {p : Pl} (h : plan T e = some p) : bad0 T e = false := by
  obtain ⟨_, rfl, hb⟩ := plan_act h
  unfold bad0
  split
  · rename_i hk
    unfold act at hb
    rw [if_neg (by omega), if_pos hk] at hb
    unfold spawn at hb
    split at hb
    · simp at hb
    · rename_i hc; simpa using hc
  · split
    · rename_i hk
      unfold act at hb
      rw [if_neg (by omega), if_neg (by omega), if_pos hk] at hb
      unfold join at hb
      split at hb
      · simp at hb
      · rename_i hc; simpa using hc
    · rfl
theorem number_fine {T : Th} {p : Pl} (x : Ob) (hb : p.bad = false) (hn : T.names.length + p.names.length < 65536) : (number T p x).2.bad = false ∧ (number T p x).2.names.length ≤ p.names.length + 1 := by
  unfold number
  split
  · exact ⟨hb, by simp⟩
  · split
    · exact ⟨hb, by simp⟩
    · refine ⟨?_, put_len _ _ _⟩
      simp only [hb, Bool.false_or, decide_eq_false_iff_not]
      rw [w64_small (by omega) (by omega)]
      omega
theorem atomicL_fine {T : Th} {e : Ev} : ∀ (l : List Int) (x : Ob) (p : Pl), p.bad = false → T.names.length + p.names.length + l.length < 65536 → (atomicL T e l x p).bad = false ∧ (atomicL T e l x p).names.length ≤ p.names.length + l.length
  | [], _, p, hb, _ => ⟨hb, by simp [atomicL]⟩
  | a :: r, last, p, hb, hn => by
    simp only [List.length_cons] at hn ⊢
    unfold atomicL
    simp only
    split
    · have := atomicL_fine (T := T) (e := e) r last p hb (by omega)
      exact ⟨this.1, by omega⟩
    · obtain ⟨h1, h2⟩ := number_fine (T := T) (true, w32 (a.tdiv 4)) hb (by omega)
      have := atomicL_fine (T := T) (e := e) r (true, w32 (a.tdiv 4)) (atomic1 T e (true, w32 (a.tdiv 4)) p) h1 (by
        have : (atomic1 T e (true, w32 (a.tdiv 4)) p).names.length ≤ p.names.length + 1 := h2
        omega)
      have h3 : (atomic1 T e (true, w32 (a.tdiv 4)) p).names.length ≤ p.names.length + 1 := h2
      exact ⟨this.1, by omega⟩
theorem act_fine {T : Th} {e : Ev} (hr : refused T e = false) (hb : bad0 T e = false) (hn : T.names.length ≤ 60000) : (act T e (pl0 T e)).bad = false ∧ (act T e (pl0 T e)).names.length ≤ 16 := by
  have h0 : (pl0 T e).names.length = 0 := rfl
  unfold act
  split
  · rename_i hk
    have := refused_at hr hk
    have hl : (bytes e.a e.n).length = e.n.toNat := by simp [bytes]
    have := atomicL_fine (T := T) (e := e) (bytes e.a e.n) (false, 0) (pl0 T e) rfl (by rw [hl, h0]; omega)
    exact ⟨this.1, by have := this.2; rw [hl, h0] at this; unfold atomic; omega⟩
  · split
    · rename_i hk
      unfold bad0 at hb
      rw [if_pos hk] at hb
      unfold spawn
      rw [if_neg (by rw [hb]; decide)]
      exact ⟨rfl, by simp [tick, pl0]⟩
    · split
      · rename_i hk
        unfold bad0 at hb
        rw [if_neg (by omega), if_pos hk] at hb
        unfold join
        rw [if_neg (by rw [hb]; decide)]
        exact ⟨rfl, by simp [tick, pl0]⟩
      · split
        · obtain ⟨h1, h2⟩ := number_fine (T := T) (p := pl0 T e) (false, e.a) rfl (by rw [h0]; omega)
          exact ⟨h1, by have : (lock T e (pl0 T e)).names.length ≤ (pl0 T e).names.length + 1 := h2; omega⟩
        · split
          · obtain ⟨h1, h2⟩ := number_fine (T := T) (p := pl0 T e) (false, e.a) rfl (by rw [h0]; omega)
            exact ⟨h1, by have : (unlock T e (pl0 T e)).names.length ≤ (pl0 T e).names.length + 1 := h2; omega⟩
          · exact ⟨rfl, by simp [step, tick, pl0]⟩
theorem act_fork_is {T : Th} {e : Ev} (hb : bad0 T e = false) : (act T e (pl0 T e)).fork = (if e.kind = 11 then e.n else -1) ∧ (act T e (pl0 T e)).ends = (if e.kind = 13 then e.n else -1) := by
  unfold act
  split
  · rename_i hk
    rw [if_neg (by omega), if_neg (by omega)]
    exact atomicL_same T e _ _ (pl0 T e)
  · split
    · rename_i hk
      unfold bad0 at hb
      rw [if_pos hk] at hb
      unfold spawn
      rw [if_neg (by rw [hb]; decide)]
      refine ⟨rfl, ?_⟩
      rw [if_neg (by omega)]
      rfl
    · split
      · rename_i hk
        unfold bad0 at hb
        rw [if_neg (by omega), if_pos hk] at hb
        unfold join
        rw [if_neg (by rw [hb]; decide)]
        exact ⟨rfl, rfl⟩
      · split
        · exact (number_same T (pl0 T e) (false, e.a)).trans ((acquire_same T _ _).trans (tick_same e _ _))
        · split
          · exact (number_same T (pl0 T e) (false, e.a)).trans ((tick_same e _ _).trans (release_same T _ _))
          · exact ⟨rfl, rfl⟩
theorem perform_begun (T : Th) (e : Ev) (p : Pl) : (perform T e p).begun = if p.fork ≥ 0 then T.begun.set p.fork.toNat true else T.begun := by
  unfold perform; simp only; split <;> split <;> split <;> rfl
theorem perform_ended (T : Th) (e : Ev) (p : Pl) : (perform T e p).ended = if p.ends ≥ 0 then T.ended.set p.ends.toNat true else T.ended := by
  unfold perform; simp only; split <;> split <;> split <;> rfl
theorem perform_names (T : Th) (e : Ev) (p : Pl) : (perform T e p).names = putAll T.names p.names := by
  unfold perform; simp only; split <;> split <;> split <;> rfl
theorem fine_plan {T : Th} {e : Ev} (hr : refused T e = false) (hb : bad0 T e = false) (hn : T.names.length ≤ 60000) : ∃ p, plan T e = some p ∧ (perform T e p).names.length ≤ T.names.length + 16 := by
  obtain ⟨h1, h2⟩ := act_fine hr hb hn
  refine ⟨act T e (pl0 T e), ?_, ?_⟩
  · unfold plan; rw [hr, h1]; rfl
  · rw [perform_names]
    have := putAll_len (act T e (pl0 T e)).names T.names
    omega
theorem plan_sim {T T' : Th} {e : Ev} {p p' : Pl} (h : plan T e = some p) (h' : plan T' e = some p') (hs : Sim T T') : Sim (perform T e p) (perform T' e p') := by
  have hb := plan_bad0 h
  have hb' := plan_bad0 h'
  obtain ⟨_, rfl, _⟩ := plan_act h
  obtain ⟨_, rfl, _⟩ := plan_act h'
  obtain ⟨f1, e1⟩ := act_fork_is hb
  obtain ⟨f2, e2⟩ := act_fork_is hb'
  exact ⟨by rw [perform_begun, perform_begun, f1, f2, hs.begun], by rw [perform_ended, perform_ended, e1, e2, hs.ended]⟩
/-! Feed where nothing races. -/
theorem race_none {c : Cell} {a : Acc} {own : Clk} (h : ∀ p ∈ c.l, p.tick ≤ at0 own p.acc.th) : c.race a own = none := by
  unfold Cell.race
  rw [Option.map_eq_none_iff, List.find?_eq_none]
  intro p hp
  have := h p hp
  simp only [Bool.and_eq_true, decide_eq_true_eq, not_and]
  omega
def Ticks (Q : Past → Prop) (cs : List (Int × Cell)) : Prop := ∀ b c, look cs b = some c → ∀ p ∈ c.l, Q p
theorem Ticks.mono {Q Q' : Past → Prop} {cs : List (Int × Cell)} (h : Ticks Q cs) (hq : ∀ p, Q p → Q' p) : Ticks Q' cs := fun b c hc p hp => hq p (h b c hc p hp)
theorem Ticks.put {Q : Past → Prop} {cs : List (Int × Cell)} (h : Ticks Q cs) (b : Int) (c : Cell) (hc : ∀ p ∈ c.l, Q p) : Ticks Q (put cs b c) := by
  intro b' c' hl
  rw [put_look] at hl
  split at hl
  · cases hl; exact hc
  · exact h b' c' hl
theorem Ticks.keep {Q : Past → Prop} {a : Acc} {tk rel : Int} (ha : Q ⟨a, tk⟩) {ts : List (Int × Bool)} : ∀ {bs : List Int} {cs : List (Int × Cell)}, Ticks Q cs → Ticks Q (keep a tk rel ts bs cs)
  | [], cs, h => h
  | b :: r, cs, h => by
    unfold Mo.keep
    refine Ticks.keep ha ?_
    split
    · split
      · exact h.put _ _ (by simp [cell0])
      · exact h
    · refine h.put _ _ fun p hp => ?_
      have hb : ∀ p ∈ ((look cs b).getD cell0).l, Q p := by
        cases hl : look cs b with
        | none => simp [cell0]
        | some c => exact h b c hl
      unfold Cell.remember at hp
      simp only at hp
      split at hp
      · exact hb p hp
      · rcases List.mem_append.1 hp with hp | hp
        · exact hb p hp
        · simp at hp; rw [hp]; exact ha
theorem keep_len {a : Acc} {tk rel : Int} {ts : List (Int × Bool)} : ∀ {bs : List Int} {cs : List (Int × Cell)}, (keep a tk rel ts bs cs).length ≤ cs.length + bs.length
  | [], cs => by simp [keep]
  | b :: r, cs => by
    unfold keep
    simp only [List.length_cons]
    refine Nat.le_trans keep_len ?_
    have h1 := put_len cs b cell0
    have h2 := put_len cs b (((look cs b).getD cell0).remember a tk rel)
    split
    · split
      · omega
      · omega
    · omega
theorem scan_quiet {d : Det} {a : Acc} {own : Clk} (hq : ∀ b c, look d.cells b = some c → c.race a own = none) : ∀ (bs : List Int) (out : List Race) (n : Int), 0 ≤ n → (d.cells.length : Int) + n + bs.length ≤ 20000 → scan d a own bs out n = some out
  | [], out, n, _, _ => rfl
  | b :: r, out, n, h0, hn => by
    simp only [List.length_cons] at hn
    unfold scan
    split
    · have e1 : w64 (n + 1) = n + 1 := w64_small (by omega) (by omega)
      rw [e1, w64_small (by omega) (by omega), if_neg (by omega)]
      exact scan_quiet hq r out (n + 1) (by omega) (by omega)
    · rename_i c hc
      rw [hq b c hc]
      split
      · exact scan_quiet hq r out n h0 (by omega)
      · exact scan_quiet hq r out n h0 (by omega)
def touched (e : Ev) : Nat := if (accesses e).2.2 then e.n.toNat else 0
theorem feed_quiet {d : Det} {e : Ev} {p : Pl} (hp : plan d.th e = some p) (hm : 0 ≤ d.many ∧ d.many < 20000) (ht : d.told = []) (hq : Ticks (fun x => x.tick ≤ at0 p.own x.acc.th) d.cells) (hc : d.cells.length + touched e ≤ 20000) :
    feed d e = (⟨perform d.th e p, d.many + 1, keep (accOf d e) p.tk (at0 d.th.rels e.th) [] (if (accesses e).2.2 then bytes e.a e.n else []) d.cells, []⟩, .inl []) := by
  have hl : (if (accesses e).2.2 then bytes e.a e.n else []).length = touched e := by
    unfold touched; split <;> simp [bytes]
  have hs := scan_quiet (a := accOf d e) (own := p.own) (fun b c h => race_none (hq b c h)) (if (accesses e).2.2 then bytes e.a e.n else []) [] 0 (by omega) (by rw [hl]; omega)
  unfold feed
  rw [if_neg (by omega), hp]
  simp only [hs, ht]
  rw [if_neg (by decide), w64_small (by omega) (by omega)]
  rfl
theorem feeds_step {e : Ev} {r : List Ev} {d d' : Det} (h : feed d e = (d', .inl [])) : feeds (e :: r) d [] = feeds r d' [] := by
  conv => lhs; unfold feeds
  rw [h]
  rfl
theorem getB_set_true {l : List Bool} {i : Nat} {t : Int} (h : getB l t = true) : getB (l.set i true) t = true := by
  unfold getB at h ⊢
  rw [List.getD_eq_getElem?_getD] at h ⊢
  rw [List.getElem?_set]
  split
  · split
    · rfl
    · rw [List.getElem?_eq_none (by omega)] at h; exact h
  · exact h
theorem getB_set_ne {l : List Bool} {i : Nat} {t : Int} {b : Bool} (hi : i ≠ t.toNat) : getB (l.set i b) t = getB l t := by
  unfold getB
  rw [List.getD_eq_getElem?_getD, List.getElem?_set, if_neg hi, ← List.getD_eq_getElem?_getD]
theorem alive_keep {T : Th} {e : Ev} {p : Pl} (hp : plan T e = some p) (h1 : getB T.begun e.th = true) (h2 : getB T.ended e.th = false) : getB (perform T e p).begun e.th = true ∧ getB (perform T e p).ended e.th = false := by
  have hb := plan_bad0 hp
  have ht := refused_th (plan_refused hp)
  obtain ⟨_, rfl, _⟩ := plan_act hp
  obtain ⟨g1, g2⟩ := act_fork_is hb
  rw [perform_begun, perform_ended, g1, g2]
  constructor
  · by_cases hk : e.kind = 11
    · rw [if_pos hk]
      split
      · exact getB_set_true h1
      · exact h1
    · rw [if_neg hk, if_neg (by omega)]; exact h1
  · by_cases hk : e.kind = 13
    · rw [if_pos hk]
      unfold bad0 at hb
      rw [if_neg (by omega), if_pos hk] at hb
      simp only [Bool.or_eq_false_iff, beq_eq_false_iff_ne, ne_eq] at hb
      split
      · rw [getB_set_ne (by omega)]; exact h2
      · exact h2
    · rw [if_neg hk, if_neg (by omega)]; exact h2
def total : List Ev → Nat
  | [] => 0
  | e :: r => touched e + total r
abbrev lockC (T : Th) (mu : Int) : Clk := (look T.objs (false, mu)).getD zeroC
theorem mutexed_feeds (mu : Int) : ∀ (l : List Ev) (i : Int) (T : Th) (h0 h : Hist) (d : Det) (B : Int), runL l i T h0 = some h → Sim T d.th → ThB d.th B → B + 48 * l.length + 48 < 4611686018427387904 → d.told = [] → 0 ≤ d.many → d.many + 3 * l.length ≤ 20000 →
    d.th.names.length + 48 * l.length ≤ 60000 → d.cells.length + total l ≤ 20000 → Ticks (fun x => x.tick ≤ at0 (lockC d.th mu) x.acc.th) d.cells → feeds (mutexed mu l) d [] = .inl []
  | [], _, _, _, _, _, _, _, _, _, _, _, _, _, _, _, _ => rfl
  | e :: r, i, T, h0, h, d, B, hrun, hs, hB, hb, ht, hm0, hm, hn, hc, hq => by
    simp only [List.length_cons, total] at hb hm hn hc
    unfold runL at hrun
    split at hrun
    · cases hrun
    rename_i p hp
    have hr := plan_refused hp
    have hbad := plan_bad0 hp
    have hth := refused_th hr
    have hr' : refused d.th e = false := by rw [hs.refused]; exact hr
    have hbad' : bad0 d.th e = false := by rw [hs.bad0]; exact hbad
    -- the lock
    have lockR : ∀ k, k = 14 ∨ k = 15 → ∀ T' : Th, getB T'.begun e.th = true → getB T'.ended e.th = false → refused T' (ev k e.th mu 0) = false := by
      intro k hk T' h1 h2
      unfold refused
      have ha : accesses (ev k e.th mu 0) = (false, false, false) := by
        unfold accesses
        have : (ev k e.th mu 0).kind = k := rfl
        rw [if_neg (by omega), if_neg (by omega), if_neg (by omega)]
      rw [ha]
      show (decide (k < 1) || decide (k > 24) || decide (e.th < 0) || decide (e.th ≥ 8) || !getB T'.begun e.th || getB T'.ended e.th || false && _ || false && _) = false
      rw [h1, h2]
      simp
      omega
    have lockB : ∀ k, k = 14 ∨ k = 15 → ∀ T' : Th, bad0 T' (ev k e.th mu 0) = false := by
      intro k hk T'
      unfold bad0
      have : (ev k e.th mu 0).kind = k := rfl
      rw [if_neg (by omega), if_neg (by omega)]
    have lockT : ∀ k, k = 14 ∨ k = 15 → (accesses (ev k e.th mu 0)).2.2 = false ∧ touched (ev k e.th mu 0) = 0 := by
      intro k hk
      have ha : accesses (ev k e.th mu 0) = (false, false, false) := by
        unfold accesses
        have : (ev k e.th mu 0).kind = k := rfl
        rw [if_neg (by omega), if_neg (by omega), if_neg (by omega)]
      exact ⟨by rw [ha], by unfold touched; rw [ha]; rfl⟩
    have alive : getB d.th.begun e.th = true ∧ getB d.th.ended e.th = false := by
      unfold refused at hr'
      simp only [Bool.or_eq_false_iff, Bool.not_eq_false'] at hr'
      exact ⟨hr'.1.1.1.2, hr'.1.1.2⟩
    obtain ⟨p1, hp1, hn1⟩ := fine_plan (lockR 14 (.inl rfl) d.th alive.1 alive.2) (lockB 14 (.inl rfl) d.th) (by omega)
    have e1 := (plan_act hp1).2.1
    have f1 : p1.fork = -1 ∧ p1.ends = -1 := by
      have := act_fork_is (lockB 14 (.inl rfl) d.th)
      rw [← e1] at this
      exact this
    have hown1 := lock_own hp1 hB (by omega) rfl
    have hq1 : Ticks (fun x => x.tick ≤ at0 p1.own x.acc.th) d.cells := hq.mono fun x hx => Int.le_trans hx (hown1 _)
    have F1 := feed_quiet hp1 ⟨hm0, by omega⟩ ht hq1 (by rw [(lockT 14 (.inl rfl)).2]; omega)
    rw [(lockT 14 (.inl rfl)).1] at F1
    have B1 := perform_ThB hp1 hB (by omega)
    have O1 := perform_own hp1 hB (by omega)
    have s1 : Sim d.th (perform d.th (ev 14 e.th mu 0) p1) := ⟨by rw [perform_begun, if_neg (by omega)], by rw [perform_ended, if_neg (by omega)]⟩
    generalize perform d.th (ev 14 e.th mu 0) p1 = T1 at F1 B1 O1 s1 hn1
    have O1 : ∀ t, at0 p1.own t ≤ at0 (getC T1.clocks e.th) t := O1
    have F1 : feed d (ev 14 e.th mu 0) = (⟨T1, d.many + 1, d.cells, []⟩, .inl []) := F1
    -- the event
    obtain ⟨p2, hp2, hn2⟩ := fine_plan (T := T1) (e := e) (by rw [s1.refused]; exact hr') (by rw [s1.bad0]; exact hbad') (by omega)
    have pm2 := plan_PM hp2 B1 (by omega)
    have grow2 : ∀ t, at0 (getC T1.clocks e.th) t ≤ at0 p2.own t := pm2.grow
    have hq2 : Ticks (fun x => x.tick ≤ at0 p2.own x.acc.th) d.cells := hq1.mono fun x hx => Int.le_trans hx (Int.le_trans (O1 _) (grow2 _))
    have F2 := feed_quiet (d := ⟨T1, d.many + 1, d.cells, []⟩) hp2 ⟨by simp only; omega, by simp only; omega⟩ rfl hq2 (by simp only; omega)
    have B2 := perform_ThB hp2 B1 (by omega)
    have O2 := perform_own hp2 B1 (by omega)
    have sT : Sim T T1 := ⟨by rw [s1.begun, hs.begun], by rw [s1.ended, hs.ended]⟩
    have s2 := plan_sim hp hp2 sT
    have hk2 : (keep (accOf ⟨T1, d.many + 1, d.cells, []⟩ e) p2.tk (at0 T1.rels e.th) [] (if (accesses e).2.2 then bytes e.a e.n else []) d.cells).length ≤ d.cells.length + touched e := by
      refine Nat.le_trans keep_len ?_
      have : (if (accesses e).2.2 then bytes e.a e.n else []).length = touched e := by
        unfold touched; split <;> simp [bytes]
      omega
    have hq3 : Ticks (fun x => x.tick ≤ at0 p2.own x.acc.th) (keep (accOf ⟨T1, d.many + 1, d.cells, []⟩ e) p2.tk (at0 T1.rels e.th) [] (if (accesses e).2.2 then bytes e.a e.n else []) d.cells) :=
      Ticks.keep pm2.tk.2 hq2
    have F2 : feed ⟨T1, d.many + 1, d.cells, []⟩ e = (⟨perform T1 e p2, d.many + 1 + 1, keep (accOf ⟨T1, d.many + 1, d.cells, []⟩ e) p2.tk (at0 T1.rels e.th) [] (if (accesses e).2.2 then bytes e.a e.n else []) d.cells, []⟩, .inl []) := F2
    have alive2 := alive_keep hp2 (by rw [s1.begun]; exact alive.1) (by rw [s1.ended]; exact alive.2)
    generalize keep (accOf ⟨T1, d.many + 1, d.cells, []⟩ e) p2.tk (at0 T1.rels e.th) [] (if (accesses e).2.2 then bytes e.a e.n else []) d.cells = cs at F2 hk2 hq3
    generalize perform T1 e p2 = T2 at F2 B2 O2 s2 hn2 alive2
    -- the unlock
    obtain ⟨p3, hp3, hn3⟩ := fine_plan (lockR 15 (.inr rfl) T2 alive2.1 alive2.2) (lockB 15 (.inr rfl) T2) (by omega)
    have e3 := (plan_act hp3).2.1
    have f3 : p3.fork = -1 ∧ p3.ends = -1 := by
      have := act_fork_is (lockB 15 (.inr rfl) T2)
      rw [← e3] at this
      exact this
    have pm3 := plan_PM hp3 B2 (by omega)
    have grow3 : ∀ t, at0 (getC T2.clocks e.th) t ≤ at0 p3.own t := pm3.grow
    have hq4 : Ticks (fun x => x.tick ≤ at0 p3.own x.acc.th) cs := hq3.mono fun x hx => Int.le_trans hx (Int.le_trans (O2 _) (grow3 _))
    have F3 := feed_quiet (d := ⟨T2, d.many + 1 + 1, cs, []⟩) hp3 ⟨by simp only; omega, by simp only; omega⟩ rfl hq4 (by rw [(lockT 15 (.inr rfl)).2]; simp only; omega)
    rw [(lockT 15 (.inr rfl)).1] at F3
    have F3 : feed ⟨T2, d.many + 1 + 1, cs, []⟩ (ev 15 e.th mu 0) = (⟨perform T2 (ev 15 e.th mu 0) p3, d.many + 1 + 1 + 1, cs, []⟩, .inl []) := F3
    have B3 := perform_ThB hp3 B2 (by omega)
    have U3 := unlock_clock hp3 B2 (by omega) rfl
    have L3 : lockC (perform T2 (ev 15 e.th mu 0) p3) mu = clockOf T2 p3 (false, mu) := perform_objs pm3.nd (false, mu)
    have s3 : Sim T2 (perform T2 (ev 15 e.th mu 0) p3) := ⟨by rw [perform_begun, if_neg (by omega)], by rw [perform_ended, if_neg (by omega)]⟩
    have hq5 : Ticks (fun x => x.tick ≤ at0 (lockC (perform T2 (ev 15 e.th mu 0) p3) mu) x.acc.th) cs := by
      rw [L3]
      exact hq4.mono fun x hx => Int.le_trans hx (U3 _)
    generalize perform T2 (ev 15 e.th mu 0) p3 = T3 at F3 B3 L3 s3 hq5 hn3
    unfold mutexed
    rw [feeds_step F1, feeds_step F2, feeds_step F3]
    exact mutexed_feeds mu r (i + 1) (perform T e p) _ h ⟨T3, d.many + 1 + 1 + 1, cs, []⟩ (B + 16 + 16 + 16) hrun ⟨by rw [s3.begun, s2.begun], by rw [s3.ended, s2.ended]⟩ B3 (by omega) rfl (by simp only; omega) (by simp only; omega) (by simp only; omega) (by simp only; omega) hq5
theorem races_mutexed {l : List Ev} {h : Hist} (mu : Int) (hl : l.length ≤ 100) (ht : total l ≤ 2000) (hr : run l = .inl h) : races (mutexed mu l) = .inl [] := by
  refine races_is (by rw [mutexed_len]; omega) ?_ (by simp)
  unfold run at hr
  rw [if_neg (by omega)] at hr
  split at hr
  · rename_i hh hrl
    exact mutexed_feeds mu l 0 begin' ⟨[], [], []⟩ hh det0 0 hrl ⟨rfl, rfl⟩ begin_ThB (by omega) rfl (by decide) (by simp only [det0]; omega) (by simp [det0, begin']; omega) (by simp only [det0, List.length_nil]; omega) (by intro b c hc; simp [det0, look] at hc)
  · cases hr
end Go.Fx.Mo
namespace Go.Fx.Mo
def bsum1 (e : Ev) : Int := if (e.kind = 2 ∨ e.kind = 3 ∨ e.kind = 4 ∨ e.kind = 22 ∨ e.kind = 23) ∧ e.n > 0 then (if 1048576 < e.n then 1048576 else e.n) else 0
def bsum : List Ev → Int
  | [] => 0
  | e :: r => bsum1 e + bsum r
theorem bsum1_range (e : Ev) : 0 ≤ bsum1 e ∧ bsum1 e ≤ 1048576 := by
  unfold bsum1; split
  · split <;> omega
  · omega
theorem bsum_nonneg : ∀ l, 0 ≤ bsum l
  | [] => Int.le_refl _
  | e :: r => by have := bsum_nonneg r; have := bsum1_range e; unfold bsum; omega
theorem touched_bsum (e : Ev) (h : bsum1 e ≤ 2000) : (touched e : Int) ≤ bsum1 e := by
  have h0 := (bsum1_range e).1
  unfold touched
  split
  · rename_i hi
    have hk : e.kind = 2 ∨ e.kind = 3 ∨ e.kind = 4 ∨ e.kind = 22 ∨ e.kind = 23 := by
      unfold accesses at hi
      split at hi
      · omega
      · split at hi
        · omega
        · split at hi
          · omega
          · cases hi
    unfold bsum1 at h ⊢
    by_cases hn : e.n > 0
    · rw [if_pos ⟨hk, hn⟩] at h ⊢
      split at h
      · omega
      · rename_i hh; rw [if_neg hh]; omega
    · rw [if_neg (fun hh => hn hh.2)]; omega
  · simpa using h0
theorem total_bsum : ∀ l, bsum l ≤ 2000 → (total l : Int) ≤ bsum l
  | [], _ => by simp [total, bsum]
  | e :: r, h => by
    unfold bsum at h
    have h1 := bsum_nonneg r
    have h2 := (bsum1_range e).1
    have h3 := touched_bsum e (by omega)
    have h4 := total_bsum r (by omega)
    unfold total bsum
    omega
end Go.Fx.Mo
namespace Go.Fx.Try
open Go Go.Fx Go.Fx.Mo
open Go.Proofs
variable {w0 w : World} {H : List (Nat × Obj)} {K : Value → World → Prop}
set_option maxRecDepth 20000
def BInv (w0 : World) (H : List (Nat × Obj)) (l : List Ev) (sa : Option Addr) (sc : Nat) (m : Nat) (ee : Env) (w : World) : Prop :=
  ∃ (i : Nat) (s : Int), i ≤ l.length ∧ m = l.length - i ∧ ee = Env.mk 30 [(8, (Value.int .i64 i)), (3, (Value.int .i64 s)), (6, (Value.slice sa l.length sc)), (2, (Value.int .i64 0)), (7, (Value.int .i64 l.length))] [] ∧
    s + bsum (l.drop i) = bsum l ∧ 0 ≤ s ∧ s ≤ (i : Int) * 1048576 ∧ St w0 w H
theorem bytesSum_ok {l : List Ev} {ov : Value} (h : St w0 w H) (hrow : ∀ w', St w0 w' H → Row w' 6 ov l.length (evsCs l)) (hl : l.length ≤ 1000) (hK : ∀ w', St w0 w' H → K (.int .i64 (bsum l)) w') : CallL P 14 [ov] w K := by
  obtain ⟨sa, sc, hov⟩ := (hrow w h).form
  rw [hov]
  refine f14_ok _ _ _ _ _ ?_
  rw [f14_eq]
  refine ⟨l.length, fun wq _ => run_len_22 wq, ?_⟩
  refine ⟨BInv w0 H l sa sc, ⟨l.length, 0, 0, by omega, rfl, rfl, by simp, by omega, by omega, h⟩, ?_⟩
  rintro m ee w ⟨i, s, hi, rfl, rfl, hs, hs0, hs1, hw⟩
  show f14_lb0 _ _ _ _ _ _ _ _ _ _
  rw [f14_lb0_eq, BIf_iff]
  constructor
  · intro hlt
    have hlt : i < l.length := by simpa using hlt
    rw [f14_s1_eq]
    obtain ⟨a, c, hac, hld⟩ := (hrow w hw).ldA hlt
    rw [hov] at hac
    obtain ⟨hsa, -⟩ : sa = some a ∧ sc = c := by simpa using hac
    subst hsa
    refine ⟨by omega, by omega, hld _ ?_⟩
    rw [evs_at hlt]
    obtain ⟨ze, hze, hzel⟩ := z35
    rw [hze]
    refine hw.newC fun n14 w6 hn14 h6 => h6.stA (k := 0) rfl (by simp [Evcs_len]) (by simp [hzel]) (Evcs_one _) fun w7 h7 => ?_
    have h7 : St w0 w7 ((n14, Cs (splice ze 0 (Evcs l[i])) 35) :: H) := h7
    rw [splice_whole (by rw [Evcs_len, hzel])] at h7
    rw [List.drop_eq_getElem_cons hlt] at hs
    generalize hx : l[i] = x at h7 hs ⊢
    rw [show bsum (x :: l.drop (i + 1)) = bsum1 x + bsum (l.drop (i + 1)) from rfl] at hs
    have hr := bsum1_range x
    have fin : ∀ v, v = s + bsum1 x → f14_s3 v (some a) l.length sc 0 l.length i w7 K (fun e' w' => ∃ m, m < l.length - i ∧ BInv w0 H l (some a) sc m e' w') := fun v hv => by
      rw [f14_s3_eq]
      refine ⟨l.length - (i + 1), by omega, i + 1, v, by omega, rfl, ?_, by omega, by omega, by omega, h7.tail hn14⟩
      rw [wrap_i64 (by omega) (by omega)]; rfl
    have s2 : ∀ b, (b = true ↔ (x.kind = 2 ∨ x.kind = 3 ∨ x.kind = 4 ∨ x.kind = 22 ∨ x.kind = 23)) → f14_s2 b (some a) l.length sc 0 l.length i (Addr.mk n14 0 none) s w7 K (fun e' w' => ∃ m, m < l.length - i ∧ BInv w0 H l (some a) sc m e' w') := by
      intro b hb
      have c5 : w7.cell? ((Addr.mk n14 0 none).add 5) = some (I64 x.n) := by rw [add_lit', h7.cell (k := 0) rfl]; rfl
      rw [f14_s2_eq, BIf_iff]
      refine ⟨fun hbt => ⟨_, c5, ?_⟩, fun hbf => fin _ ?_⟩
      · rw [BIf_iff]
        refine ⟨fun hn => ⟨_, c5, _, w7, run_min _ _ _, fin _ ?_⟩, fun hn => fin _ ?_⟩
        · have hn : x.n > 0 := by simpa using hn
          have e1 : bsum1 x = if 1048576 < x.n then 1048576 else x.n := by unfold bsum1; rw [if_pos ⟨hb.1 hbt, hn⟩]
          rw [e1] at hr ⊢
          rw [wrap_i64 (by omega) (by omega)]
        · have hn : ¬ x.n > 0 := by simpa using hn
          have : bsum1 x = 0 := by unfold bsum1; rw [if_neg (fun hh => hn hh.2)]
          omega
      · have : bsum1 x = 0 := by unfold bsum1; rw [if_neg (fun hh => by rw [hb.2 hh.1] at hbf; cases hbf)]
        omega
    refine ⟨x.kind, by rw [h7.cell (k := 0) rfl]; rfl, ?_⟩
    have no : ∀ m : Int, (x.kind == m) = false → x.kind ≠ m := fun m hm => by simpa using hm
    have ye : ∀ m : Int, (x.kind == m) = true → x.kind = m := fun m hm => by simpa using hm
    rw [BIf_iff]
    refine ⟨fun h1 => s2 true ⟨fun _ => by have := ye _ h1; omega, fun _ => rfl⟩, fun h1 => ?_⟩
    rw [BIf_iff]
    refine ⟨fun h2 => s2 true ⟨fun _ => by have := ye _ h2; omega, fun _ => rfl⟩, fun h2 => ?_⟩
    rw [BIf_iff]
    refine ⟨fun h3 => s2 true ⟨fun _ => by have := ye _ h3; omega, fun _ => rfl⟩, fun h3 => ?_⟩
    rw [BIf_iff]
    refine ⟨fun h4 => s2 true ⟨fun _ => by have := ye _ h4; omega, fun _ => rfl⟩, fun h4 => s2 _ ⟨fun h5 => by have := ye _ h5; omega, fun hh => ?_⟩⟩
    have := no _ h1; have := no _ h2; have := no _ h3; have := no _ h4
    have : x.kind = 23 := by omega
    simpa using this
  · intro hge
    have : i = l.length := by simp at hge; omega
    subst this
    rw [List.drop_length] at hs
    have : s = bsum l := by rw [show bsum [] = 0 from rfl] at hs; omega
    rw [f14_s4_eq, this]
    exact hK w hw
/-- Order: whether the events can come. -/
theorem order_ok {l : List Ev} {ov : Value} (h : St w0 w H) (hrow : ∀ w', St w0 w' H → Row w' 6 ov l.length (evsCs l)) (hl63 : l.length < 9223372036854775808)
    (hK : ∀ a1 n1 c1 a2 n2 c2 x w', (x = 0 → ∃ hh, Mo.run l = .inl hh) → St w0 w' H → K (.tuple [.slice a1 n1 c1, .slice a2 n2 c2, I64 x].toArray) w') : CallL P 27 [ov] w K := by
  obtain ⟨sa, sc, hov⟩ := (hrow w h).form
  subst hov
  refine f27_ok _ _ _ _ _ ?_
  rw [f27_eq, z89]
  refine run_ok h hrow hl63 (fun x hx w1 h1 => ⟨_, x, rfl, ?_⟩) (fun hh hrun w1 v1 v2 v3 L1 L2 L3 hho h1 => ⟨_, 0, rfl, ?_⟩)
  · refine h1.newC fun n6 w2 hn6 h2 => h2.stA (k := 0) rfl rfl (by simp) (by simp [Value.oneCell']) fun w3 h3 => ?_
    have hx0 : x ≠ 0 := by
      unfold Mo.run at hx
      split at hx
      · cases hx; omega
      · split at hx
        · cases hx
        · cases hx; omega
    have h3 := h3.drew
    refine ⟨none, 0, 0, h3.cell (k := 0) rfl, none, 0, 0, by rw [add_lit']; exact h3.cell (k := 0) rfl, ?_⟩
    exact hK _ _ _ _ _ _ x _ (fun h0 => absurd h0 hx0) (h3.tail hn6)
  · obtain ⟨a1, c1, e1⟩ := hho.s1.form
    obtain ⟨a2, c2, e2⟩ := hho.s2.form
    obtain ⟨a3, c3, e3⟩ := hho.s3.form
    refine h1.newC fun n6 w2 hn6 h2 => h2.stA (k := 0) rfl rfl (by simp) (by simp [e1, e2, e3, Value.oneCell']) fun w3 h3 => ?_
    have h3 := h3.drew
    have h3 : St w0 w3.drew ((n6, Cs [v1, v2, v3] 89) :: (L1 ++ (L2 ++ (L3 ++ H)))) := h3
    refine ⟨a1, _, c1, by rw [← e1]; exact h3.cell (k := 0) rfl, a2, _, c2, by rw [add_lit', ← e2]; exact h3.cell (k := 0) rfl, ?_⟩
    exact hK _ _ _ _ _ _ 0 _ (fun _ => ⟨hh, hrun⟩) ((((h3.tail hn6).sub hho.n1).sub hho.n2).sub hho.n3)
/-- A list of events, of which three more come in. -/
theorem evs_append3 {A L X : List (Nat × Obj)} {ov : Value} {out : List Ev} (h : St w0 w (A ++ (L ++ X))) (hL : SlO 6 35 ov out.length (evsCs out) L) (hLn : New w0 L) {j nb : Nat} {e1 e2 e3 : Ev} (hj : A[j]? = some (nb, Cs (evsCs [e1, e2, e3]) 35)) (hlen : out.length < 1000000) :
    ∃ a c w' L', (Builtin.append_ #[22, 22] 22 [ov, .slice (some ⟨nb, 0, none⟩) 3 3].toArray).run P w = .ok (.slice a (out ++ [e1, e2, e3]).length c) w' ∧
      SlO 6 35 (.slice a (out ++ [e1, e2, e3]).length c) (out ++ [e1, e2, e3]).length (evsCs (out ++ [e1, e2, e3])) L' ∧ St w0 w' (A ++ (L' ++ X)) ∧ New w0 L' := by
  have hA : (nb, Cs (evsCs [e1, e2, e3]) 35) ∈ A := List.mem_of_getElem? hj
  have hM : ∀ y ∈ [(nb, Cs (evsCs [e1, e2, e3]) 35)], w.heap[y.1]? = some y.2 := fun y hy => by
    simp only [List.mem_singleton] at hy
    subst hy
    exact h.has _ _ (by simp [hA])
  have hone : ∀ u ∈ evsCs [e1, e2, e3], u.oneCell' = true := fun u hu => by
    simp only [evsCs, List.map_cons, List.map_nil, List.flatten_cons, List.flatten_nil, List.append_nil, List.mem_append] at hu
    rcases hu with hu | hu | hu
    · exact Evcs_one e1 u (by simpa using hu)
    · exact Evcs_one e2 u (by simpa using hu)
    · exact Evcs_one e3 u (by simpa using hu)
  obtain ⟨v', w', L', hr, hS', hs, hN'⟩ := St.appendN (P := P) 22 22 35 Try.t35 (.agg #[I64 0, I64 0, .int .u32 0, .int .u32 0, .int .u32 0, I64 0]) 6 40 Try.underlying22 (by kernel_rfl) rfl rfl rfl rfl (by omega)
    (A := A) (L := L) (H := X) (M := [(nb, Cs (evsCs [e1, e2, e3]) 35)]) (xv := .slice (some ⟨nb, 0, none⟩) 3 3) (m := 3) (news := evsCs [e1, e2, e3]) h hL hLn
    ⟨rfl, .inr ⟨nb, 3, evsCs [e1, e2, e3], rfl, rfl, by omega, by simp [maxLen], rfl, rfl⟩⟩ hM hone (by simp [maxLen]; omega) (by omega)
  obtain ⟨a, c, hv⟩ := hS'.form
  subst hv
  have e0 : out.length + 3 = (out ++ [e1, e2, e3]).length := by simp
  have e00 : evsCs out ++ evsCs [e1, e2, e3] = evsCs (out ++ [e1, e2, e3]) := by simp [evsCs]
  rw [e0, e00] at hS'
  rw [e0] at hr
  exact ⟨a, c, w', L', hr, hS', hs, hN'⟩
end Go.Fx.Try
namespace Go.Fx.Mo
theorem mutexed_app (mu : Int) : ∀ a b, mutexed mu (a ++ b) = mutexed mu a ++ mutexed mu b
  | [], b => rfl
  | e :: r, b => by simp [mutexed, mutexed_app mu r b]
theorem mutexed_take (mu : Int) {l : List Ev} {i : Nat} (hi : i < l.length) : mutexed mu (l.take (i + 1)) = mutexed mu (l.take i) ++ [ev 14 l[i].th mu 0, l[i], ev 15 l[i].th mu 0] := by
  rw [List.take_add_one, List.getElem?_eq_getElem hi, mutexed_app]
  rfl
end Go.Fx.Mo
namespace Go.Fx.Try
open Go Go.Fx Go.Fx.Mo
open Go.Proofs
variable {w0 w : World} {H : List (Nat × Obj)} {K : Value → World → Prop}
set_option maxRecDepth 20000
theorem bsM (w : World) : (Instr.buildSlice 22 0 ([] : List (Nat × Value)).toArray).run P w = .ok (.slice (some ⟨w.heap.size, 0, none⟩) 0 0) (w.alloc (.cells #[] 35 (0, 0))) := by kernel_rfl
theorem St.emptyM (h : St w0 w H) : SlO 6 35 (.slice (some ⟨w.heap.size, 0, none⟩) 0 0) 0 [] [(w.heap.size, Cs [] 35)] ∧ New w0 [(w.heap.size, Cs [] 35)] ∧ St w0 (w.alloc (.cells #[] 35 (0, 0))) ([(w.heap.size, Cs [] 35)] ++ H) :=
  ⟨⟨rfl, .inr ⟨_, 0, [], rfl, rfl, by omega, by simp [maxLen], rfl, rfl⟩⟩, by simpa [New] using h.le, h.alloc (.cells #[] 35 (0, 0))⟩
def MInv (w0 : World) (H : List (Nat × Obj)) (l : List Ev) (mu : Int) (sa : Option Addr) (sc : Nat) (m : Nat) (ee : Env) (w : World) : Prop :=
  ∃ (i : Nat) (oa : Option Addr) (oc : Nat) (Lo : List (Nat × Obj)), i ≤ l.length ∧ m = l.length - i ∧ ee = Env.mk 69 [(27, (Value.int .i64 i)), (1, (Value.int .u32 mu)), (6, (Value.slice oa (mutexed mu (l.take i)).length oc)), (25, (Value.slice sa l.length sc)), (4, (Value.bool false)), (5, (Value.bool true)), (0, (Value.slice sa l.length sc)), (26, (Value.int .i64 l.length))] [] ∧
    SlO 6 35 (.slice oa (mutexed mu (l.take i)).length oc) (mutexed mu (l.take i)).length (evsCs (mutexed mu (l.take i))) Lo ∧ New w0 Lo ∧ St w0 w (Lo ++ H)
theorem mutexed_ok {l : List Ev} {ov : Value} (mu : Int) (h : St w0 w H) (hrow : ∀ w', St w0 w' H → Row w' 6 ov l.length (evsCs l)) (hK : ∀ w', St w0 w' H → K (.bool true) w') : CallL P 6 [ov, .int .u32 mu] w K := by
  obtain ⟨sa, sc, hov⟩ := (hrow w h).form
  rw [hov]
  refine f6_ok _ _ _ _ _ _ ?_
  rw [f6_eq]
  refine sane_ok h fun w1 h1 => ⟨true, rfl, l.length, fun wq _ => run_len_22 wq, ?_⟩
  have s0 : ∀ b w1, St w0 w1 H → (b = false → l.length ≤ 100 ∧ bsum l ≤ 2000) → f6_s0 b true mu false sa l.length sc w1 K := by
    intro b w1 h1 hb
    rw [f6_s0_eq, BIf_iff]
    refine ⟨fun _ => hK w1 h1, fun hbf => ?_⟩
    obtain ⟨hl, hbs⟩ := hb hbf
    rw [f6_s1_eq]
    obtain ⟨hS0, hN0, h2⟩ := St.emptyM h1
    refine ⟨_, _, _, _, bsM w1, l.length, fun wq _ => run_len_22 wq, ?_⟩
    refine ⟨MInv w0 H l mu sa sc, ⟨l.length, 0, _, _, _, by omega, rfl, rfl, hS0, hN0, h2⟩, ?_⟩
    rintro m ee w3 ⟨i, oa, oc, Lo, hi, rfl, rfl, hS, hN, h3⟩
    show f6_lb2 _ _ _ _ _ _ _ _ _ _ _ _ _ _ _ _ _
    rw [f6_lb2_eq, BIf_iff]
    have hll : ∀ j, (mutexed mu (l.take j)).length ≤ 300 := fun j => by
      rw [mutexed_len]; have : (l.take j).length ≤ l.length := by simp; omega
      omega
    constructor
    · intro hlt
      have hlt : i < l.length := by simpa using hlt
      rw [f6_s3_eq]
      obtain ⟨a, c, hac, hld⟩ := (hrow w3 (h3.sub hN)).ldA hlt
      rw [hov] at hac
      obtain ⟨hsa, -⟩ : sa = some a ∧ sc = c := by simpa using hac
      subst hsa
      refine ⟨by omega, by omega, hld _ ?_⟩
      rw [evs_at hlt]
      obtain ⟨ze, hze, hzel⟩ := z35
      rw [hze]
      refine h3.newC fun n5 w5 hn5 h5 => h5.stA (k := 0) rfl (by simp [Evcs_len]) (by simp [hzel]) (Evcs_one _) fun w6 h6 => ?_
      have h6 : St w0 w6 ((n5, Cs (splice ze 0 (Evcs l[i])) 35) :: (Lo ++ H)) := h6
      rw [splice_whole (by rw [Evcs_len, hzel])] at h6
      have hnx := mutexed_take mu hlt
      generalize hx : l[i] = x at h6 hnx ⊢
      have hd := h6.drew
      have th : ∀ w7, St w0 w7 ((n5, Cs (Evcs x) 35) :: (Lo ++ H)) → w7.cell? ((Addr.mk n5 0 none).add 1) = some (Value.int .i64 x.th) := fun w7 h7 => by rw [add_lit']; exact h7.cell (k := 0) rfl
      have ld : ∀ w7 (Q : Array Value → Prop), St w0 w7 ((n5, Cs (Evcs x) 35) :: (Lo ++ H)) → Q (Evcs x).toArray → LdA 6 (Addr.mk n5 0 none) w7 Q := fun w7 Q h7 hq => h7.ldA (k := 0) (i := 0) rfl (by simp [Evcs_len]) hq
      have s4 : ∀ w7 oa' oc' Lo', SlO 6 35 (.slice oa' (mutexed mu (l.take (i + 1))).length oc') (mutexed mu (l.take (i + 1))).length (evsCs (mutexed mu (l.take (i + 1)))) Lo' → New w0 Lo' → St w0 w7 (Lo' ++ H) →
          f6_s4 mu oa' (mutexed mu (l.take (i + 1))).length oc' (some a) l.length sc false true (some a) l.length sc l.length i w7 K (fun e' w' => ∃ m, m < l.length - i ∧ MInv w0 H l mu (some a) sc m e' w') := by
        intro w7 oa' oc' Lo' k1 k2 k3
        rw [f6_s4_eq]
        refine ⟨l.length - (i + 1), by omega, i + 1, oa', oc', Lo', by omega, rfl, ?_, k1, k2, k3⟩
        rw [wrap_i64 (by omega) (by omega)]; rfl
      have fin : ∀ w7, St w0 w7 ((n5, Cs (Evcs x) 35) :: (Lo ++ H)) → sizesAre 6 [evV (ev 14 x.th mu 0), evV x, evV (ev 15 x.th mu 0)] ∧
          NewC (([evV (ev 14 x.th mu 0), evV x, evV (ev 15 x.th mu 0)].map fun (v : Value) => v.cells.toList).flatten.toArray) 35 w7 (fun n55 w53 => ∃ (s56a : Option Addr) (s56l s56c : Nat), ∃ w57 : World, (Builtin.append_ #[22, 22] 22 [(Value.slice oa (mutexed mu (l.take i)).length oc), (Value.slice (some (Addr.mk n55 0 none)) 3 3)].toArray).run P w53 = .ok (Value.slice s56a s56l s56c) w57 ∧ f6_s4 mu s56a s56l s56c (some a) l.length sc false true (some a) l.length sc l.length i w57 K (fun e' w' => ∃ m, m < l.length - i ∧ MInv w0 H l mu (some a) sc m e' w')) := by
        intro w7 h7
        refine lay_evs [ev 14 x.th mu 0, x, ev 15 x.th mu 0] h7 fun n8 w8 hn8 h8 => ?_
        have h8 : St w0 w8 ([(n8, Cs (evsCs [ev 14 x.th mu 0, x, ev 15 x.th mu 0]) 35), (n5, Cs (Evcs x) 35)] ++ (Lo ++ H)) := h8
        obtain ⟨g, cap, w9, Lo', hr, hS', h9, hN'⟩ := evs_append3 (A := [(n8, Cs (evsCs [ev 14 x.th mu 0, x, ev 15 x.th mu 0]) 35), (n5, Cs (Evcs x) 35)]) h8 hS hN (j := 0) rfl (by have := hll i; omega)
        refine ⟨_, _, _, w9, hr, ?_⟩
        have := s4 w9 g cap Lo'
        rw [hnx] at this
        exact this hS' hN' ((h9.tail hn8).tail hn5)
      refine ⟨x.th, th _ hd, ?_, ?_, x.th, th _ hd, ?_, ?_⟩
      · refine ev_ok hd _ _ _ _ fun w7 h7 => ⟨_, rfl, x.th, th _ h7, ld _ _ h7 ?_, ?_⟩
        · exact ev_ok h7 _ _ _ _ fun w8 h8 => ⟨_, rfl, fin w8 h8⟩
        · exact ev_ok h7 _ _ _ _ fun w8 h8 => ⟨_, rfl, ld _ _ h8 (fin w8 h8)⟩
      · refine ld _ _ hd ⟨?_, x.th, th _ hd, ?_⟩
        · exact ev_ok hd _ _ _ _ fun w7 h7 => ⟨_, rfl, x.th, th _ h7, ev_ok h7 _ _ _ _ fun w8 h8 => ⟨_, rfl, fin w8 h8⟩⟩
        · exact ev_ok hd _ _ _ _ fun w7 h7 => ⟨_, rfl, ev_ok h7 _ _ _ _ fun w8 h8 => ⟨_, rfl, fin w8 h8⟩⟩
      · refine ev_ok hd _ _ _ _ fun w7 h7 => ⟨_, rfl, ld _ _ h7 ?_, ?_⟩
        · exact ev_ok h7 _ _ _ _ fun w8 h8 => ⟨_, rfl, fin w8 h8⟩
        · exact ev_ok h7 _ _ _ _ fun w8 h8 => ⟨_, rfl, ld _ _ h8 (fin w8 h8)⟩
      · refine ld _ _ hd ?_
        exact ev_ok hd _ _ _ _ fun w7 h7 => ⟨_, rfl, ev_ok h7 _ _ _ _ fun w8 h8 => ⟨_, rfl, fin w8 h8⟩⟩
    · intro hge
      have : i = l.length := by simp at hge; omega
      subst this
      rw [List.take_length] at hS
      rw [f6_s5_eq, List.take_length]
      rw [← hov]
      refine order_ok h3 (fun w' h' => hrow w' (h'.sub hN)) (by omega) fun a1 n1 c1 a2 n2 c2 x w4 hx h4 => ⟨a1, n1, c1, a2, n2, c2, x, rfl, ?_⟩
      have fin : ∀ w5, St w0 w5 (Lo ++ H) → f6_s6 true w5 K := fun w5 h5 => by rw [f6_s6_eq]; exact hK w5 (h5.sub hN)
      have hm : (mutexed mu l).length ≤ 300 := by rw [mutexed_len]; omega
      refine races_ok sort48 h4 (l := mutexed mu l) (fun w' h' => hS.row fun y hy => h'.has _ _ (by simp [hy])) (by omega) (fun y hy hy0 w5 h5 => ⟨none, 0, 0, y, rfl, ?_⟩) (fun out ho hlen w5 rv Lo2 hS2 hN2 h5 => ?_)
      · rw [BIf_iff]
        refine ⟨fun _ => fin w5 h5, fun hx0 => ?_⟩
        have hx0 : x = 0 := by simpa using hx0
        obtain ⟨hh, hrun⟩ := hx hx0
        have := races_mutexed mu hl (by have := total_bsum l hbs; omega) hrun
        rw [this] at hy; cases hy
      · obtain ⟨ra, rc, hrv⟩ := hS2.form
        subst hrv
        refine ⟨ra, _, rc, 0, rfl, ?_⟩
        rw [BIf_iff]
        refine ⟨fun _ => fin w5 (h5.sub hN2), fun hx0 => ?_⟩
        have hx0 : x = 0 := by simpa using hx0
        obtain ⟨hh, hrun⟩ := hx hx0
        have := races_mutexed mu hl (by have := total_bsum l hbs; omega) hrun
        rw [this] at ho
        cases ho
        rw [show ((0 : Int) == 0) = true by decide, BIf_true]
        refine ⟨0, fun wq _ => run_len_25 wq, ?_⟩
        rw [show ((0 : Int) == 0) = true by decide, BIf_true]
        exact fin w5 (h5.sub hN2)
  rw [BIf_iff]
  refine ⟨fun _ => s0 true w1 h1 (by intro hh; cases hh), fun hle => ?_⟩
  have hle : l.length ≤ 100 := by simp at hle; omega
  rw [← hov]
  exact bytesSum_ok h1 hrow (by omega) fun w2 h2 => ⟨_, rfl, s0 _ w2 h2 fun hf => ⟨hle, by simpa using hf⟩⟩
end Go.Fx.Try
namespace Go.Proofs.Ytamciedmojpjaaa
open Go Go.Fx Go.Fx.Try Go.Fx.Mo
open Go.ChangeShapes Go.WideShapes Go.ChangeAt Go.RowKit
set_option maxRecDepth 100000
theorem raceMutexed_lifted (os : Os) (started : os.Started) (H : Type) (enc : TypeId × Value → H) :
    ReturnsInHanded {} Try.checked os 6 .any (Rows.raceMutexedSpec.pre6 enc Try.prog Try.f6 Rows.raceMutexedRow.domain false) (Rows.raceMutexedSpec.post enc Try.prog Try.f6 false true false false) := by
  refine returnsInHanded_of_change (C := Try.checked) own started (by kernel_rfl) Try.func6
    (ChangeSpec.witness6 (enc := enc) (C := Try.checked) false ⟨#[], #[.slice none 0 0, .int .u32 0], []⟩ 8 (by kernel_rfl) (by kernel_rfl) (by kernel_rfl) (by kernel_rfl)) ?_
  intro W base args ds gs before hval0 hW _ _
  have hval : ∀ (j : Nat) t v, Try.f6.params[j]? = some t → args[j]? = some v → Value.okWide Try.prog W .any base t v := hval0
  have hW' := hW
  obtain ⟨p, q, hA0, hV, rfl, hfz, hnd⟩ := hW
  have hA : DataW.TrodAll enc Try.prog W 0 (fun _ => true) true Try.f6.params.toList args.toList ds p := hA0
  rw [Try.params6] at hA hval
  obtain ⟨v0, v1, d0, d1, p0, p1, rfl, rfl, rfl, h0, h1⟩ := trodAll_two hA
  obtain ⟨rfl, rfl⟩ := trodVars_none hV
  obtain ⟨l, hrow, _⟩ := open_events (okWide_slice Try.underlying22 (hval 0 22 v0 rfl rfl)) h0
  obtain ⟨mu, rfl, rfl, rfl, hwf⟩ := open_int Try.underlying33 (hval 1 33 v1 rfl rfl) h1
  have hcall := mutexed_ok (w0 := W) (H := []) (K := fun v w' => v = .bool true ∧ Below W.heap.size W w') mu (St.refl W) (fun w' h' => Row.old hrow (New.nil W) h') (fun w' h' => ⟨rfl, h'.below⟩)
  refine Calls.mono hcall fun e W' he => ?_
  unfold retK at he
  split at he
  · obtain ⟨rfl, hB⟩ := he
    have hlt : ∀ x ∈ p0, x.block < W.heap.size := fun x hx => hW'.lt x (by simp [hx])
    have h0' := Below.trod laidOut readable22 types22 h0 hB hlt
    exact ⟨_, rfl, _, _, _, [], p0 ++ [], [], hW', trodAll_mk1 (shut_bool Try.underlying4 _), trodAll_mk2 h0' (shut_int Try.underlying33 hwf), rfl, hB.frame _, fun h => by cases h⟩
  · exact he.elim
theorem raceMutexed_holds : Rows.RaceMutexedSaid :=
  OpenClaim.holds_of_wide 6 Try.f6 rfl rfl rfl rfl rfl rfl rfl ⟨rfl, rfl, rfl, rfl, rfl⟩ rfl rfl rfl rfl rfl (by kernel_rfl) Try.func6 (by kernel_rfl)
    (of_decide_eq_true (by kernel_rfl)) (by unfold Func.isWrapper; first | (rw [if_pos (by decide +kernel)]; kernel_rfl) | (rw [if_neg (by decide +kernel)]; exact ⟨rfl, rfl⟩))
    (fun os started H enc _ => raceMutexed_lifted os started H enc)
#print axioms raceMutexed_holds
end Go.Proofs.Ytamciedmojpjaaa
