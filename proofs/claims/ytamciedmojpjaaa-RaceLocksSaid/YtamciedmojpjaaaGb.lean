/- Functions of package race, as formulas (printed by a tool of this work). -/
import Derived.Test.YtamciedmojpjaaaProg
import Derived.Test.YtamciedmojpjaaaGa
import Derived.KernelRfl
namespace Go.Fx.Try
open Go
noncomputable abbrev P : Program := Go.Proofs.Try.prog
end Go.Fx.Try
namespace Go.Fx.Try
set_option maxRecDepth 100000
open Go Go.Fx
/-! 59 candling.race.conflict -/
noncomputable def c59 : Code := match Go.Proofs.Try.f59.body with
  | some c => c
  | none => .skip
noncomputable def rs59 : List ResultVar := Go.Proofs.Try.f59.results.toList
abbrev f59_kb (K : KT) : Exit → YT := bodyK P rs59 K
def f59 (cs0 cs1 : Array Value) (w : World) (K : KT) : Prop := CS P c59 none [4] [4] (f59_kb K) (env0 27 [(Value.agg cs0), (Value.agg cs1)]) w
abbrev f59_k0 (K : KT) : Exit → YT := kseq P (codeAt c59 [0]) (codeAt c59 [1]) none [4] [4] (f59_kb K)
abbrev f59_k1 (K : KT) : Exit → YT := kseq P (codeAt c59 [1, 0]) (codeAt c59 [1, 1]) none [4] [4] (f59_kb K)
def f59_s0 (b11 : Bool) (w : World) (K : KT) : Prop := Join (fun e w => CS P (codeAt c59 [1, 1]) none [4] [4] (f59_kb K) e w) (Env.mk 27 [(4, (Value.bool b11))] []) w
theorem f59_s0_eq (b11 : Bool) (w : World) (K : KT) : f59_s0 b11 w K = (K (Value.bool b11) w) := by kernel_rfl
theorem f59_eq (cs0 cs1 : Array Value) (w : World) (K : KT) : f59 cs0 cs1 w K = (NewC cs0 45 w (fun n2 w3 => NewC cs1 45 w3 (fun n4 w5 => ∃ x6 : Int, w5.cell? ((Addr.mk n2 0 none).add 1) = some (Value.int .i64 x6) ∧ ∃ x7 : Int, w5.cell? ((Addr.mk n4 0 none).add 1) = some (Value.int .i64 x7) ∧ BIf ((x6 : Int) != x7) (∃ b8 : Bool, w5.cell? ((Addr.mk n2 0 none).add 3) = some (Value.bool b8) ∧ BIf b8 (∃ b9 : Bool, w5.cell? ((Addr.mk n2 0 none).add 4) = some (Value.bool b9) ∧ BIf b9 (∃ b10 : Bool, w5.cell? ((Addr.mk n4 0 none).add 4) = some (Value.bool b10) ∧ f59_s0 (!b10) w5 K) (f59_s0 true w5 K)) (∃ b12 : Bool, w5.cell? ((Addr.mk n4 0 none).add 3) = some (Value.bool b12) ∧ BIf b12 (∃ b13 : Bool, w5.cell? ((Addr.mk n2 0 none).add 4) = some (Value.bool b13) ∧ BIf b13 (∃ b14 : Bool, w5.cell? ((Addr.mk n4 0 none).add 4) = some (Value.bool b14) ∧ f59_s0 (!b14) w5 K) (f59_s0 true w5 K)) (f59_s0 false w5 K))) (f59_s0 false w5 K)))) := by kernel_rfl
theorem c59_eq : Go.Proofs.Try.f59.body = some c59 := by kernel_rfl
theorem f59_un (cs0 cs1 : Array Value) (w : World) (K : KT) : f59 cs0 cs1 w K = CS P c59 none (resT Go.Proofs.Try.f59.results.toList) (resT Go.Proofs.Try.f59.results.toList) (bodyK P Go.Proofs.Try.f59.results.toList K) (env0 Go.Proofs.Try.f59.ntmps [(Value.agg cs0), (Value.agg cs1)]) w := by kernel_rfl
theorem f59_ok (cs0 cs1 : Array Value) (w : World) (K : KT) (h : f59 cs0 cs1 w K) : CallL P 59 [(Value.agg cs0), (Value.agg cs1)] w K := calls_of_CS Go.Proofs.Try.func59 c59_eq (Eq.mp (f59_un cs0 cs1 w K) h)
/-! 96 candling.race.kind -/
noncomputable def c96 : Code := match Go.Proofs.Try.f96.body with
  | some c => c
  | none => .skip
noncomputable def rs96 : List ResultVar := Go.Proofs.Try.f96.results.toList
abbrev f96_kb (K : KT) : Exit → YT := bodyK P rs96 K
def f96 (cs0 : Array Value) (w : World) (K : KT) : Prop := CS P c96 none [2] [2] (f96_kb K) (env0 9 [(Value.agg cs0)]) w
abbrev f96_k0 (K : KT) : Exit → YT := kseq P (codeAt c96 [0]) (codeAt c96 [1]) none [2] [2] (f96_kb K)
abbrev f96_k1 (K : KT) : Exit → YT := kseq P (codeAt c96 [1, 0]) (codeAt c96 [1, 1]) none [2] [2] (f96_kb K)
abbrev f96_k2 (K : KT) : Exit → YT := kblock 0 (f96_k1 K)
abbrev f96_k3 (K : KT) : Exit → YT := kseq P (codeAt c96 [1, 0, 0, 0]) (codeAt c96 [1, 0, 0, 1]) none [] [2] (f96_k2 K)
abbrev f96_k4 (K : KT) : Exit → YT := kseq P (codeAt c96 [1, 0, 0, 1, 0, 0]) (codeAt c96 [1, 0, 0, 1, 0, 1]) none [] [2] (f96_k2 K)
abbrev f96_k5 (K : KT) : Exit → YT := kseq P (codeAt c96 [1, 0, 0, 1, 1, 0]) (codeAt c96 [1, 0, 0, 1, 1, 1]) none [] [2] (f96_k2 K)
abbrev f96_k6 (K : KT) : Exit → YT := kseq P (codeAt c96 [1, 0, 0, 1, 1, 1, 0, 0]) (codeAt c96 [1, 0, 0, 1, 1, 1, 0, 1]) none [] [2] (f96_k2 K)
def f96_s0 (w : World) (K : KT) : Prop := Join (fun e w => CS P (codeAt c96 [1, 1]) none [2] [2] (f96_kb K) e w) (Env.mk 9 [] []) w
abbrev f96_k7 (K : KT) : Exit → YT := kseq P (codeAt c96 [1, 1, 0]) (codeAt c96 [1, 1, 1]) none [2] [2] (f96_kb K)
theorem f96_s0_eq (w : World) (K : KT) : f96_s0 w K = (K (Value.int .i64 0) w) := by kernel_rfl
theorem f96_eq (cs0 : Array Value) (w : World) (K : KT) : f96 cs0 w K = (NewC cs0 45 w (fun n1 w2 => ∃ b3 : Bool, w2.cell? ((Addr.mk n1 0 none).add 4) = some (Value.bool b3) ∧ BIf b3 (K (Value.int .i64 2) w2) (∃ b4 : Bool, w2.cell? ((Addr.mk n1 0 none).add 3) = some (Value.bool b4) ∧ BIf b4 (K (Value.int .i64 1) w2) (f96_s0 w2 K)))) := by kernel_rfl
theorem c96_eq : Go.Proofs.Try.f96.body = some c96 := by kernel_rfl
theorem f96_un (cs0 : Array Value) (w : World) (K : KT) : f96 cs0 w K = CS P c96 none (resT Go.Proofs.Try.f96.results.toList) (resT Go.Proofs.Try.f96.results.toList) (bodyK P Go.Proofs.Try.f96.results.toList K) (env0 Go.Proofs.Try.f96.ntmps [(Value.agg cs0)]) w := by kernel_rfl
theorem f96_ok (cs0 : Array Value) (w : World) (K : KT) (h : f96 cs0 w K) : CallL P 96 [(Value.agg cs0)] w K := calls_of_CS Go.Proofs.Try.func96 c96_eq (Eq.mp (f96_un cs0 w K) h)
/-! 64 candling.race.accesses -/
noncomputable def c64 : Code := match Go.Proofs.Try.f64.body with
  | some c => c
  | none => .skip
noncomputable def rs64 : List ResultVar := Go.Proofs.Try.f64.results.toList
abbrev f64_kb (K : KT) : Exit → YT := bodyK P rs64 K
def f64 (cs0 : Array Value) (w : World) (K : KT) : Prop := CS P c64 none [2, 3, 4] [2, 3, 4] (f64_kb K) (env0 15 [(Value.agg cs0)]) w
abbrev f64_k0 (K : KT) : Exit → YT := kseq P (codeAt c64 [0]) (codeAt c64 [1]) none [2, 3, 4] [2, 3, 4] (f64_kb K)
abbrev f64_k1 (K : KT) : Exit → YT := kseq P (codeAt c64 [1, 0]) (codeAt c64 [1, 1]) none [2, 3, 4] [2, 3, 4] (f64_kb K)
abbrev f64_k2 (K : KT) : Exit → YT := kseq P (codeAt c64 [1, 0, 0]) (codeAt c64 [1, 0, 1]) none [] [2, 3, 4] (f64_k1 K)
abbrev f64_k3 (K : KT) : Exit → YT := kblock 0 (f64_k1 K)
abbrev f64_k4 (K : KT) : Exit → YT := kseq P (codeAt c64 [1, 0, 1, 0, 0]) (codeAt c64 [1, 0, 1, 0, 1]) none [] [2, 3, 4] (f64_k3 K)
abbrev f64_k5 (K : KT) : Exit → YT := kseq P (codeAt c64 [1, 0, 1, 0, 0, 0]) (codeAt c64 [1, 0, 1, 0, 0, 1]) none [7, 6] [2, 3, 4] (f64_k4 K)
def f64_s0 (b4 : Bool) (x5 : Int) (w : World) (K : KT) : Prop := Join (fun e w => CS P (codeAt c64 [1, 0, 1, 0, 1]) none [] [2, 3, 4] (f64_k3 K) e w) (Env.mk 15 [(7, (Value.bool b4)), (6, (Value.int .i64 x5))] []) w
abbrev f64_k6 (K : KT) : Exit → YT := kseq P (codeAt c64 [1, 0, 1, 0, 1, 0, 0]) (codeAt c64 [1, 0, 1, 0, 1, 0, 1]) none [] [2, 3, 4] (f64_k3 K)
abbrev f64_k7 (K : KT) : Exit → YT := kseq P (codeAt c64 [1, 0, 1, 0, 1, 1, 0]) (codeAt c64 [1, 0, 1, 0, 1, 1, 1]) none [] [2, 3, 4] (f64_k3 K)
abbrev f64_k8 (K : KT) : Exit → YT := kseq P (codeAt c64 [1, 0, 1, 0, 1, 1, 0, 0]) (codeAt c64 [1, 0, 1, 0, 1, 1, 0, 1]) none [10, 6] [2, 3, 4] (f64_k7 K)
def f64_s1 (b6 : Bool) (x7 : Int) (w : World) (K : KT) : Prop := Join (fun e w => CS P (codeAt c64 [1, 0, 1, 0, 1, 1, 1]) none [] [2, 3, 4] (f64_k3 K) e w) (Env.mk 15 [(10, (Value.bool b6)), (6, (Value.int .i64 x7))] []) w
abbrev f64_k9 (K : KT) : Exit → YT := kseq P (codeAt c64 [1, 0, 1, 0, 1, 1, 1, 0, 0]) (codeAt c64 [1, 0, 1, 0, 1, 1, 1, 0, 1]) none [] [2, 3, 4] (f64_k3 K)
abbrev f64_k10 (K : KT) : Exit → YT := kseq P (codeAt c64 [1, 0, 1, 0, 1, 1, 1, 1, 0]) (codeAt c64 [1, 0, 1, 0, 1, 1, 1, 1, 1]) none [] [2, 3, 4] (f64_k3 K)
abbrev f64_k11 (K : KT) : Exit → YT := kseq P (codeAt c64 [1, 0, 1, 0, 1, 1, 1, 1, 1, 0, 0]) (codeAt c64 [1, 0, 1, 0, 1, 1, 1, 1, 1, 0, 1]) none [] [2, 3, 4] (f64_k3 K)
def f64_s2 (w : World) (K : KT) : Prop := Join (fun e w => CS P (codeAt c64 [1, 1]) none [2, 3, 4] [2, 3, 4] (f64_kb K) e w) (Env.mk 15 [] []) w
abbrev f64_k12 (K : KT) : Exit → YT := kseq P (codeAt c64 [1, 1, 0]) (codeAt c64 [1, 1, 1]) none [2, 3, 4] [2, 3, 4] (f64_kb K)
theorem f64_s2_eq (w : World) (K : KT) : f64_s2 w K = (K (Value.tuple [(Value.bool false), (Value.bool false), (Value.bool false)].toArray) w) := by kernel_rfl
theorem f64_s1_eq (b6 : Bool) (x7 : Int) (w : World) (K : KT) : f64_s1 b6 x7 w K = (BIf b6 (K (Value.tuple [(Value.bool true), (Value.bool false), (Value.bool true)].toArray) w) (BIf ((x7 : Int) == 4) (K (Value.tuple [(Value.bool true), (Value.bool true), (Value.bool true)].toArray) w) (f64_s2 w K))) := by kernel_rfl
theorem f64_s0_eq (b4 : Bool) (x5 : Int) (w : World) (K : KT) : f64_s0 b4 x5 w K = (BIf b4 (K (Value.tuple [(Value.bool false), (Value.bool false), (Value.bool true)].toArray) w) (BIf ((x5 : Int) == 3) (f64_s1 true x5 w K) (f64_s1 ((x5 : Int) == 22) x5 w K))) := by kernel_rfl
theorem f64_eq (cs0 : Array Value) (w : World) (K : KT) : f64 cs0 w K = (NewC cs0 35 w (fun n1 w2 => ∃ x3 : Int, w2.cell? (Addr.mk n1 0 none) = some (Value.int .i64 x3) ∧ BIf ((x3 : Int) == 2) (f64_s0 true x3 w2 K) (f64_s0 ((x3 : Int) == 23) x3 w2 K))) := by kernel_rfl
theorem c64_eq : Go.Proofs.Try.f64.body = some c64 := by kernel_rfl
theorem f64_un (cs0 : Array Value) (w : World) (K : KT) : f64 cs0 w K = CS P c64 none (resT Go.Proofs.Try.f64.results.toList) (resT Go.Proofs.Try.f64.results.toList) (bodyK P Go.Proofs.Try.f64.results.toList K) (env0 Go.Proofs.Try.f64.ntmps [(Value.agg cs0)]) w := by kernel_rfl
theorem f64_ok (cs0 : Array Value) (w : World) (K : KT) (h : f64 cs0 w K) : CallL P 64 [(Value.agg cs0)] w K := calls_of_CS Go.Proofs.Try.func64 c64_eq (Eq.mp (f64_un cs0 w K) h)
/-! 65 candling.race.bytes -/
noncomputable def c65 : Code := match Go.Proofs.Try.f65.body with
  | some c => c
  | none => .skip
noncomputable def rs65 : List ResultVar := Go.Proofs.Try.f65.results.toList
abbrev f65_kb (K : KT) : Exit → YT := bodyK P rs65 K
def f65 (x0 x1 : Int) (w : World) (K : KT) : Prop := CS P c65 none [4] [4] (f65_kb K) (env0 6 [(Value.int .u32 x0), (Value.int .i64 x1)]) w
abbrev f65_k0 (K : KT) : Exit → YT := kseq P (codeAt c65 [0]) (codeAt c65 [1]) none [4] [4] (f65_kb K)
abbrev f65_k1 (K : KT) : Exit → YT := kseq P (codeAt c65 [1, 0]) (codeAt c65 [1, 1]) none [4] [4] (f65_kb K)
theorem f65_eq (x0 x1 : Int) (w : World) (K : KT) : f65 x0 x1 w K = (NewC #[(Value.int .u32 x0)] 33 w (fun n2 w3 => NewC #[(Value.int .i64 x1)] 3 w3 (fun n4 w5 => K (Value.func (.func 95) #[] #[(Value.pointer (some (Addr.mk n4 0 none))), (Value.pointer (some (Addr.mk n2 0 none)))]) w5))) := by kernel_rfl
theorem c65_eq : Go.Proofs.Try.f65.body = some c65 := by kernel_rfl
theorem f65_un (x0 x1 : Int) (w : World) (K : KT) : f65 x0 x1 w K = CS P c65 none (resT Go.Proofs.Try.f65.results.toList) (resT Go.Proofs.Try.f65.results.toList) (bodyK P Go.Proofs.Try.f65.results.toList K) (env0 Go.Proofs.Try.f65.ntmps [(Value.int .u32 x0), (Value.int .i64 x1)]) w := by kernel_rfl
theorem f65_ok (x0 x1 : Int) (w : World) (K : KT) (h : f65 x0 x1 w K) : CallL P 65 [(Value.int .u32 x0), (Value.int .i64 x1)] w K := calls_of_CS Go.Proofs.Try.func65 c65_eq (Eq.mp (f65_un x0 x1 w K) h)
/-! 95 candling.race.bytes$1 -/
noncomputable def c95 : Code := match Go.Proofs.Try.f95.body with
  | some c => c
  | none => .skip
noncomputable def rs95 : List ResultVar := Go.Proofs.Try.f95.results.toList
abbrev f95_kb (K : KT) : Exit → YT := bodyK P rs95 K
def f95 (v0 : Value) (a1 a2 : Addr) (w : World) (K : KT) : Prop := CS P c95 none [] [] (f95_kb K) (env0 17 [v0, (Value.pointer (some a1)), (Value.pointer (some a2))]) w
abbrev f95_k0 (K : KT) : Exit → YT := kseq P (codeAt c95 [0]) (codeAt c95 [1]) none [] [] (f95_kb K)
abbrev f95_k1 (K : KT) : Exit → YT := kblock 0 (f95_kb K)
def f95_lp0 (K : KT) (Y0 : YT) (e : Env) (w : World) : Prop := Join (fun e w => CS P (codeAt c95 [1, 0, 0]) none [6, 2, 0, 5] [] (kloop [6, 2, 0, 5] Y0 (f95_k1 K)) e w) e w
abbrev f95_kl0 (K : KT) (Y0 : YT) : Exit → YT := kloop [6, 2, 0, 5] Y0 (f95_k1 K)
def f95_lb0 (x4 : Int) (a5 : Addr) (v6 : Value) (x7 : Int) (w : World) (K : KT) (Y0 : YT) : Prop := Join (fun e w => CS P (codeAt c95 [1, 0, 0]) none [6, 2, 0, 5] [] (f95_kl0 K Y0) e w) (Env.mk 17 [(6, (Value.int .i64 x4)), (2, (Value.pointer (some a5))), (0, v6), (5, (Value.int .i64 x7))] []) w
abbrev f95_k2 (K : KT) (Y0 : YT) : Exit → YT := kseq P (codeAt c95 [1, 0, 0, 0]) (codeAt c95 [1, 0, 0, 1]) none [6, 2, 0, 5] [] (f95_kl0 K Y0)
abbrev f95_k3 (K : KT) (Y0 : YT) : Exit → YT := kseq P (codeAt c95 [1, 0, 0, 1, 0]) (codeAt c95 [1, 0, 0, 1, 1]) none [6, 2, 0, 5] [] (f95_kl0 K Y0)
def f95_s1 (a8 : Addr) (v9 : Value) (x10 x11 : Int) (w : World) (K : KT) (Y0 : YT) : Prop := Join (fun e w => CS P (codeAt c95 [1, 0, 0, 1, 1]) none [6, 2, 0, 5] [] (f95_kl0 K Y0) e w) (Env.mk 17 [(2, (Value.pointer (some a8))), (0, v9), (5, (Value.int .i64 x10)), (6, (Value.int .i64 x11))] []) w
abbrev f95_k4 (K : KT) (Y0 : YT) : Exit → YT := kseq P (codeAt c95 [1, 0, 0, 1, 1, 0]) (codeAt c95 [1, 0, 0, 1, 1, 1]) none [6, 2, 0, 5] [] (f95_kl0 K Y0)
abbrev f95_k5 (K : KT) (Y0 : YT) : Exit → YT := kblock 1 (f95_k4 K Y0)
abbrev f95_k6 (K : KT) (Y0 : YT) : Exit → YT := kseq P (codeAt c95 [1, 0, 0, 1, 1, 0, 0, 0]) (codeAt c95 [1, 0, 0, 1, 1, 0, 0, 1]) none [2, 0, 5, 6] [2, 0, 5, 6] (f95_k5 K Y0)
abbrev f95_k7 (K : KT) (Y0 : YT) : Exit → YT := kseq P (codeAt c95 [1, 0, 0, 1, 1, 0, 0, 1, 0]) (codeAt c95 [1, 0, 0, 1, 1, 0, 0, 1, 1]) none [2, 0, 5, 6] [2, 0, 5, 6] (f95_k5 K Y0)
def f95_s2 (a16 : Addr) (v17 : Value) (x18 x19 : Int) (w : World) (K : KT) (Y0 : YT) : Prop := Join (fun e w => CS P (codeAt c95 [1, 0, 0, 1, 1, 1]) none [6, 2, 0, 5] [] (f95_kl0 K Y0) e w) (Env.mk 17 [(2, (Value.pointer (some a16))), (0, v17), (5, (Value.int .i64 x18)), (6, (Value.int .i64 x19))] []) w
theorem f95_s2_eq (a16 : Addr) (v17 : Value) (x18 x19 : Int) (w : World) (K : KT) (Y0 : YT) : f95_s2 a16 v17 x18 x19 w K Y0 = (Y0 (Env.mk 17 [(6, (Value.int .i64 (IntKind.wrap .i64 ((x19 : Int) + 1)))), (2, (Value.pointer (some a16))), (0, v17), (5, (Value.int .i64 x18))] []) w) := by kernel_rfl
theorem f95_s1_eq (a8 : Addr) (v9 : Value) (x10 x11 : Int) (w : World) (K : KT) (Y0 : YT) : f95_s1 a8 v9 x10 x11 w K Y0 = (∃ x12 : Int, w.cell? a8 = some (Value.int .u32 x12) ∧ CallF P v9 [(Value.int .u32 (IntKind.wrap .u32 ((x12 : Int) + (IntKind.wrap .u32 x11))))] w (fun r13 w14 => ∃ b15 : Bool, r13 = (Value.bool b15) ∧ BIf (!b15) (K (Value.tuple [].toArray) w14) (f95_s2 a8 v9 x10 x11 w14 K Y0))) := by kernel_rfl
theorem f95_lb0_eq (x4 : Int) (a5 : Addr) (v6 : Value) (x7 : Int) (w : World) (K : KT) (Y0 : YT) : f95_lb0 x4 a5 v6 x7 w K Y0 = (BIf (decide ((x4 : Int) < x7)) (f95_s1 a5 v6 x7 x4 w K Y0) (K (Value.tuple [].toArray) w)) := by kernel_rfl
theorem f95_eq (v0 : Value) (a1 a2 : Addr) (w : World) (K : KT) : f95 v0 a1 a2 w K = (∃ x3 : Int, w.cell? a1 = some (Value.int .i64 x3) ∧ LoopE (f95_lp0 K) (Env.mk 17 [(6, (Value.int .i64 0)), (2, (Value.pointer (some a2))), (0, v0), (5, (Value.int .i64 x3))] []) w) := by kernel_rfl
theorem c95_eq : Go.Proofs.Try.f95.body = some c95 := by kernel_rfl
theorem f95_un (v0 : Value) (a1 a2 : Addr) (w : World) (K : KT) : f95 v0 a1 a2 w K = CS P c95 none (resT Go.Proofs.Try.f95.results.toList) (resT Go.Proofs.Try.f95.results.toList) (bodyK P Go.Proofs.Try.f95.results.toList K) (env0 Go.Proofs.Try.f95.ntmps [v0, (Value.pointer (some a1)), (Value.pointer (some a2))]) w := by kernel_rfl
theorem f95_ok (v0 : Value) (a1 a2 : Addr) (w : World) (K : KT) (h : f95 v0 a1 a2 w K) : CallL P 95 [v0, (Value.pointer (some a1)), (Value.pointer (some a2))] w K := calls_of_CS Go.Proofs.Try.func95 c95_eq (Eq.mp (f95_un v0 a1 a2 w K) h)
/-! 97 (*candling.race.clock).join -/
noncomputable def c97 : Code := match Go.Proofs.Try.f97.body with
  | some c => c
  | none => .skip
noncomputable def rs97 : List ResultVar := Go.Proofs.Try.f97.results.toList
abbrev f97_kb (K : KT) : Exit → YT := bodyK P rs97 K
def f97 (p0 : Option Addr) (cs1 : Array Value) (w : World) (K : KT) : Prop := CS P c97 none [] [] (f97_kb K) (env0 22 [(Value.pointer p0), (Value.agg cs1)]) w
abbrev f97_k0 (K : KT) : Exit → YT := kseq P (codeAt c97 [0]) (codeAt c97 [1]) none [] [] (f97_kb K)
abbrev f97_k1 (K : KT) : Exit → YT := kseq P (codeAt c97 [1, 0]) (codeAt c97 [1, 1]) none [] [] (f97_kb K)
abbrev f97_k2 (K : KT) : Exit → YT := kblock 0 (f97_kb K)
def f97_lp0 (K : KT) (Y0 : YT) (e : Env) (w : World) : Prop := Join (fun e w => CS P (codeAt c97 [1, 1, 0, 0]) none [5, 3, 0] [] (kloop [5, 3, 0] Y0 (f97_k2 K)) e w) e w
abbrev f97_kl0 (K : KT) (Y0 : YT) : Exit → YT := kloop [5, 3, 0] Y0 (f97_k2 K)
def f97_lb0 (x4 : Int) (a5 : Addr) (p6 : Option Addr) (w : World) (K : KT) (Y0 : YT) : Prop := Join (fun e w => CS P (codeAt c97 [1, 1, 0, 0]) none [5, 3, 0] [] (f97_kl0 K Y0) e w) (Env.mk 22 [(5, (Value.int .i64 x4)), (3, (Value.pointer (some a5))), (0, (Value.pointer p6))] []) w
abbrev f97_k3 (K : KT) (Y0 : YT) : Exit → YT := kseq P (codeAt c97 [1, 1, 0, 0, 0]) (codeAt c97 [1, 1, 0, 0, 1]) none [5, 3, 0] [] (f97_kl0 K Y0)
abbrev f97_k4 (K : KT) (Y0 : YT) : Exit → YT := kseq P (codeAt c97 [1, 1, 0, 0, 1, 0]) (codeAt c97 [1, 1, 0, 0, 1, 1]) none [5, 3, 0] [] (f97_kl0 K Y0)
def f97_s1 (a7 : Addr) (p8 : Option Addr) (x9 : Int) (w : World) (K : KT) (Y0 : YT) : Prop := Join (fun e w => CS P (codeAt c97 [1, 1, 0, 0, 1, 1]) none [5, 3, 0] [] (f97_kl0 K Y0) e w) (Env.mk 22 [(3, (Value.pointer (some a7))), (0, (Value.pointer p8)), (5, (Value.int .i64 x9))] []) w
abbrev f97_k5 (K : KT) (Y0 : YT) : Exit → YT := kseq P (codeAt c97 [1, 1, 0, 0, 1, 1, 0]) (codeAt c97 [1, 1, 0, 0, 1, 1, 1]) none [5, 3, 0] [] (f97_kl0 K Y0)
abbrev f97_k6 (K : KT) (Y0 : YT) : Exit → YT := kblock 1 (f97_k5 K Y0)
abbrev f97_k7 (K : KT) (Y0 : YT) : Exit → YT := kseq P (codeAt c97 [1, 1, 0, 0, 1, 1, 0, 0, 0]) (codeAt c97 [1, 1, 0, 0, 1, 1, 0, 0, 1]) none [3, 0, 5] [3, 0, 5] (f97_k6 K Y0)
def f97_s2 (a17 : Addr) (p18 : Option Addr) (x19 : Int) (w : World) (K : KT) (Y0 : YT) : Prop := Join (fun e w => CS P (codeAt c97 [1, 1, 0, 0, 1, 1, 1]) none [5, 3, 0] [] (f97_kl0 K Y0) e w) (Env.mk 22 [(3, (Value.pointer (some a17))), (0, (Value.pointer p18)), (5, (Value.int .i64 x19))] []) w
theorem f97_s2_eq (a17 : Addr) (p18 : Option Addr) (x19 : Int) (w : World) (K : KT) (Y0 : YT) : f97_s2 a17 p18 x19 w K Y0 = (Y0 (Env.mk 22 [(5, (Value.int .i64 (IntKind.wrap .i64 ((x19 : Int) + 1)))), (3, (Value.pointer (some a17))), (0, (Value.pointer p18))] []) w) := by kernel_rfl
theorem f97_s1_eq (a7 : Addr) (p8 : Option Addr) (x9 : Int) (w : World) (K : KT) (Y0 : YT) : f97_s1 a7 p8 x9 w K Y0 = (optS p8 (fun a10 => 0 ≤ (x9 : Int) ∧ (x9 : Int) < (8 : Nat) ∧ 0 ≤ (x9 : Int) ∧ (x9 : Int) < (8 : Nat) ∧ optS p8 (fun a11 => ∃ x12 : Int, w.drew.cell? (a10.add (Int.toNat x9 * 1)) = some (Value.int .i64 x12) ∧ ∃ x13 : Int, w.drew.cell? (a7.add (Int.toNat x9 * 1)) = some (Value.int .i64 x13) ∧ ∃ x14 : Int, ∃ w15 : World, (Builtin.max_ #[3, 3] 3 [(Value.int .i64 x12), (Value.int .i64 x13)].toArray).run P w.drew = .ok (Value.int .i64 x14) w15 ∧ 0 ≤ (x9 : Int) ∧ (x9 : Int) < (8 : Nat) ∧ St1 (a11.add (Int.toNat x9 * 1)) (Value.int .i64 x14) w15 (fun w16 => f97_s2 a7 p8 x9 w16 K Y0)))) := by kernel_rfl
theorem f97_lb0_eq (x4 : Int) (a5 : Addr) (p6 : Option Addr) (w : World) (K : KT) (Y0 : YT) : f97_lb0 x4 a5 p6 w K Y0 = (BIf (decide ((x4 : Int) < 8)) (f97_s1 a5 p6 x4 w K Y0) (K (Value.tuple [].toArray) w)) := by kernel_rfl
theorem f97_eq (p0 : Option Addr) (cs1 : Array Value) (w : World) (K : KT) : f97 p0 cs1 w K = (NewC cs1 116 w (fun n2 w3 => LoopE (f97_lp0 K) (Env.mk 22 [(5, (Value.int .i64 0)), (3, (Value.pointer (some (Addr.mk n2 0 none)))), (0, (Value.pointer p0))] []) w3)) := by kernel_rfl
theorem c97_eq : Go.Proofs.Try.f97.body = some c97 := by kernel_rfl
theorem f97_un (p0 : Option Addr) (cs1 : Array Value) (w : World) (K : KT) : f97 p0 cs1 w K = CS P c97 none (resT Go.Proofs.Try.f97.results.toList) (resT Go.Proofs.Try.f97.results.toList) (bodyK P Go.Proofs.Try.f97.results.toList K) (env0 Go.Proofs.Try.f97.ntmps [(Value.pointer p0), (Value.agg cs1)]) w := by kernel_rfl
theorem f97_ok (p0 : Option Addr) (cs1 : Array Value) (w : World) (K : KT) (h : f97 p0 cs1 w K) : CallL P 97 [(Value.pointer p0), (Value.agg cs1)] w K := calls_of_CS Go.Proofs.Try.func97 c97_eq (Eq.mp (f97_un p0 cs1 w K) h)
/-! 58 candling.race.access -/
noncomputable def c58 : Code := match Go.Proofs.Try.f58.body with
  | some c => c
  | none => .skip
noncomputable def rs58 : List ResultVar := Go.Proofs.Try.f58.results.toList
abbrev f58_kb (K : KT) : Exit → YT := bodyK P rs58 K
def f58 (s0a : Option Addr) (s0l s0c : Nat) (x1 x2 : Int) (w : World) (K : KT) : Prop := CS P c58 none [6, 7] [6, 7] (f58_kb K) (env0 54 [(Value.slice s0a s0l s0c), (Value.int .i64 x1), (Value.int .u32 x2)]) w
abbrev f58_k0 (K : KT) : Exit → YT := kseq P (codeAt c58 [0]) (codeAt c58 [1]) none [6, 7] [6, 7] (f58_kb K)
abbrev f58_k1 (K : KT) : Exit → YT := kseq P (codeAt c58 [1, 0]) (codeAt c58 [1, 1]) none [6, 7] [6, 7] (f58_kb K)
abbrev f58_k2 (K : KT) : Exit → YT := kseq P (codeAt c58 [1, 1, 0]) (codeAt c58 [1, 1, 1]) none [6, 7] [6, 7] (f58_kb K)
abbrev f58_k3 (K : KT) : Exit → YT := kseq P (codeAt c58 [1, 1, 0, 0]) (codeAt c58 [1, 1, 0, 1]) none [6, 9, 8, 1, 0] [6, 7] (f58_k2 K)
def f58_s0 (b12 : Bool) (a13 : Addr) (b14 b15 : Bool) (x16 : Int) (s17a : Option Addr) (s17l s17c : Nat) (w : World) (K : KT) : Prop := Join (fun e w => CS P (codeAt c58 [1, 1, 0, 1]) none [6, 9, 8, 1, 0] [6, 7] (f58_k2 K) e w) (Env.mk 54 [(38, (Value.bool b12)), (6, (Value.pointer (some a13))), (9, (Value.bool b14)), (8, (Value.bool b15)), (1, (Value.int .i64 x16)), (0, (Value.slice s17a s17l s17c))] []) w
abbrev f58_k4 (K : KT) : Exit → YT := kseq P (codeAt c58 [1, 1, 0, 1, 0, 0]) (codeAt c58 [1, 1, 0, 1, 0, 1]) none [6, 9, 8, 1, 0] [6, 7] (f58_k2 K)
def f58_s1 (a21 : Addr) (b22 b23 : Bool) (x24 : Int) (s25a : Option Addr) (s25l s25c : Nat) (w : World) (K : KT) : Prop := Join (fun e w => CS P (codeAt c58 [1, 1, 1]) none [6, 7] [6, 7] (f58_kb K) e w) (Env.mk 54 [(6, (Value.pointer (some a21))), (9, (Value.bool b22)), (8, (Value.bool b23)), (1, (Value.int .i64 x24)), (0, (Value.slice s25a s25l s25c))] []) w
abbrev f58_k5 (K : KT) : Exit → YT := kseq P (codeAt c58 [1, 1, 1, 0]) (codeAt c58 [1, 1, 1, 1]) none [6, 7] [6, 7] (f58_kb K)
def f58_s2 (a32 : Addr) (b33 : Bool) (w : World) (K : KT) : Prop := Join (fun e w => CS P (codeAt c58 [1, 1, 1, 1]) none [6, 7] [6, 7] (f58_kb K) e w) (Env.mk 54 [(6, (Value.pointer (some a32))), (7, (Value.bool b33))] []) w
theorem f58_s2_eq (a32 : Addr) (b33 : Bool) (w : World) (K : KT) : f58_s2 a32 b33 w K = (LdA 5 a32 w (fun cs34 => K (Value.tuple [(Value.agg cs34), (Value.bool b33)].toArray) w)) := by kernel_rfl
theorem f58_s1_eq (a21 : Addr) (b22 b23 : Bool) (x24 : Int) (s25a : Option Addr) (s25l s25c : Nat) (w : World) (K : KT) : f58_s1 a21 b22 b23 x24 s25a s25l s25c w K = (optS s25a (fun a26 => 0 ≤ (x24 : Int) ∧ (x24 : Int) < (s25l : Nat) ∧ optS s25a (fun a27 => 0 ≤ (x24 : Int) ∧ (x24 : Int) < (s25l : Nat) ∧ ∃ x28 : Int, w.drew.cell? ((a26.add (Int.toNat x24 * 6)).add 1) = some (Value.int .i64 x28) ∧ ∃ x29 : Int, w.drew.cell? ((a27.add (Int.toNat x24 * 6)).add 2) = some (Value.int .u32 x29) ∧ ∃ cs30 : Array Value, (∀ wq, (Instr.build 45 [(0, (Value.int .i64 x24)), (1, (Value.int .i64 x28)), (2, (Value.int .u32 x29)), (3, (Value.bool b23)), (4, (Value.bool b22))].toArray).run P wq = .ok (Value.agg cs30) wq) ∧ StA 5 a21 cs30 w.drew (fun w31 => f58_s2 a21 true w31 K)))) := by kernel_rfl
theorem f58_s0_eq (b12 : Bool) (a13 : Addr) (b14 b15 : Bool) (x16 : Int) (s17a : Option Addr) (s17l s17c : Nat) (w : World) (K : KT) : f58_s0 b12 a13 b14 b15 x16 s17a s17l s17c w K = (BIf b12 (∃ cs18 : Array Value, (∀ wq, (Instr.build 45 [].toArray).run P wq = .ok (Value.agg cs18) wq) ∧ StA 5 a13 cs18 w (fun w19 => LdA 5 a13 w19 (fun cs20 => K (Value.tuple [(Value.agg cs20), (Value.bool false)].toArray) w19))) (f58_s1 a13 b14 b15 x16 s17a s17l s17c w K)) := by kernel_rfl
theorem f58_eq (s0a : Option Addr) (s0l s0c : Nat) (x1 x2 : Int) (w : World) (K : KT) : f58 s0a s0l s0c x1 x2 w K = (NewC (zcells P 45) 45 w (fun n3 w4 => optS s0a (fun a5 => 0 ≤ (x1 : Int) ∧ (x1 : Int) < (s0l : Nat) ∧ LdA 6 (a5.add (Int.toNat x1 * 6)) w4 (fun cs6 => CallL P 64 [(Value.agg cs6)] w4 (fun r7 w8 => ∃ b9 : Bool, ∃ b10 : Bool, ∃ b11 : Bool, r7 = (Value.tuple [(Value.bool b9), (Value.bool b10), (Value.bool b11)].toArray) ∧ BIf (!b11) (f58_s0 true (Addr.mk n3 0 none) b10 b9 x1 s0a s0l s0c w8.drew K) (optS s0a (fun a35 => 0 ≤ (x1 : Int) ∧ (x1 : Int) < (s0l : Nat) ∧ optS s0a (fun a36 => 0 ≤ (x1 : Int) ∧ (x1 : Int) < (s0l : Nat) ∧ ∃ x37 : Int, w8.drew.cell? ((a35.add (Int.toNat x1 * 6)).add 3) = some (Value.int .u32 x37) ∧ ∃ x38 : Int, w8.drew.cell? ((a36.add (Int.toNat x1 * 6)).add 5) = some (Value.int .i64 x38) ∧ f58_s0 (decide (((IntKind.wrap .u64 (IntKind.wrap .u32 ((x2 : Int) - x37))) : Int) ≥ (IntKind.wrap .u64 x38))) (Addr.mk n3 0 none) b10 b9 x1 s0a s0l s0c w8.drew K)))))))) := by kernel_rfl
theorem c58_eq : Go.Proofs.Try.f58.body = some c58 := by kernel_rfl
theorem f58_un (s0a : Option Addr) (s0l s0c : Nat) (x1 x2 : Int) (w : World) (K : KT) : f58 s0a s0l s0c x1 x2 w K = CS P c58 none (resT Go.Proofs.Try.f58.results.toList) (resT Go.Proofs.Try.f58.results.toList) (bodyK P Go.Proofs.Try.f58.results.toList K) (env0 Go.Proofs.Try.f58.ntmps [(Value.slice s0a s0l s0c), (Value.int .i64 x1), (Value.int .u32 x2)]) w := by kernel_rfl
theorem f58_ok (s0a : Option Addr) (s0l s0c : Nat) (x1 x2 : Int) (w : World) (K : KT) (h : f58 s0a s0l s0c x1 x2 w K) : CallL P 58 [(Value.slice s0a s0l s0c), (Value.int .i64 x1), (Value.int .u32 x2)] w K := calls_of_CS Go.Proofs.Try.func58 c58_eq (Eq.mp (f58_un s0a s0l s0c x1 x2 w K) h)
/-! 131 (*candling.race.plan).other -/
noncomputable def c131 : Code := match Go.Proofs.Try.f131.body with
  | some c => c
  | none => .skip
noncomputable def rs131 : List ResultVar := Go.Proofs.Try.f131.results.toList
abbrev f131_kb (K : KT) : Exit → YT := bodyK P rs131 K
def f131 (p0 : Option Addr) (w : World) (K : KT) : Prop := CS P c131 none [2, 3] [2, 3] (f131_kb K) (env0 17 [(Value.pointer p0)]) w
abbrev f131_k0 (K : KT) : Exit → YT := kseq P (codeAt c131 [0]) (codeAt c131 [1]) none [2, 3] [2, 3] (f131_kb K)
abbrev f131_k1 (K : KT) : Exit → YT := kseq P (codeAt c131 [1, 0]) (codeAt c131 [1, 1]) none [2, 3] [2, 3] (f131_kb K)
abbrev f131_k2 (K : KT) : Exit → YT := kseq P (codeAt c131 [1, 1, 0]) (codeAt c131 [1, 1, 1]) none [2, 3] [2, 3] (f131_kb K)
def f131_s0 (x3 : Int) (b4 : Bool) (w : World) (K : KT) : Prop := Join (fun e w => CS P (codeAt c131 [1, 1, 1]) none [2, 3] [2, 3] (f131_kb K) e w) (Env.mk 17 [(2, (Value.int .i64 x3)), (3, (Value.bool b4))] []) w
theorem f131_s0_eq (x3 : Int) (b4 : Bool) (w : World) (K : KT) : f131_s0 x3 b4 w K = (K (Value.tuple [(Value.int .i64 x3), (Value.bool b4)].toArray) w) := by kernel_rfl
theorem f131_eq (p0 : Option Addr) (w : World) (K : KT) : f131 p0 w K = (optS p0 (fun a1 => ∃ x2 : Int, w.cell? ((a1.add 1).add 5) = some (Value.int .i64 x2) ∧ BIf (decide ((x2 : Int) ≥ 0)) (f131_s0 x2 (decide ((x2 : Int) < 8)) w K) (f131_s0 x2 false w K))) := by kernel_rfl
theorem c131_eq : Go.Proofs.Try.f131.body = some c131 := by kernel_rfl
theorem f131_un (p0 : Option Addr) (w : World) (K : KT) : f131 p0 w K = CS P c131 none (resT Go.Proofs.Try.f131.results.toList) (resT Go.Proofs.Try.f131.results.toList) (bodyK P Go.Proofs.Try.f131.results.toList K) (env0 Go.Proofs.Try.f131.ntmps [(Value.pointer p0)]) w := by kernel_rfl
theorem f131_ok (p0 : Option Addr) (w : World) (K : KT) (h : f131 p0 w K) : CallL P 131 [(Value.pointer p0)] w K := calls_of_CS Go.Proofs.Try.func131 c131_eq (Eq.mp (f131_un p0 w K) h)
end Go.Fx.Try
namespace Go.Fx.Try
set_option maxRecDepth 100000
open Go Go.Fx
/-! 39 candling.race.New -/
noncomputable def c39 : Code := match Go.Proofs.Try.f39.body with
  | some c => c
  | none => .skip
noncomputable def rs39 : List ResultVar := Go.Proofs.Try.f39.results.toList
abbrev f39_kb (K : KT) : Exit → YT := bodyK P rs39 K
def f39 (w : World) (K : KT) : Prop := CS P c39 none [0] [0] (f39_kb K) (env0 6 []) w
abbrev f39_k0 (K : KT) : Exit → YT := kseq P (codeAt c39 [0]) (codeAt c39 [1]) none [0] [0] (f39_kb K)
abbrev f39_k1 (K : KT) : Exit → YT := kseq P (codeAt c39 [1, 0]) (codeAt c39 [1, 1]) none [0] [0] (f39_kb K)
theorem f39_eq (w : World) (K : KT) : f39 w K = (CallL P 62 [] w (fun r0 w1 => ∃ cs2 : Array Value, r0 = (Value.agg cs2) ∧ NewO (.map #[] 0) w1 (fun n3 w4 => NewO (.map #[] 0) w4 (fun n5 w6 => ∃ cs7 : Array Value, (∀ wq, (Instr.build 126 [(0, (Value.agg cs2)), (1, (Value.bool true)), (3, (Value.map (some n3))), (4, (Value.map (some n5)))].toArray).run P wq = .ok (Value.agg cs7) wq) ∧ NewC cs7 126 w6 (fun n8 w9 => K (Value.pointer (some (Addr.mk n8 0 none))) w9))))) := by kernel_rfl
theorem c39_eq : Go.Proofs.Try.f39.body = some c39 := by kernel_rfl
theorem f39_un (w : World) (K : KT) : f39 w K = CS P c39 none (resT Go.Proofs.Try.f39.results.toList) (resT Go.Proofs.Try.f39.results.toList) (bodyK P Go.Proofs.Try.f39.results.toList K) (env0 Go.Proofs.Try.f39.ntmps []) w := by kernel_rfl
theorem f39_ok (w : World) (K : KT) (h : f39 w K) : CallL P 39 [] w K := calls_of_CS Go.Proofs.Try.func39 c39_eq (Eq.mp (f39_un w K) h)
/-! 62 candling.race.begin -/
noncomputable def c62 : Code := match Go.Proofs.Try.f62.body with
  | some c => c
  | none => .skip
noncomputable def rs62 : List ResultVar := Go.Proofs.Try.f62.results.toList
abbrev f62_kb (K : KT) : Exit → YT := bodyK P rs62 K
def f62 (w : World) (K : KT) : Prop := CS P c62 none [0] [0] (f62_kb K) (env0 8 []) w
abbrev f62_k0 (K : KT) : Exit → YT := kseq P (codeAt c62 [0]) (codeAt c62 [1]) none [0] [0] (f62_kb K)
abbrev f62_k1 (K : KT) : Exit → YT := kseq P (codeAt c62 [1, 0]) (codeAt c62 [1, 1]) none [0] [0] (f62_kb K)
abbrev f62_k2 (K : KT) : Exit → YT := kseq P (codeAt c62 [1, 1, 0]) (codeAt c62 [1, 1, 1]) none [0] [0] (f62_kb K)
abbrev f62_k3 (K : KT) : Exit → YT := kseq P (codeAt c62 [1, 1, 1, 0]) (codeAt c62 [1, 1, 1, 1]) none [0] [0] (f62_kb K)
theorem f62_eq (w : World) (K : KT) : f62 w K = (NewC (zcells P 121) 121 w (fun n0 w1 => NewO (.map #[] 0) w1 (fun n2 w3 => NewO (.map #[] 0) w3 (fun n4 w5 => ∃ cs6 : Array Value, (∀ wq, (Instr.build 121 [(4, (Value.map (some n2))), (5, (Value.map (some n4)))].toArray).run P wq = .ok (Value.agg cs6) wq) ∧ NewC (zcells P 121) 121 w5 (fun n7 w8 => StA 90 (Addr.mk n7 0 none) cs6 w8 (fun w9 => 0 ≤ (0 : Int) ∧ (0 : Int) < (8 : Nat) ∧ St1 (((Addr.mk n7 0 none).add 64).add (Int.toNat 0 * 1)) (Value.bool true) w9 (fun w10 => LdA 90 (Addr.mk n7 0 none) w10 (fun cs11 => StA 90 (Addr.mk n0 0 none) cs11 w10 (fun w12 => LdA 90 (Addr.mk n0 0 none) w12 (fun cs13 => K (Value.agg cs13) w12)))))))))) := by kernel_rfl
theorem c62_eq : Go.Proofs.Try.f62.body = some c62 := by kernel_rfl
theorem f62_un (w : World) (K : KT) : f62 w K = CS P c62 none (resT Go.Proofs.Try.f62.results.toList) (resT Go.Proofs.Try.f62.results.toList) (bodyK P Go.Proofs.Try.f62.results.toList K) (env0 Go.Proofs.Try.f62.ntmps []) w := by kernel_rfl
theorem f62_ok (w : World) (K : KT) (h : f62 w K) : CallL P 62 [] w K := calls_of_CS Go.Proofs.Try.func62 c62_eq (Eq.mp (f62_un w K) h)
/-! 127 (*candling.race.plan).tick -/
noncomputable def c127 : Code := match Go.Proofs.Try.f127.body with
  | some c => c
  | none => .skip
noncomputable def rs127 : List ResultVar := Go.Proofs.Try.f127.results.toList
abbrev f127_kb (K : KT) : Exit → YT := bodyK P rs127 K
def f127 (p0 : Option Addr) (cs1 : Array Value) (w : World) (K : KT) : Prop := CS P c127 none [] [] (f127_kb K) (env0 46 [(Value.pointer p0), (Value.agg cs1)]) w
abbrev f127_k0 (K : KT) : Exit → YT := kseq P (codeAt c127 [0]) (codeAt c127 [1]) none [] [] (f127_kb K)
abbrev f127_k1 (K : KT) : Exit → YT := kseq P (codeAt c127 [1, 0]) (codeAt c127 [1, 1]) none [] [] (f127_kb K)
abbrev f127_k2 (K : KT) : Exit → YT := kseq P (codeAt c127 [1, 1, 0]) (codeAt c127 [1, 1, 1]) none [] [] (f127_kb K)
def f127_s0 (a18 : Addr) (p19 : Option Addr) (w : World) (K : KT) : Prop := Join (fun e w => CS P (codeAt c127 [1, 1, 1]) none [] [] (f127_kb K) e w) (Env.mk 46 [(3, (Value.pointer (some a18))), (0, (Value.pointer p19))] []) w
abbrev f127_k3 (K : KT) : Exit → YT := kseq P (codeAt c127 [1, 1, 1, 0]) (codeAt c127 [1, 1, 1, 1]) none [] [] (f127_kb K)
def f127_s1 (a25 : Addr) (p26 : Option Addr) (w : World) (K : KT) : Prop := Join (fun e w => CS P (codeAt c127 [1, 1, 1, 1]) none [] [] (f127_kb K) e w) (Env.mk 46 [(3, (Value.pointer (some a25))), (0, (Value.pointer p26))] []) w
abbrev f127_k4 (K : KT) : Exit → YT := kseq P (codeAt c127 [1, 1, 1, 1, 0]) (codeAt c127 [1, 1, 1, 1, 1]) none [] [] (f127_kb K)
theorem f127_s1_eq (a25 : Addr) (p26 : Option Addr) (w : World) (K : KT) : f127_s1 a25 p26 w K = (optS p26 (fun a27 => ∃ x28 : Int, w.cell? (a27.add 16) = some (Value.int .i64 x28) ∧ BIf ((x28 : Int) == 0) (optS p26 (fun a29 => ∃ x30 : Int, w.drew.cell? (a25.add 1) = some (Value.int .i64 x30) ∧ 0 ≤ (x30 : Int) ∧ (x30 : Int) < (8 : Nat) ∧ ∃ x31 : Int, w.drew.cell? ((a29.add 8).add (Int.toNat x30 * 1)) = some (Value.int .i64 x31) ∧ optS p26 (fun a32 => St1 (a32.add 16) (Value.int .i64 x31) w.drew (fun w33 => K (Value.tuple [].toArray) w33)))) (K (Value.tuple [].toArray) w))) := by kernel_rfl
theorem f127_s0_eq (a18 : Addr) (p19 : Option Addr) (w : World) (K : KT) : f127_s0 a18 p19 w K = (optS p19 (fun a20 => optS p19 (fun a21 => ∃ x22 : Int, w.drew.cell? (a18.add 1) = some (Value.int .i64 x22) ∧ 0 ≤ (x22 : Int) ∧ (x22 : Int) < (8 : Nat) ∧ ∃ x23 : Int, w.drew.cell? ((a20.add 8).add (Int.toNat x22 * 1)) = some (Value.int .i64 x23) ∧ 0 ≤ (x22 : Int) ∧ (x22 : Int) < (8 : Nat) ∧ St1 ((a21.add 8).add (Int.toNat x22 * 1)) (Value.int .i64 (IntKind.wrap .i64 ((x23 : Int) + 1))) w.drew (fun w24 => f127_s1 a18 p19 w24 K)))) := by kernel_rfl
theorem f127_eq (p0 : Option Addr) (cs1 : Array Value) (w : World) (K : KT) : f127 p0 cs1 w K = (NewC cs1 99 w (fun n2 w3 => optS p0 (fun a4 => ∃ x5 : Int, w3.cell? ((a4.add 1).add 1) = some (Value.int .i64 x5) ∧ St1 ((Addr.mk n2 0 none).add 1) (Value.int .i64 x5) w3 (fun w6 => optS p0 (fun a7 => LdA 4 (Addr.mk n2 0 none) w6.drew (fun cs8 => (∃ (s9a : Option Addr) (s9l s9c : Nat), w6.drew.cell? (a7.add 7) = some (Value.slice s9a s9l s9c) ∧ sizesAre 4 [(Value.agg cs8)] ∧ NewC (([(Value.agg cs8)].map fun (v : Value) => v.cells.toList).flatten.toArray) 99 w6.drew (fun n13 w11 => ∃ (s14a : Option Addr) (s14l s14c : Nat), ∃ w15 : World, (Builtin.append_ #[57, 57] 57 [(Value.slice s9a s9l s9c), (Value.slice (some (Addr.mk n13 0 none)) 1 1)].toArray).run P w11 = .ok (Value.slice s14a s14l s14c) w15 ∧ optS p0 (fun a16 => St1 (a16.add 7) (Value.slice s14a s14l s14c) w15 (fun w17 => f127_s0 (Addr.mk n2 0 none) p0 w17 K)))) ∧ (sizesAre 4 [(Value.agg cs8)] ∧ NewC (([(Value.agg cs8)].map fun (v : Value) => v.cells.toList).flatten.toArray) 99 w6.drew (fun n37 w35 => ∃ (s38a : Option Addr) (s38l s38c : Nat), w35.cell? (a7.add 7) = some (Value.slice s38a s38l s38c) ∧ ∃ (s39a : Option Addr) (s39l s39c : Nat), ∃ w40 : World, (Builtin.append_ #[57, 57] 57 [(Value.slice s38a s38l s38c), (Value.slice (some (Addr.mk n37 0 none)) 1 1)].toArray).run P w35 = .ok (Value.slice s39a s39l s39c) w40 ∧ optS p0 (fun a41 => St1 (a41.add 7) (Value.slice s39a s39l s39c) w40 (fun w42 => f127_s0 (Addr.mk n2 0 none) p0 w42 K)))))))))) := by kernel_rfl
theorem c127_eq : Go.Proofs.Try.f127.body = some c127 := by kernel_rfl
theorem f127_un (p0 : Option Addr) (cs1 : Array Value) (w : World) (K : KT) : f127 p0 cs1 w K = CS P c127 none (resT Go.Proofs.Try.f127.results.toList) (resT Go.Proofs.Try.f127.results.toList) (bodyK P Go.Proofs.Try.f127.results.toList K) (env0 Go.Proofs.Try.f127.ntmps [(Value.pointer p0), (Value.agg cs1)]) w := by kernel_rfl
theorem f127_ok (p0 : Option Addr) (cs1 : Array Value) (w : World) (K : KT) (h : f127 p0 cs1 w K) : CallL P 127 [(Value.pointer p0), (Value.agg cs1)] w K := calls_of_CS Go.Proofs.Try.func127 c127_eq (Eq.mp (f127_un p0 cs1 w K) h)
/-! 128 (*candling.race.plan).number -/
noncomputable def c128 : Code := match Go.Proofs.Try.f128.body with
  | some c => c
  | none => .skip
noncomputable def rs128 : List ResultVar := Go.Proofs.Try.f128.results.toList
abbrev f128_kb (K : KT) : Exit → YT := bodyK P rs128 K
def f128 (p0 : Option Addr) (cs1 : Array Value) (w : World) (K : KT) : Prop := CS P c128 none [4] [4] (f128_kb K) (env0 66 [(Value.pointer p0), (Value.agg cs1)]) w
abbrev f128_k0 (K : KT) : Exit → YT := kseq P (codeAt c128 [0]) (codeAt c128 [1]) none [4] [4] (f128_kb K)
abbrev f128_k1 (K : KT) : Exit → YT := kseq P (codeAt c128 [1, 0]) (codeAt c128 [1, 1]) none [4] [4] (f128_kb K)
abbrev f128_k2 (K : KT) : Exit → YT := kseq P (codeAt c128 [1, 0, 0]) (codeAt c128 [1, 0, 1]) none [0, 3] [4] (f128_k1 K)
abbrev f128_k3 (K : KT) : Exit → YT := kseq P (codeAt c128 [1, 0, 1, 0]) (codeAt c128 [1, 0, 1, 1]) none [0, 3] [4] (f128_k1 K)
abbrev f128_k4 (K : KT) : Exit → YT := kseq P (codeAt c128 [1, 0, 1, 1, 0, 0]) (codeAt c128 [1, 0, 1, 1, 0, 1]) none [0, 3] [4] (f128_k1 K)
def f128_s0 (p11 : Option Addr) (a12 : Addr) (w : World) (K : KT) : Prop := Join (fun e w => CS P (codeAt c128 [1, 1]) none [4] [4] (f128_kb K) e w) (Env.mk 66 [(0, (Value.pointer p11)), (3, (Value.pointer (some a12)))] []) w
abbrev f128_k5 (K : KT) : Exit → YT := kseq P (codeAt c128 [1, 1, 0]) (codeAt c128 [1, 1, 1]) none [4] [4] (f128_kb K)
abbrev f128_k6 (K : KT) : Exit → YT := kseq P (codeAt c128 [1, 1, 1, 0]) (codeAt c128 [1, 1, 1, 1]) none [4] [4] (f128_kb K)
abbrev f128_k7 (K : KT) : Exit → YT := kseq P (codeAt c128 [1, 1, 1, 0, 0]) (codeAt c128 [1, 1, 1, 0, 1]) none [7] [4] (f128_k6 K)
abbrev f128_k8 (K : KT) : Exit → YT := kseq P (codeAt c128 [1, 1, 1, 0, 1, 0, 0]) (codeAt c128 [1, 1, 1, 0, 1, 0, 1]) none [7] [4] (f128_k6 K)
abbrev f128_k9 (K : KT) : Exit → YT := kseq P (codeAt c128 [1, 1, 1, 0, 1, 0, 1, 0]) (codeAt c128 [1, 1, 1, 0, 1, 0, 1, 1]) none [7] [4] (f128_k6 K)
def f128_s1 (x30 : Int) (p31 : Option Addr) (w : World) (K : KT) : Prop := Join (fun e w => CS P (codeAt c128 [1, 1, 1, 0, 1, 0, 1, 1]) none [7] [4] (f128_k6 K) e w) (Env.mk 66 [(7, (Value.int .i64 x30)), (0, (Value.pointer p31))] []) w
def f128_s2 (x36 : Int) (w : World) (K : KT) : Prop := Join (fun e w => CS P (codeAt c128 [1, 1, 1, 1]) none [4] [4] (f128_kb K) e w) (Env.mk 66 [(7, (Value.int .i64 x36))] []) w
abbrev f128_k10 (K : KT) : Exit → YT := kseq P (codeAt c128 [1, 1, 1, 1, 0]) (codeAt c128 [1, 1, 1, 1, 1]) none [4] [4] (f128_kb K)
theorem f128_s2_eq (x36 : Int) (w : World) (K : KT) : f128_s2 x36 w K = (K (Value.int .i64 x36) w) := by kernel_rfl
theorem f128_s1_eq (x30 : Int) (p31 : Option Addr) (w : World) (K : KT) : f128_s1 x30 p31 w K = (optS p31 (fun a32 => ∃ b33 : Bool, w.cell? (a32.add 22) = some (Value.bool b33) ∧ BIf b33 (optS p31 (fun a34 => St1 (a34.add 22) (Value.bool true) w (fun w35 => f128_s2 x30 w35 K))) (optS p31 (fun a37 => St1 (a37.add 22) (Value.bool (decide ((x30 : Int) ≥ 65536))) w (fun w38 => f128_s2 x30 w38 K))))) := by kernel_rfl
theorem f128_s0_eq (p11 : Option Addr) (a12 : Addr) (w : World) (K : KT) : f128_s0 p11 a12 w K = (optS p11 (fun a13 => ∃ m14 : Option Nat, w.drew.cell? (a13.add 18) = some (Value.map m14) ∧ LdA 2 a12 w.drew (fun cs15 => ∃ x16 : Int, ∃ b17 : Bool, (∀ wq, Ext w.drew wq → (Instr.lookup 119 (Value.map m14) (Value.agg cs15) true).run P wq = .ok (Value.tuple [(Value.int .i64 x16), (Value.bool b17)].toArray) wq) ∧ BIf (!b17) (optS p11 (fun a18 => optS p11 (fun a19 => ∃ p20 : Option Addr, w.drew.drew.cell? a18 = some (Value.pointer p20) ∧ optS p20 (fun a21 => ∃ m22 : Option Nat, w.drew.drew.cell? (a21.add 89) = some (Value.map m22) ∧ ∃ x23 : Int, (∀ wq, Ext w.drew.drew wq → (Builtin.len_ #[119] 3 [(Value.map m22)].toArray).run P wq = .ok (Value.int .i64 x23) wq) ∧ ∃ m24 : Option Nat, w.drew.drew.cell? (a19.add 18) = some (Value.map m24) ∧ ∃ x25 : Int, (∀ wq, Ext w.drew.drew wq → (Builtin.len_ #[119] 3 [(Value.map m24)].toArray).run P wq = .ok (Value.int .i64 x25) wq) ∧ optS p11 (fun a26 => ∃ m27 : Option Nat, w.drew.drew.drew.cell? (a26.add 18) = some (Value.map m27) ∧ LdA 2 a12 w.drew.drew.drew (fun cs28 => ∃ w29 : World, (Instr.mapUpdate 119 (Value.map m27) (Value.agg cs28) (Value.int .i64 (IntKind.wrap .i64 ((x23 : Int) + x25)))).run P w.drew.drew.drew = .ok () w29 ∧ f128_s1 (IntKind.wrap .i64 ((x23 : Int) + x25)) p11 w29 K)))))) (f128_s2 x16 w.drew K)))) := by kernel_rfl
theorem f128_eq (p0 : Option Addr) (cs1 : Array Value) (w : World) (K : KT) : f128 p0 cs1 w K = (NewC cs1 147 w (fun n2 w3 => optS p0 (fun a4 => ∃ p5 : Option Addr, w3.drew.cell? a4 = some (Value.pointer p5) ∧ optS p5 (fun a6 => ∃ m7 : Option Nat, w3.drew.cell? (a6.add 89) = some (Value.map m7) ∧ LdA 2 (Addr.mk n2 0 none) w3.drew (fun cs8 => ∃ x9 : Int, ∃ b10 : Bool, (∀ wq, Ext w3.drew wq → (Instr.lookup 119 (Value.map m7) (Value.agg cs8) true).run P wq = .ok (Value.tuple [(Value.int .i64 x9), (Value.bool b10)].toArray) wq) ∧ BIf b10 (K (Value.int .i64 x9) w3.drew) (f128_s0 p0 (Addr.mk n2 0 none) w3.drew K)))))) := by kernel_rfl
theorem c128_eq : Go.Proofs.Try.f128.body = some c128 := by kernel_rfl
theorem f128_un (p0 : Option Addr) (cs1 : Array Value) (w : World) (K : KT) : f128 p0 cs1 w K = CS P c128 none (resT Go.Proofs.Try.f128.results.toList) (resT Go.Proofs.Try.f128.results.toList) (bodyK P Go.Proofs.Try.f128.results.toList K) (env0 Go.Proofs.Try.f128.ntmps [(Value.pointer p0), (Value.agg cs1)]) w := by kernel_rfl
theorem f128_ok (p0 : Option Addr) (cs1 : Array Value) (w : World) (K : KT) (h : f128 p0 cs1 w K) : CallL P 128 [(Value.pointer p0), (Value.agg cs1)] w K := calls_of_CS Go.Proofs.Try.func128 c128_eq (Eq.mp (f128_un p0 cs1 w K) h)
/-! 129 (*candling.race.plan).acquire -/
noncomputable def c129 : Code := match Go.Proofs.Try.f129.body with
  | some c => c
  | none => .skip
noncomputable def rs129 : List ResultVar := Go.Proofs.Try.f129.results.toList
abbrev f129_kb (K : KT) : Exit → YT := bodyK P rs129 K
def f129 (p0 : Option Addr) (cs1 : Array Value) (w : World) (K : KT) : Prop := CS P c129 none [] [] (f129_kb K) (env0 31 [(Value.pointer p0), (Value.agg cs1)]) w
abbrev f129_k0 (K : KT) : Exit → YT := kseq P (codeAt c129 [0]) (codeAt c129 [1]) none [] [] (f129_kb K)
abbrev f129_k1 (K : KT) : Exit → YT := kseq P (codeAt c129 [1, 0]) (codeAt c129 [1, 1]) none [] [] (f129_kb K)
def f129_s0 (a12 : Addr) (p13 : Option Addr) (a14 : Addr) (b15 : Bool) (w : World) (K : KT) : Prop := Join (fun e w => CS P (codeAt c129 [1, 1]) none [] [] (f129_kb K) e w) (Env.mk 31 [(4, (Value.pointer (some a12))), (0, (Value.pointer p13)), (3, (Value.pointer (some a14))), (5, (Value.bool b15))] []) w
abbrev f129_k2 (K : KT) : Exit → YT := kseq P (codeAt c129 [1, 1, 0]) (codeAt c129 [1, 1, 1]) none [] [] (f129_kb K)
abbrev f129_k3 (K : KT) : Exit → YT := kseq P (codeAt c129 [1, 1, 0, 0]) (codeAt c129 [1, 1, 0, 1]) none [4, 0] [] (f129_k2 K)
def f129_s1 (a23 : Addr) (p24 : Option Addr) (w : World) (K : KT) : Prop := Join (fun e w => CS P (codeAt c129 [1, 1, 1]) none [] [] (f129_kb K) e w) (Env.mk 31 [(4, (Value.pointer (some a23))), (0, (Value.pointer p24))] []) w
theorem f129_s1_eq (a23 : Addr) (p24 : Option Addr) (w : World) (K : KT) : f129_s1 a23 p24 w K = (optS p24 (fun a25 => LdA 8 a23 w.drew (fun cs26 => CallL P 97 [(Value.pointer (some (a25.add 8))), (Value.agg cs26)] w.drew (fun r27 w28 => r27 = (Value.tuple [].toArray) ∧ K (Value.tuple [].toArray) w28)))) := by kernel_rfl
theorem f129_s0_eq (a12 : Addr) (p13 : Option Addr) (a14 : Addr) (b15 : Bool) (w : World) (K : KT) : f129_s0 a12 p13 a14 b15 w K = (BIf (!b15) (optS p13 (fun a16 => ∃ p17 : Option Addr, w.drew.cell? a16 = some (Value.pointer p17) ∧ optS p17 (fun a18 => ∃ m19 : Option Nat, w.drew.cell? (a18.add 88) = some (Value.map m19) ∧ LdA 2 a14 w.drew (fun cs20 => ∃ cs21 : Array Value, (∀ wq, Ext w.drew wq → (Instr.lookup 118 (Value.map m19) (Value.agg cs20) false).run P wq = .ok (Value.agg cs21) wq) ∧ StA 8 a12 cs21 w.drew (fun w22 => f129_s1 a12 p13 w22 K))))) (f129_s1 a12 p13 w K)) := by kernel_rfl
theorem f129_eq (p0 : Option Addr) (cs1 : Array Value) (w : World) (K : KT) : f129 p0 cs1 w K = (NewC cs1 147 w (fun n2 w3 => optS p0 (fun a4 => ∃ m5 : Option Nat, w3.drew.cell? (a4.add 17) = some (Value.map m5) ∧ LdA 2 (Addr.mk n2 0 none) w3.drew (fun cs6 => ∃ cs7 : Array Value, ∃ b8 : Bool, (∀ wq, Ext w3.drew wq → (Instr.lookup 118 (Value.map m5) (Value.agg cs6) true).run P wq = .ok (Value.tuple [(Value.agg cs7), (Value.bool b8)].toArray) wq) ∧ NewC (zcells P 116) 116 w3.drew (fun n9 w10 => StA 8 (Addr.mk n9 0 none) cs7 w10 (fun w11 => f129_s0 (Addr.mk n9 0 none) p0 (Addr.mk n2 0 none) b8 w11 K)))))) := by kernel_rfl
theorem c129_eq : Go.Proofs.Try.f129.body = some c129 := by kernel_rfl
theorem f129_un (p0 : Option Addr) (cs1 : Array Value) (w : World) (K : KT) : f129 p0 cs1 w K = CS P c129 none (resT Go.Proofs.Try.f129.results.toList) (resT Go.Proofs.Try.f129.results.toList) (bodyK P Go.Proofs.Try.f129.results.toList K) (env0 Go.Proofs.Try.f129.ntmps [(Value.pointer p0), (Value.agg cs1)]) w := by kernel_rfl
theorem f129_ok (p0 : Option Addr) (cs1 : Array Value) (w : World) (K : KT) (h : f129 p0 cs1 w K) : CallL P 129 [(Value.pointer p0), (Value.agg cs1)] w K := calls_of_CS Go.Proofs.Try.func129 c129_eq (Eq.mp (f129_un p0 cs1 w K) h)
/-! 130 (*candling.race.plan).release -/
noncomputable def c130 : Code := match Go.Proofs.Try.f130.body with
  | some c => c
  | none => .skip
noncomputable def rs130 : List ResultVar := Go.Proofs.Try.f130.results.toList
abbrev f130_kb (K : KT) : Exit → YT := bodyK P rs130 K
def f130 (p0 : Option Addr) (cs1 : Array Value) (w : World) (K : KT) : Prop := CS P c130 none [] [] (f130_kb K) (env0 40 [(Value.pointer p0), (Value.agg cs1)]) w
abbrev f130_k0 (K : KT) : Exit → YT := kseq P (codeAt c130 [0]) (codeAt c130 [1]) none [] [] (f130_kb K)
abbrev f130_k1 (K : KT) : Exit → YT := kseq P (codeAt c130 [1, 0]) (codeAt c130 [1, 1]) none [] [] (f130_kb K)
def f130_s0 (p12 : Option Addr) (a13 a14 : Addr) (b15 : Bool) (w : World) (K : KT) : Prop := Join (fun e w => CS P (codeAt c130 [1, 1]) none [] [] (f130_kb K) e w) (Env.mk 40 [(0, (Value.pointer p12)), (4, (Value.pointer (some a13))), (3, (Value.pointer (some a14))), (5, (Value.bool b15))] []) w
abbrev f130_k2 (K : KT) : Exit → YT := kseq P (codeAt c130 [1, 1, 0]) (codeAt c130 [1, 1, 1]) none [] [] (f130_kb K)
abbrev f130_k3 (K : KT) : Exit → YT := kseq P (codeAt c130 [1, 1, 0, 0]) (codeAt c130 [1, 1, 0, 1]) none [0, 4, 3] [] (f130_k2 K)
def f130_s1 (p23 : Option Addr) (a24 a25 : Addr) (w : World) (K : KT) : Prop := Join (fun e w => CS P (codeAt c130 [1, 1, 1]) none [] [] (f130_kb K) e w) (Env.mk 40 [(0, (Value.pointer p23)), (4, (Value.pointer (some a24))), (3, (Value.pointer (some a25)))] []) w
abbrev f130_k4 (K : KT) : Exit → YT := kseq P (codeAt c130 [1, 1, 1, 0]) (codeAt c130 [1, 1, 1, 1]) none [] [] (f130_kb K)
abbrev f130_k5 (K : KT) : Exit → YT := kseq P (codeAt c130 [1, 1, 1, 1, 0]) (codeAt c130 [1, 1, 1, 1, 1]) none [] [] (f130_kb K)
def f130_s2 (p35 : Option Addr) (w : World) (K : KT) : Prop := Join (fun e w => CS P (codeAt c130 [1, 1, 1, 1, 1]) none [] [] (f130_kb K) e w) (Env.mk 40 [(0, (Value.pointer p35))] []) w
theorem f130_s2_eq (p35 : Option Addr) (w : World) (K : KT) : f130_s2 p35 w K = (optS p35 (fun a36 => St1 (a36.add 21) (Value.bool true) w (fun w37 => K (Value.tuple [].toArray) w37))) := by kernel_rfl
theorem f130_s1_eq (p23 : Option Addr) (a24 a25 : Addr) (w : World) (K : KT) : f130_s1 p23 a24 a25 w K = (optS p23 (fun a26 => LdA 8 (a26.add 8) w (fun cs27 => CallL P 97 [(Value.pointer (some a24)), (Value.agg cs27)] w (fun r28 w29 => r28 = (Value.tuple [].toArray) ∧ optS p23 (fun a30 => ∃ m31 : Option Nat, w29.drew.cell? (a30.add 17) = some (Value.map m31) ∧ LdA 2 a25 w29.drew (fun cs32 => LdA 8 a24 w29.drew (fun cs33 => ∃ w34 : World, (Instr.mapUpdate 118 (Value.map m31) (Value.agg cs32) (Value.agg cs33)).run P w29.drew = .ok () w34 ∧ f130_s2 p23 w34 K))))))) := by kernel_rfl
theorem f130_s0_eq (p12 : Option Addr) (a13 a14 : Addr) (b15 : Bool) (w : World) (K : KT) : f130_s0 p12 a13 a14 b15 w K = (BIf (!b15) (optS p12 (fun a16 => ∃ p17 : Option Addr, w.drew.cell? a16 = some (Value.pointer p17) ∧ optS p17 (fun a18 => ∃ m19 : Option Nat, w.drew.cell? (a18.add 88) = some (Value.map m19) ∧ LdA 2 a14 w.drew (fun cs20 => ∃ cs21 : Array Value, (∀ wq, Ext w.drew wq → (Instr.lookup 118 (Value.map m19) (Value.agg cs20) false).run P wq = .ok (Value.agg cs21) wq) ∧ StA 8 a13 cs21 w.drew (fun w22 => f130_s1 p12 a13 a14 w22 K))))) (f130_s1 p12 a13 a14 w K)) := by kernel_rfl
theorem f130_eq (p0 : Option Addr) (cs1 : Array Value) (w : World) (K : KT) : f130 p0 cs1 w K = (NewC cs1 147 w (fun n2 w3 => optS p0 (fun a4 => ∃ m5 : Option Nat, w3.drew.cell? (a4.add 17) = some (Value.map m5) ∧ LdA 2 (Addr.mk n2 0 none) w3.drew (fun cs6 => ∃ cs7 : Array Value, ∃ b8 : Bool, (∀ wq, Ext w3.drew wq → (Instr.lookup 118 (Value.map m5) (Value.agg cs6) true).run P wq = .ok (Value.tuple [(Value.agg cs7), (Value.bool b8)].toArray) wq) ∧ NewC (zcells P 116) 116 w3.drew (fun n9 w10 => StA 8 (Addr.mk n9 0 none) cs7 w10 (fun w11 => f130_s0 p0 (Addr.mk n9 0 none) (Addr.mk n2 0 none) b8 w11 K)))))) := by kernel_rfl
theorem c130_eq : Go.Proofs.Try.f130.body = some c130 := by kernel_rfl
theorem f130_un (p0 : Option Addr) (cs1 : Array Value) (w : World) (K : KT) : f130 p0 cs1 w K = CS P c130 none (resT Go.Proofs.Try.f130.results.toList) (resT Go.Proofs.Try.f130.results.toList) (bodyK P Go.Proofs.Try.f130.results.toList K) (env0 Go.Proofs.Try.f130.ntmps [(Value.pointer p0), (Value.agg cs1)]) w := by kernel_rfl
theorem f130_ok (p0 : Option Addr) (cs1 : Array Value) (w : World) (K : KT) (h : f130 p0 cs1 w K) : CallL P 130 [(Value.pointer p0), (Value.agg cs1)] w K := calls_of_CS Go.Proofs.Try.func130 c130_eq (Eq.mp (f130_un p0 cs1 w K) h)
/-! 114 (*candling.race.plan).step -/
noncomputable def c114 : Code := match Go.Proofs.Try.f114.body with
  | some c => c
  | none => .skip
noncomputable def rs114 : List ResultVar := Go.Proofs.Try.f114.results.toList
abbrev f114_kb (K : KT) : Exit → YT := bodyK P rs114 K
def f114 (p0 : Option Addr) (w : World) (K : KT) : Prop := CS P c114 none [] [] (f114_kb K) (env0 5 [(Value.pointer p0)]) w
theorem f114_eq (p0 : Option Addr) (w : World) (K : KT) : f114 p0 w K = (∃ cs1 : Array Value, (∀ wq, (Instr.build 99 [(0, (Value.int .i64 1))].toArray).run P wq = .ok (Value.agg cs1) wq) ∧ CallL P 127 [(Value.pointer p0), (Value.agg cs1)] w (fun r2 w3 => r2 = (Value.tuple [].toArray) ∧ K (Value.tuple [].toArray) w3)) := by kernel_rfl
theorem c114_eq : Go.Proofs.Try.f114.body = some c114 := by kernel_rfl
theorem f114_un (p0 : Option Addr) (w : World) (K : KT) : f114 p0 w K = CS P c114 none (resT Go.Proofs.Try.f114.results.toList) (resT Go.Proofs.Try.f114.results.toList) (bodyK P Go.Proofs.Try.f114.results.toList K) (env0 Go.Proofs.Try.f114.ntmps [(Value.pointer p0)]) w := by kernel_rfl
theorem f114_ok (p0 : Option Addr) (w : World) (K : KT) (h : f114 p0 w K) : CallL P 114 [(Value.pointer p0)] w K := calls_of_CS Go.Proofs.Try.func114 c114_eq (Eq.mp (f114_un p0 w K) h)
/-! 115 (*candling.race.plan).atomic -/
noncomputable def c115 : Code := match Go.Proofs.Try.f115.body with
  | some c => c
  | none => .skip
noncomputable def rs115 : List ResultVar := Go.Proofs.Try.f115.results.toList
abbrev f115_kb (K : KT) : Exit → YT := bodyK P rs115 K
def f115 (p0 : Option Addr) (w : World) (K : KT) : Prop := CS P c115 none [] [] (f115_kb K) (env0 39 [(Value.pointer p0)]) w
abbrev f115_k0 (K : KT) : Exit → YT := kseq P (codeAt c115 [0]) (codeAt c115 [1]) none [] [] (f115_kb K)
abbrev f115_k1 (K : KT) : Exit → YT := kseq P (codeAt c115 [1, 0]) (codeAt c115 [1, 1]) none [] [] (f115_kb K)
abbrev f115_k2 (K : KT) : Exit → YT := kseq P (codeAt c115 [1, 1, 0]) (codeAt c115 [1, 1, 1]) none [] [] (f115_kb K)
def f115_s0 (v16 : Value) (a17 a18 : Addr) (w : World) (K : KT) : Prop := Join (fun e w => CS P (codeAt c115 [1, 1, 1]) none [] [] (f115_kb K) e w) (Env.mk 39 [(17, v16), (1, (Value.pointer (some a17))), (2, (Value.pointer (some a18)))] []) w
abbrev f115_k3 (K : KT) : Exit → YT := kblock 0 (f115_kb K)
def f115_rd1 (a19 a20 : Addr) (l : Nat) (R : LoopState → Option Code → Loop) (post : Option Code → World → Prop) (args : List Value) (W : World) : Prop := args.length = 1 ∧ CS P (codeAt c115 [1, 1, 1, 0, 0]) (some l) [1, 2, 3] [] (kround P (codeAt c115 [1, 1, 1, 0, 1]) l R post) { putParams (Env.mk 39 [(1, (Value.pointer (some a19))), (2, (Value.pointer (some a20)))] []) [18] args with d := [] } W
abbrev f115_ka1 (l : Nat) (R : LoopState → Option Code → Loop) (post : Option Code → World → Prop) : Exit → YT := kround P (codeAt c115 [1, 1, 1, 0, 1]) l R post
def f115_ra1 (a19 a20 : Addr) (x21 : Int) (w : World) (l : Nat) (R : LoopState → Option Code → Loop) (post : Option Code → World → Prop) : Prop := CS P (codeAt c115 [1, 1, 1, 0, 0]) (some l) [1, 2, 3] [] (f115_ka1 l R post) (Env.mk 39 [(18, (Value.int .u32 x21)), (1, (Value.pointer (some a19))), (2, (Value.pointer (some a20)))] []) w
def f115_s2 (a22 a23 : Addr) (x24 : Int) (w : World) (l : Nat) (R : LoopState → Option Code → Loop) (post : Option Code → World → Prop) : Prop := Join (fun e w => CS P (codeAt c115 [1, 1, 1, 0, 1]) (some l) [] [] (endS l R post) e w) (Env.mk 39 [(1, (Value.pointer (some a22))), (2, (Value.pointer (some a23))), (3, (Value.int .u32 x24))] []) w
abbrev f115_k4 (l : Nat) (R : LoopState → Option Code → Loop) (post : Option Code → World → Prop) : Exit → YT := kblock 1 (endS l R post)
abbrev f115_k5 (l : Nat) (R : LoopState → Option Code → Loop) (post : Option Code → World → Prop) : Exit → YT := kseq P (codeAt c115 [1, 1, 1, 0, 1, 0, 0]) (codeAt c115 [1, 1, 1, 0, 1, 0, 1]) (some l) [] [] (f115_k4 l R post)
abbrev f115_k6 (l : Nat) (R : LoopState → Option Code → Loop) (post : Option Code → World → Prop) : Exit → YT := kseq P (codeAt c115 [1, 1, 1, 0, 1, 0, 1, 0]) (codeAt c115 [1, 1, 1, 0, 1, 0, 1, 1]) (some l) [] [] (f115_k4 l R post)
abbrev f115_k7 (l : Nat) (R : LoopState → Option Code → Loop) (post : Option Code → World → Prop) : Exit → YT := kseq P (codeAt c115 [1, 1, 1, 0, 1, 0, 1, 0, 0]) (codeAt c115 [1, 1, 1, 0, 1, 0, 1, 0, 1]) (some l) [4, 1, 2] [] (f115_k6 l R post)
def f115_s3 (a32 a33 a34 : Addr) (w : World) (l : Nat) (R : LoopState → Option Code → Loop) (post : Option Code → World → Prop) : Prop := Join (fun e w => CS P (codeAt c115 [1, 1, 1, 0, 1, 0, 1, 1]) (some l) [] [] (f115_k4 l R post) e w) (Env.mk 39 [(4, (Value.pointer (some a32))), (1, (Value.pointer (some a33))), (2, (Value.pointer (some a34)))] []) w
abbrev f115_k8 (l : Nat) (R : LoopState → Option Code → Loop) (post : Option Code → World → Prop) : Exit → YT := kseq P (codeAt c115 [1, 1, 1, 0, 1, 0, 1, 1, 0]) (codeAt c115 [1, 1, 1, 0, 1, 0, 1, 1, 1]) (some l) [] [] (f115_k4 l R post)
abbrev f115_k9 (l : Nat) (R : LoopState → Option Code → Loop) (post : Option Code → World → Prop) : Exit → YT := kseq P (codeAt c115 [1, 1, 1, 0, 1, 0, 1, 1, 1, 0]) (codeAt c115 [1, 1, 1, 0, 1, 0, 1, 1, 1, 1]) (some l) [] [] (f115_k4 l R post)
abbrev f115_k10 (l : Nat) (R : LoopState → Option Code → Loop) (post : Option Code → World → Prop) : Exit → YT := kseq P (codeAt c115 [1, 1, 1, 0, 1, 0, 1, 1, 1, 1, 0]) (codeAt c115 [1, 1, 1, 0, 1, 0, 1, 1, 1, 1, 1]) (some l) [] [] (f115_k4 l R post)
abbrev f115_k11 (l : Nat) (R : LoopState → Option Code → Loop) (post : Option Code → World → Prop) : Exit → YT := kseq P (codeAt c115 [1, 1, 1, 0, 1, 0, 1, 1, 1, 1, 1, 0]) (codeAt c115 [1, 1, 1, 0, 1, 0, 1, 1, 1, 1, 1, 1]) (some l) [] [] (f115_k4 l R post)
theorem f115_s3_eq (a32 a33 a34 : Addr) (w : World) (l : Nat) (R : LoopState → Option Code → Loop) (post : Option Code → World → Prop) : f115_s3 a32 a33 a34 w l R post = (LdA 2 a32 w (fun cs35 => StA 2 a34 cs35 w (fun w36 => ∃ p37 : Option Addr, w36.cell? a33 = some (Value.pointer p37) ∧ LdA 2 a32 w36 (fun cs38 => CallL P 128 [(Value.pointer p37), (Value.agg cs38)] w36 (fun r39 w40 => ∃ x41 : Int, r39 = (Value.int .i64 x41) ∧ ∃ p42 : Option Addr, w40.cell? a33 = some (Value.pointer p42) ∧ LdA 2 a32 w40 (fun cs43 => CallL P 129 [(Value.pointer p42), (Value.agg cs43)] w40 (fun r44 w45 => r44 = (Value.tuple [].toArray) ∧ ∃ p46 : Option Addr, w45.cell? a33 = some (Value.pointer p46) ∧ ∃ cs47 : Array Value, (∀ wq, (Instr.build 99 [(0, (Value.int .i64 4)), (3, (Value.int .i64 x41))].toArray).run P wq = .ok (Value.agg cs47) wq) ∧ CallL P 127 [(Value.pointer p46), (Value.agg cs47)] w45 (fun r48 w49 => r48 = (Value.tuple [].toArray) ∧ ∃ p50 : Option Addr, w49.cell? a33 = some (Value.pointer p50) ∧ LdA 2 a32 w49 (fun cs51 => CallL P 130 [(Value.pointer p50), (Value.agg cs51)] w49 (fun r52 w53 => r52 = (Value.tuple [].toArray) ∧ w53.heap[l]? = some (.loop (R .busy none)) ∧ post none (w53.putObj l (.loop (R .ready none))))))))))))) := by kernel_rfl
theorem f115_s2_eq (a22 a23 : Addr) (x24 : Int) (w : World) (l : Nat) (R : LoopState → Option Code → Loop) (post : Option Code → World → Prop) : f115_s2 a22 a23 x24 w l R post = ((4 : Int) ≠ 0 ∧ ∃ cs25 : Array Value, (∀ wq, (Instr.build 147 [(0, (Value.bool true)), (1, (Value.int .u32 (IntKind.wrap .u32 ((x24 : Int).tdiv 4))))].toArray).run P wq = .ok (Value.agg cs25) wq) ∧ NewC (zcells P 147) 147 w (fun n26 w27 => StA 2 (Addr.mk n26 0 none) cs25 w27 (fun w28 => LdA 2 (Addr.mk n26 0 none) w28 (fun cs29 => LdA 2 a23 w28 (fun cs30 => ∃ b31 : Bool, (∀ wq, (do eqGuard .eql 147 (.tmp 22) (.tmp 23) (Value.agg cs29) (Value.agg cs30); binOp .eql 147 (Value.agg cs29) (Value.agg cs30) : Sem Value).run P wq = .ok (Value.bool b31) wq) ∧ BIf b31 (w28.heap[l]? = some (.loop (R .busy none)) ∧ post none (w28.putObj l (.loop (R .ready none)))) (f115_s3 (Addr.mk n26 0 none) a22 a23 w28 l R post)))))) := by kernel_rfl
theorem f115_ra1_eq (a19 a20 : Addr) (x21 : Int) (w : World) (l : Nat) (R : LoopState → Option Code → Loop) (post : Option Code → World → Prop) : f115_ra1 a19 a20 x21 w l R post = (w.heap[l]? = some (.loop (R .ready none)) ∧ f115_s2 a19 a20 x21 (w.putObj l (.loop (R .busy none))) l R post) := by kernel_rfl
theorem f115_rd1_eq (a19 a20 : Addr) (x21 : Int) (w : World) (l : Nat) (R : LoopState → Option Code → Loop) (post : Option Code → World → Prop) : f115_rd1 a19 a20 l R post [(Value.int .u32 x21)] w = ([(Value.int .u32 x21)].length = 1 ∧ f115_ra1 a19 a20 x21 w l R post) := by kernel_rfl
def f115_rn1 (a19 a20 : Addr) (d : List Deferred) (w : World) (K : KT) : Prop := (f115_k3 K) .normal (Env.mk 39 [(1, (Value.pointer (some a19))), (2, (Value.pointer (some a20)))] d) w
theorem f115_rn1_eq (a19 a20 : Addr) (d : List Deferred) (w : World) (K : KT) : f115_rn1 a19 a20 d w K = (LeaveS P rs115 (Env.mk 39 [(1, (Value.pointer (some a19))), (2, (Value.pointer (some a20)))] d) K d w) := by kernel_rfl
def f115_rr1 (a19 a20 : Addr) (d : List Deferred) (w : World) (K : KT) : Prop := (f115_k3 K) .ret (Env.mk 39 [(1, (Value.pointer (some a19))), (2, (Value.pointer (some a20)))] d) w
theorem f115_rr1_eq (a19 a20 : Addr) (d : List Deferred) (w : World) (K : KT) : f115_rr1 a19 a20 d w K = (LeaveS P rs115 (Env.mk 39 [(1, (Value.pointer (some a19))), (2, (Value.pointer (some a20)))] d) K d w) := by kernel_rfl
theorem f115_s0_eq (v16 : Value) (a17 a18 : Addr) (w : World) (K : KT) : f115_s0 v16 a17 a18 w K = (RangeC P (f115_k3 K) (Env.mk 39 [(1, (Value.pointer (some a17))), (2, (Value.pointer (some a18)))] []) w v16 (f115_rd1 a17 a18)) := by kernel_rfl
theorem f115_eq (p0 : Option Addr) (w : World) (K : KT) : f115 p0 w K = (NewC #[(Value.pointer p0)] 127 w (fun n1 w2 => ∃ cs3 : Array Value, (∀ wq, (Instr.build 147 [].toArray).run P wq = .ok (Value.agg cs3) wq) ∧ NewC (zcells P 147) 147 w2 (fun n4 w5 => StA 2 (Addr.mk n4 0 none) cs3 w5 (fun w6 => ∃ p7 : Option Addr, w6.drew.cell? (Addr.mk n1 0 none) = some (Value.pointer p7) ∧ optS p7 (fun a8 => ∃ x9 : Int, w6.drew.cell? ((a8.add 1).add 3) = some (Value.int .u32 x9) ∧ ∃ p10 : Option Addr, w6.drew.cell? (Addr.mk n1 0 none) = some (Value.pointer p10) ∧ optS p10 (fun a11 => ∃ x12 : Int, w6.drew.cell? ((a11.add 1).add 5) = some (Value.int .i64 x12) ∧ CallL P 65 [(Value.int .u32 x9), (Value.int .i64 x12)] w6.drew (fun r13 w14 => ∃ v15 : Value, r13 = v15 ∧ f115_s0 v15 (Addr.mk n1 0 none) (Addr.mk n4 0 none) w14 K))))))) := by kernel_rfl
theorem c115_eq : Go.Proofs.Try.f115.body = some c115 := by kernel_rfl
theorem f115_un (p0 : Option Addr) (w : World) (K : KT) : f115 p0 w K = CS P c115 none (resT Go.Proofs.Try.f115.results.toList) (resT Go.Proofs.Try.f115.results.toList) (bodyK P Go.Proofs.Try.f115.results.toList K) (env0 Go.Proofs.Try.f115.ntmps [(Value.pointer p0)]) w := by kernel_rfl
theorem f115_ok (p0 : Option Addr) (w : World) (K : KT) (h : f115 p0 w K) : CallL P 115 [(Value.pointer p0)] w K := calls_of_CS Go.Proofs.Try.func115 c115_eq (Eq.mp (f115_un p0 w K) h)
/-! 116 (*candling.race.plan).spawn -/
noncomputable def c116 : Code := match Go.Proofs.Try.f116.body with
  | some c => c
  | none => .skip
noncomputable def rs116 : List ResultVar := Go.Proofs.Try.f116.results.toList
abbrev f116_kb (K : KT) : Exit → YT := bodyK P rs116 K
def f116 (p0 : Option Addr) (w : World) (K : KT) : Prop := CS P c116 none [] [] (f116_kb K) (env0 36 [(Value.pointer p0)]) w
abbrev f116_k0 (K : KT) : Exit → YT := kseq P (codeAt c116 [0]) (codeAt c116 [1]) none [] [] (f116_kb K)
abbrev f116_k1 (K : KT) : Exit → YT := kseq P (codeAt c116 [1, 0]) (codeAt c116 [1, 1]) none [] [] (f116_kb K)
abbrev f116_k2 (K : KT) : Exit → YT := kseq P (codeAt c116 [1, 0, 0]) (codeAt c116 [1, 0, 1]) none [2, 0] [] (f116_k1 K)
def f116_s0 (b5 : Bool) (p6 : Option Addr) (x7 : Int) (w : World) (K : KT) : Prop := Join (fun e w => CS P (codeAt c116 [1, 0, 1]) none [2, 0] [] (f116_k1 K) e w) (Env.mk 36 [(21, (Value.bool b5)), (0, (Value.pointer p6)), (2, (Value.int .i64 x7))] []) w
abbrev f116_k3 (K : KT) : Exit → YT := kseq P (codeAt c116 [1, 0, 1, 0, 0]) (codeAt c116 [1, 0, 1, 0, 1]) none [2, 0] [] (f116_k1 K)
def f116_s1 (x10 : Int) (p11 : Option Addr) (w : World) (K : KT) : Prop := Join (fun e w => CS P (codeAt c116 [1, 1]) none [] [] (f116_kb K) e w) (Env.mk 36 [(2, (Value.int .i64 x10)), (0, (Value.pointer p11))] []) w
abbrev f116_k4 (K : KT) : Exit → YT := kseq P (codeAt c116 [1, 1, 0]) (codeAt c116 [1, 1, 1]) none [] [] (f116_kb K)
theorem f116_s1_eq (x10 : Int) (p11 : Option Addr) (w : World) (K : KT) : f116_s1 x10 p11 w K = (∃ cs12 : Array Value, (∀ wq, (Instr.build 99 [(0, (Value.int .i64 5)), (2, (Value.int .i64 x10))].toArray).run P wq = .ok (Value.agg cs12) wq) ∧ CallL P 127 [(Value.pointer p11), (Value.agg cs12)] w (fun r13 w14 => r13 = (Value.tuple [].toArray) ∧ optS p11 (fun a15 => St1 (a15.add 19) (Value.int .i64 x10) w14 (fun w16 => optS p11 (fun a17 => St1 (a17.add 21) (Value.bool true) w16 (fun w18 => K (Value.tuple [].toArray) w18)))))) := by kernel_rfl
theorem f116_s0_eq (b5 : Bool) (p6 : Option Addr) (x7 : Int) (w : World) (K : KT) : f116_s0 b5 p6 x7 w K = (BIf b5 (optS p6 (fun a8 => St1 (a8.add 22) (Value.bool true) w (fun w9 => K (Value.tuple [].toArray) w9))) (f116_s1 x7 p6 w K)) := by kernel_rfl
theorem f116_eq (p0 : Option Addr) (w : World) (K : KT) : f116 p0 w K = (CallL P 131 [(Value.pointer p0)] w (fun r1 w2 => ∃ x3 : Int, ∃ b4 : Bool, r1 = (Value.tuple [(Value.int .i64 x3), (Value.bool b4)].toArray) ∧ BIf (!b4) (f116_s0 true p0 x3 w2 K) (optS p0 (fun a19 => ∃ p20 : Option Addr, w2.cell? a19 = some (Value.pointer p20) ∧ optS p20 (fun a21 => 0 ≤ (x3 : Int) ∧ (x3 : Int) < (8 : Nat) ∧ ∃ b22 : Bool, w2.cell? ((a21.add 64).add (Int.toNat x3 * 1)) = some (Value.bool b22) ∧ f116_s0 b22 p0 x3 w2 K))))) := by kernel_rfl
theorem c116_eq : Go.Proofs.Try.f116.body = some c116 := by kernel_rfl
theorem f116_un (p0 : Option Addr) (w : World) (K : KT) : f116 p0 w K = CS P c116 none (resT Go.Proofs.Try.f116.results.toList) (resT Go.Proofs.Try.f116.results.toList) (bodyK P Go.Proofs.Try.f116.results.toList K) (env0 Go.Proofs.Try.f116.ntmps [(Value.pointer p0)]) w := by kernel_rfl
theorem f116_ok (p0 : Option Addr) (w : World) (K : KT) (h : f116 p0 w K) : CallL P 116 [(Value.pointer p0)] w K := calls_of_CS Go.Proofs.Try.func116 c116_eq (Eq.mp (f116_un p0 w K) h)
/-! 117 (*candling.race.plan).join -/
noncomputable def c117 : Code := match Go.Proofs.Try.f117.body with
  | some c => c
  | none => .skip
noncomputable def rs117 : List ResultVar := Go.Proofs.Try.f117.results.toList
abbrev f117_kb (K : KT) : Exit → YT := bodyK P rs117 K
def f117 (p0 : Option Addr) (w : World) (K : KT) : Prop := CS P c117 none [] [] (f117_kb K) (env0 67 [(Value.pointer p0)]) w
abbrev f117_k0 (K : KT) : Exit → YT := kseq P (codeAt c117 [0]) (codeAt c117 [1]) none [] [] (f117_kb K)
abbrev f117_k1 (K : KT) : Exit → YT := kseq P (codeAt c117 [1, 0]) (codeAt c117 [1, 1]) none [] [] (f117_kb K)
abbrev f117_k2 (K : KT) : Exit → YT := kseq P (codeAt c117 [1, 0, 0]) (codeAt c117 [1, 0, 1]) none [2, 0] [] (f117_k1 K)
def f117_s0 (b5 : Bool) (p6 : Option Addr) (x7 : Int) (w : World) (K : KT) : Prop := Join (fun e w => CS P (codeAt c117 [1, 0, 1]) none [2, 0] [] (f117_k1 K) e w) (Env.mk 67 [(42, (Value.bool b5)), (0, (Value.pointer p6)), (2, (Value.int .i64 x7))] []) w
abbrev f117_k3 (K : KT) : Exit → YT := kseq P (codeAt c117 [1, 0, 1, 0, 0]) (codeAt c117 [1, 0, 1, 0, 1]) none [2, 0] [] (f117_k1 K)
def f117_s1 (x10 : Int) (p11 : Option Addr) (w : World) (K : KT) : Prop := Join (fun e w => CS P (codeAt c117 [1, 1]) none [] [] (f117_kb K) e w) (Env.mk 67 [(2, (Value.int .i64 x10)), (0, (Value.pointer p11))] []) w
abbrev f117_k4 (K : KT) : Exit → YT := kseq P (codeAt c117 [1, 1, 0]) (codeAt c117 [1, 1, 1]) none [] [] (f117_kb K)
def f117_s2 (x19 : Int) (p20 : Option Addr) (w : World) (K : KT) : Prop := Join (fun e w => CS P (codeAt c117 [1, 1, 1]) none [] [] (f117_kb K) e w) (Env.mk 67 [(2, (Value.int .i64 x19)), (0, (Value.pointer p20))] []) w
abbrev f117_k5 (K : KT) : Exit → YT := kseq P (codeAt c117 [1, 1, 1, 0]) (codeAt c117 [1, 1, 1, 1]) none [] [] (f117_kb K)
theorem f117_s2_eq (x19 : Int) (p20 : Option Addr) (w : World) (K : KT) : f117_s2 x19 p20 w K = (∃ cs21 : Array Value, (∀ wq, (Instr.build 99 [(0, (Value.int .i64 6)), (2, (Value.int .i64 x19))].toArray).run P wq = .ok (Value.agg cs21) wq) ∧ CallL P 127 [(Value.pointer p20), (Value.agg cs21)] w (fun r22 w23 => r22 = (Value.tuple [].toArray) ∧ optS p20 (fun a24 => St1 (a24.add 20) (Value.int .i64 x19) w23 (fun w25 => K (Value.tuple [].toArray) w25)))) := by kernel_rfl
theorem f117_s1_eq (x10 : Int) (p11 : Option Addr) (w : World) (K : KT) : f117_s1 x10 p11 w K = (optS p11 (fun a12 => optS p11 (fun a13 => ∃ p14 : Option Addr, w.drew.cell? a13 = some (Value.pointer p14) ∧ optS p14 (fun a15 => 0 ≤ (x10 : Int) ∧ (x10 : Int) < (8 : Nat) ∧ LdA 8 (a15.add (Int.toNat x10 * 8)) w.drew (fun cs16 => CallL P 97 [(Value.pointer (some (a12.add 8))), (Value.agg cs16)] w.drew (fun r17 w18 => r17 = (Value.tuple [].toArray) ∧ f117_s2 x10 p11 w18 K)))))) := by kernel_rfl
theorem f117_s0_eq (b5 : Bool) (p6 : Option Addr) (x7 : Int) (w : World) (K : KT) : f117_s0 b5 p6 x7 w K = (BIf b5 (optS p6 (fun a8 => St1 (a8.add 22) (Value.bool true) w (fun w9 => K (Value.tuple [].toArray) w9))) (f117_s1 x7 p6 w K)) := by kernel_rfl
theorem f117_eq (p0 : Option Addr) (w : World) (K : KT) : f117 p0 w K = (CallL P 131 [(Value.pointer p0)] w (fun r1 w2 => ∃ x3 : Int, ∃ b4 : Bool, r1 = (Value.tuple [(Value.int .i64 x3), (Value.bool b4)].toArray) ∧ BIf (!b4) (f117_s0 true p0 x3 w2 K) (optS p0 (fun a26 => ∃ p27 : Option Addr, w2.cell? a26 = some (Value.pointer p27) ∧ optS p27 (fun a28 => 0 ≤ (x3 : Int) ∧ (x3 : Int) < (8 : Nat) ∧ ∃ b29 : Bool, w2.cell? ((a28.add 64).add (Int.toNat x3 * 1)) = some (Value.bool b29) ∧ BIf (!b29) (f117_s0 true p0 x3 w2 K) (optS p0 (fun a30 => ∃ p31 : Option Addr, w2.cell? a30 = some (Value.pointer p31) ∧ optS p31 (fun a32 => 0 ≤ (x3 : Int) ∧ (x3 : Int) < (8 : Nat) ∧ ∃ b33 : Bool, w2.cell? ((a32.add 72).add (Int.toNat x3 * 1)) = some (Value.bool b33) ∧ BIf b33 (f117_s0 true p0 x3 w2 K) (optS p0 (fun a34 => ∃ x35 : Int, w2.cell? ((a34.add 1).add 1) = some (Value.int .i64 x35) ∧ f117_s0 ((x3 : Int) == x35) p0 x3 w2 K)))))))))) := by kernel_rfl
theorem c117_eq : Go.Proofs.Try.f117.body = some c117 := by kernel_rfl
theorem f117_un (p0 : Option Addr) (w : World) (K : KT) : f117 p0 w K = CS P c117 none (resT Go.Proofs.Try.f117.results.toList) (resT Go.Proofs.Try.f117.results.toList) (bodyK P Go.Proofs.Try.f117.results.toList K) (env0 Go.Proofs.Try.f117.ntmps [(Value.pointer p0)]) w := by kernel_rfl
theorem f117_ok (p0 : Option Addr) (w : World) (K : KT) (h : f117 p0 w K) : CallL P 117 [(Value.pointer p0)] w K := calls_of_CS Go.Proofs.Try.func117 c117_eq (Eq.mp (f117_un p0 w K) h)
/-! 118 (*candling.race.plan).lock -/
noncomputable def c118 : Code := match Go.Proofs.Try.f118.body with
  | some c => c
  | none => .skip
noncomputable def rs118 : List ResultVar := Go.Proofs.Try.f118.results.toList
abbrev f118_kb (K : KT) : Exit → YT := bodyK P rs118 K
def f118 (p0 : Option Addr) (w : World) (K : KT) : Prop := CS P c118 none [] [] (f118_kb K) (env0 20 [(Value.pointer p0)]) w
abbrev f118_k0 (K : KT) : Exit → YT := kseq P (codeAt c118 [0]) (codeAt c118 [1]) none [] [] (f118_kb K)
abbrev f118_k1 (K : KT) : Exit → YT := kseq P (codeAt c118 [1, 0]) (codeAt c118 [1, 1]) none [] [] (f118_kb K)
abbrev f118_k2 (K : KT) : Exit → YT := kseq P (codeAt c118 [1, 1, 0]) (codeAt c118 [1, 1, 1]) none [] [] (f118_kb K)
theorem f118_eq (p0 : Option Addr) (w : World) (K : KT) : f118 p0 w K = (optS p0 (fun a1 => ∃ x2 : Int, w.cell? ((a1.add 1).add 3) = some (Value.int .u32 x2) ∧ ∃ cs3 : Array Value, (∀ wq, (Instr.build 147 [(1, (Value.int .u32 x2))].toArray).run P wq = .ok (Value.agg cs3) wq) ∧ NewC (zcells P 147) 147 w (fun n4 w5 => StA 2 (Addr.mk n4 0 none) cs3 w5 (fun w6 => LdA 2 (Addr.mk n4 0 none) w6 (fun cs7 => CallL P 128 [(Value.pointer p0), (Value.agg cs7)] w6 (fun r8 w9 => ∃ x10 : Int, r8 = (Value.int .i64 x10) ∧ LdA 2 (Addr.mk n4 0 none) w9 (fun cs11 => CallL P 129 [(Value.pointer p0), (Value.agg cs11)] w9 (fun r12 w13 => r12 = (Value.tuple [].toArray) ∧ ∃ cs14 : Array Value, (∀ wq, (Instr.build 99 [(0, (Value.int .i64 3)), (3, (Value.int .i64 x10))].toArray).run P wq = .ok (Value.agg cs14) wq) ∧ CallL P 127 [(Value.pointer p0), (Value.agg cs14)] w13 (fun r15 w16 => r15 = (Value.tuple [].toArray) ∧ K (Value.tuple [].toArray) w16))))))))) := by kernel_rfl
theorem c118_eq : Go.Proofs.Try.f118.body = some c118 := by kernel_rfl
theorem f118_un (p0 : Option Addr) (w : World) (K : KT) : f118 p0 w K = CS P c118 none (resT Go.Proofs.Try.f118.results.toList) (resT Go.Proofs.Try.f118.results.toList) (bodyK P Go.Proofs.Try.f118.results.toList K) (env0 Go.Proofs.Try.f118.ntmps [(Value.pointer p0)]) w := by kernel_rfl
theorem f118_ok (p0 : Option Addr) (w : World) (K : KT) (h : f118 p0 w K) : CallL P 118 [(Value.pointer p0)] w K := calls_of_CS Go.Proofs.Try.func118 c118_eq (Eq.mp (f118_un p0 w K) h)
/-! 119 (*candling.race.plan).unlock -/
noncomputable def c119 : Code := match Go.Proofs.Try.f119.body with
  | some c => c
  | none => .skip
noncomputable def rs119 : List ResultVar := Go.Proofs.Try.f119.results.toList
abbrev f119_kb (K : KT) : Exit → YT := bodyK P rs119 K
def f119 (p0 : Option Addr) (w : World) (K : KT) : Prop := CS P c119 none [] [] (f119_kb K) (env0 18 [(Value.pointer p0)]) w
abbrev f119_k0 (K : KT) : Exit → YT := kseq P (codeAt c119 [0]) (codeAt c119 [1]) none [] [] (f119_kb K)
abbrev f119_k1 (K : KT) : Exit → YT := kseq P (codeAt c119 [1, 0]) (codeAt c119 [1, 1]) none [] [] (f119_kb K)
theorem f119_eq (p0 : Option Addr) (w : World) (K : KT) : f119 p0 w K = (optS p0 (fun a1 => ∃ x2 : Int, w.cell? ((a1.add 1).add 3) = some (Value.int .u32 x2) ∧ ∃ cs3 : Array Value, (∀ wq, (Instr.build 147 [(1, (Value.int .u32 x2))].toArray).run P wq = .ok (Value.agg cs3) wq) ∧ NewC (zcells P 147) 147 w (fun n4 w5 => StA 2 (Addr.mk n4 0 none) cs3 w5 (fun w6 => LdA 2 (Addr.mk n4 0 none) w6 (fun cs7 => CallL P 128 [(Value.pointer p0), (Value.agg cs7)] w6 (fun r8 w9 => ∃ x10 : Int, r8 = (Value.int .i64 x10) ∧ ∃ cs11 : Array Value, (∀ wq, (Instr.build 99 [(0, (Value.int .i64 2)), (3, (Value.int .i64 x10))].toArray).run P wq = .ok (Value.agg cs11) wq) ∧ CallL P 127 [(Value.pointer p0), (Value.agg cs11)] w9 (fun r12 w13 => r12 = (Value.tuple [].toArray) ∧ LdA 2 (Addr.mk n4 0 none) w13 (fun cs14 => CallL P 130 [(Value.pointer p0), (Value.agg cs14)] w13 (fun r15 w16 => r15 = (Value.tuple [].toArray) ∧ K (Value.tuple [].toArray) w16))))))))) := by kernel_rfl
theorem c119_eq : Go.Proofs.Try.f119.body = some c119 := by kernel_rfl
theorem f119_un (p0 : Option Addr) (w : World) (K : KT) : f119 p0 w K = CS P c119 none (resT Go.Proofs.Try.f119.results.toList) (resT Go.Proofs.Try.f119.results.toList) (bodyK P Go.Proofs.Try.f119.results.toList K) (env0 Go.Proofs.Try.f119.ntmps [(Value.pointer p0)]) w := by kernel_rfl
theorem f119_ok (p0 : Option Addr) (w : World) (K : KT) (h : f119 p0 w K) : CallL P 119 [(Value.pointer p0)] w K := calls_of_CS Go.Proofs.Try.func119 c119_eq (Eq.mp (f119_un p0 w K) h)
/-! 94 candling.race.kinds -/
noncomputable def c94 : Code := match Go.Proofs.Try.f94.body with
  | some c => c
  | none => .skip
noncomputable def rs94 : List ResultVar := Go.Proofs.Try.f94.results.toList
abbrev f94_kb (K : KT) : Exit → YT := bodyK P rs94 K
def f94 (w : World) (K : KT) : Prop := CS P c94 none [0] [0] (f94_kb K) (env0 15 []) w
abbrev f94_k0 (K : KT) : Exit → YT := kseq P (codeAt c94 [0]) (codeAt c94 [1]) none [0] [0] (f94_kb K)
abbrev f94_k1 (K : KT) : Exit → YT := kseq P (codeAt c94 [1, 0]) (codeAt c94 [1, 1]) none [0] [0] (f94_kb K)
abbrev f94_k2 (K : KT) : Exit → YT := kseq P (codeAt c94 [1, 1, 0]) (codeAt c94 [1, 1, 1]) none [0] [0] (f94_kb K)
abbrev f94_k3 (K : KT) : Exit → YT := kseq P (codeAt c94 [1, 1, 0, 0]) (codeAt c94 [1, 1, 0, 1]) none [0, 1] [0] (f94_k2 K)
abbrev f94_k4 (K : KT) : Exit → YT := kblock 0 (f94_k2 K)
def f94_lp0 (K : KT) (Y0 : YT) (e : Env) (w : World) : Prop := Join (fun e w => CS P (codeAt c94 [1, 1, 0, 1, 0, 0]) none [3, 1, 0] [0, 1] (kloop [3, 1, 0] Y0 (f94_k4 K)) e w) e w
abbrev f94_kl0 (K : KT) (Y0 : YT) : Exit → YT := kloop [3, 1, 0] Y0 (f94_k4 K)
def f94_lb0 (x4 : Int) (a5 a6 : Addr) (w : World) (K : KT) (Y0 : YT) : Prop := Join (fun e w => CS P (codeAt c94 [1, 1, 0, 1, 0, 0]) none [3, 1, 0] [0, 1] (f94_kl0 K Y0) e w) (Env.mk 15 [(3, (Value.int .i64 x4)), (1, (Value.pointer (some a5))), (0, (Value.pointer (some a6)))] []) w
abbrev f94_k5 (K : KT) (Y0 : YT) : Exit → YT := kseq P (codeAt c94 [1, 1, 0, 1, 0, 0, 0]) (codeAt c94 [1, 1, 0, 1, 0, 0, 1]) none [3, 1, 0] [0, 1] (f94_kl0 K Y0)
abbrev f94_k6 (K : KT) (Y0 : YT) : Exit → YT := kseq P (codeAt c94 [1, 1, 0, 1, 0, 0, 1, 0]) (codeAt c94 [1, 1, 0, 1, 0, 0, 1, 1]) none [3, 1, 0] [0, 1] (f94_kl0 K Y0)
def f94_s1 (a7 a8 : Addr) (x9 : Int) (w : World) (K : KT) (Y0 : YT) : Prop := Join (fun e w => CS P (codeAt c94 [1, 1, 0, 1, 0, 0, 1, 1]) none [3, 1, 0] [0, 1] (f94_kl0 K Y0) e w) (Env.mk 15 [(1, (Value.pointer (some a7))), (0, (Value.pointer (some a8))), (3, (Value.int .i64 x9))] []) w
abbrev f94_k7 (K : KT) (Y0 : YT) : Exit → YT := kseq P (codeAt c94 [1, 1, 0, 1, 0, 0, 1, 1, 0]) (codeAt c94 [1, 1, 0, 1, 0, 0, 1, 1, 1]) none [3, 1, 0] [0, 1] (f94_kl0 K Y0)
abbrev f94_k8 (K : KT) (Y0 : YT) : Exit → YT := kblock 1 (f94_k7 K Y0)
abbrev f94_k9 (K : KT) (Y0 : YT) : Exit → YT := kseq P (codeAt c94 [1, 1, 0, 1, 0, 0, 1, 1, 0, 0, 0]) (codeAt c94 [1, 1, 0, 1, 0, 0, 1, 1, 0, 0, 1]) none [1, 0, 3] [0, 1, 3] (f94_k8 K Y0)
def f94_s2 (a11 a12 : Addr) (x13 : Int) (w : World) (K : KT) (Y0 : YT) : Prop := Join (fun e w => CS P (codeAt c94 [1, 1, 0, 1, 0, 0, 1, 1, 1]) none [3, 1, 0] [0, 1] (f94_kl0 K Y0) e w) (Env.mk 15 [(1, (Value.pointer (some a11))), (0, (Value.pointer (some a12))), (3, (Value.int .i64 x13))] []) w
theorem f94_s2_eq (a11 a12 : Addr) (x13 : Int) (w : World) (K : KT) (Y0 : YT) : f94_s2 a11 a12 x13 w K Y0 = (Y0 (Env.mk 15 [(3, (Value.int .i64 (IntKind.wrap .i64 ((x13 : Int) + 1)))), (1, (Value.pointer (some a11))), (0, (Value.pointer (some a12)))] []) w) := by kernel_rfl
theorem f94_s1_eq (a7 a8 : Addr) (x9 : Int) (w : World) (K : KT) (Y0 : YT) : f94_s1 a7 a8 x9 w K Y0 = (0 ≤ (x9 : Int) ∧ (x9 : Int) < (25 : Nat) ∧ St1 (a7.add (Int.toNat x9 * 1)) (Value.func (.func 114) #[] #[]) w (fun w10 => f94_s2 a7 a8 x9 w10 K Y0)) := by kernel_rfl
def f94_s3 (a14 a15 : Addr) (w : World) (K : KT) : Prop := Join (fun e w => CS P (codeAt c94 [1, 1, 1]) none [0] [0] (f94_kb K) e w) (Env.mk 15 [(0, (Value.pointer (some a14))), (1, (Value.pointer (some a15)))] []) w
abbrev f94_k10 (K : KT) : Exit → YT := kseq P (codeAt c94 [1, 1, 1, 0]) (codeAt c94 [1, 1, 1, 1]) none [0] [0] (f94_kb K)
abbrev f94_k11 (K : KT) : Exit → YT := kseq P (codeAt c94 [1, 1, 1, 1, 0]) (codeAt c94 [1, 1, 1, 1, 1]) none [0] [0] (f94_kb K)
theorem f94_s3_eq (a14 a15 : Addr) (w : World) (K : KT) : f94_s3 a14 a15 w K = (0 ≤ (4 : Int) ∧ (4 : Int) < (25 : Nat) ∧ St1 (a15.add (Int.toNat 4 * 1)) (Value.func (.func 115) #[] #[]) w (fun w16 => 0 ≤ (11 : Int) ∧ (11 : Int) < (25 : Nat) ∧ St1 (a15.add (Int.toNat 11 * 1)) (Value.func (.func 116) #[] #[]) w16 (fun w17 => 0 ≤ (13 : Int) ∧ (13 : Int) < (25 : Nat) ∧ St1 (a15.add (Int.toNat 13 * 1)) (Value.func (.func 117) #[] #[]) w17 (fun w18 => 0 ≤ (14 : Int) ∧ (14 : Int) < (25 : Nat) ∧ St1 (a15.add (Int.toNat 14 * 1)) (Value.func (.func 118) #[] #[]) w18 (fun w19 => 0 ≤ (15 : Int) ∧ (15 : Int) < (25 : Nat) ∧ St1 (a15.add (Int.toNat 15 * 1)) (Value.func (.func 119) #[] #[]) w19 (fun w20 => LdA 25 a15 w20 (fun cs21 => StA 25 a14 cs21 w20 (fun w22 => LdA 25 a14 w22 (fun cs23 => K (Value.agg cs23) w22))))))))) := by kernel_rfl
theorem f94_lb0_eq (x4 : Int) (a5 a6 : Addr) (w : World) (K : KT) (Y0 : YT) : f94_lb0 x4 a5 a6 w K Y0 = (BIf (decide ((x4 : Int) < 25)) (f94_s1 a5 a6 x4 w K Y0) (f94_s3 a6 a5 w K)) := by kernel_rfl
theorem f94_eq (w : World) (K : KT) : f94 w K = (NewC (zcells P 180) 180 w (fun n0 w1 => NewC (zcells P 180) 180 w1 (fun n2 w3 => LoopE (f94_lp0 K) (Env.mk 15 [(3, (Value.int .i64 0)), (1, (Value.pointer (some (Addr.mk n2 0 none)))), (0, (Value.pointer (some (Addr.mk n0 0 none))))] []) w3))) := by kernel_rfl
theorem c94_eq : Go.Proofs.Try.f94.body = some c94 := by kernel_rfl
theorem f94_un (w : World) (K : KT) : f94 w K = CS P c94 none (resT Go.Proofs.Try.f94.results.toList) (resT Go.Proofs.Try.f94.results.toList) (bodyK P Go.Proofs.Try.f94.results.toList K) (env0 Go.Proofs.Try.f94.ntmps []) w := by kernel_rfl
theorem f94_ok (w : World) (K : KT) (h : f94 w K) : CallL P 94 [] w K := calls_of_CS Go.Proofs.Try.func94 c94_eq (Eq.mp (f94_un w K) h)
end Go.Fx.Try
namespace Go.Fx.Try
set_option maxRecDepth 100000
open Go Go.Fx
/-! 63 (*candling.race.threads).plan -/
noncomputable def c63 : Code := match Go.Proofs.Try.f63.body with
  | some c => c
  | none => .skip
noncomputable def rs63 : List ResultVar := Go.Proofs.Try.f63.results.toList
abbrev f63_kb (K : KT) : Exit → YT := bodyK P rs63 K
def f63 (p0 : Option Addr) (cs1 : Array Value) (w : World) (K : KT) : Prop := CS P c63 none [4, 5] [4, 5] (f63_kb K) (env0 100 [(Value.pointer p0), (Value.agg cs1)]) w
abbrev f63_k0 (K : KT) : Exit → YT := kseq P (codeAt c63 [0]) (codeAt c63 [1]) none [4, 5] [4, 5] (f63_kb K)
abbrev f63_k1 (K : KT) : Exit → YT := kseq P (codeAt c63 [1, 0]) (codeAt c63 [1, 1]) none [4, 5] [4, 5] (f63_kb K)
abbrev f63_k2 (K : KT) : Exit → YT := kseq P (codeAt c63 [1, 1, 0]) (codeAt c63 [1, 1, 1]) none [4, 5] [4, 5] (f63_kb K)
abbrev f63_k3 (K : KT) : Exit → YT := kseq P (codeAt c63 [1, 1, 0, 0]) (codeAt c63 [1, 1, 0, 1]) none [3, 6, 0] [4, 5] (f63_k2 K)
def f63_s0 (b6 : Bool) (a7 : Addr) (x8 : Int) (p9 : Option Addr) (w : World) (K : KT) : Prop := Join (fun e w => CS P (codeAt c63 [1, 1, 0, 1]) none [3, 6, 0] [4, 5] (f63_k2 K) e w) (Env.mk 100 [(45, (Value.bool b6)), (3, (Value.pointer (some a7))), (6, (Value.int .i64 x8)), (0, (Value.pointer p9))] []) w
abbrev f63_k4 (K : KT) : Exit → YT := kseq P (codeAt c63 [1, 1, 0, 1, 0, 0]) (codeAt c63 [1, 1, 0, 1, 0, 1]) none [3, 6, 0] [4, 5] (f63_k2 K)
def f63_s1 (a10 : Addr) (x11 : Int) (p12 : Option Addr) (w : World) (K : KT) : Prop := Join (fun e w => CS P (codeAt c63 [1, 1, 1]) none [4, 5] [4, 5] (f63_kb K) e w) (Env.mk 100 [(3, (Value.pointer (some a10))), (6, (Value.int .i64 x11)), (0, (Value.pointer p12))] []) w
abbrev f63_k5 (K : KT) : Exit → YT := kseq P (codeAt c63 [1, 1, 1, 0]) (codeAt c63 [1, 1, 1, 1]) none [4, 5] [4, 5] (f63_kb K)
abbrev f63_k6 (K : KT) : Exit → YT := kseq P (codeAt c63 [1, 1, 1, 0, 0]) (codeAt c63 [1, 1, 1, 0, 1]) none [3, 6, 0] [4, 5] (f63_k5 K)
abbrev f63_k7 (K : KT) : Exit → YT := kseq P (codeAt c63 [1, 1, 1, 0, 1, 0]) (codeAt c63 [1, 1, 1, 0, 1, 1]) none [3, 6, 0] [4, 5] (f63_k5 K)
def f63_s2 (b20 : Bool) (a21 : Addr) (x22 : Int) (p23 : Option Addr) (w : World) (K : KT) : Prop := Join (fun e w => CS P (codeAt c63 [1, 1, 1, 0, 1, 1]) none [3, 6, 0] [4, 5] (f63_k5 K) e w) (Env.mk 100 [(75, (Value.bool b20)), (3, (Value.pointer (some a21))), (6, (Value.int .i64 x22)), (0, (Value.pointer p23))] []) w
abbrev f63_k8 (K : KT) : Exit → YT := kseq P (codeAt c63 [1, 1, 1, 0, 1, 1, 0, 0]) (codeAt c63 [1, 1, 1, 0, 1, 1, 0, 1]) none [3, 6, 0] [4, 5] (f63_k5 K)
def f63_s3 (a24 : Addr) (x25 : Int) (p26 : Option Addr) (w : World) (K : KT) : Prop := Join (fun e w => CS P (codeAt c63 [1, 1, 1, 1]) none [4, 5] [4, 5] (f63_kb K) e w) (Env.mk 100 [(3, (Value.pointer (some a24))), (6, (Value.int .i64 x25)), (0, (Value.pointer p26))] []) w
abbrev f63_k9 (K : KT) : Exit → YT := kseq P (codeAt c63 [1, 1, 1, 1, 0]) (codeAt c63 [1, 1, 1, 1, 1]) none [4, 5] [4, 5] (f63_kb K)
def f63_s4 (a37 a38 : Addr) (w : World) (K : KT) : Prop := Join (fun e w => CS P (codeAt c63 [1, 1, 1, 1, 1]) none [4, 5] [4, 5] (f63_kb K) e w) (Env.mk 100 [(10, (Value.pointer (some a37))), (3, (Value.pointer (some a38)))] []) w
abbrev f63_k10 (K : KT) : Exit → YT := kseq P (codeAt c63 [1, 1, 1, 1, 1, 0]) (codeAt c63 [1, 1, 1, 1, 1, 1]) none [4, 5] [4, 5] (f63_kb K)
def f63_s5 (a46 : Addr) (w : World) (K : KT) : Prop := Join (fun e w => CS P (codeAt c63 [1, 1, 1, 1, 1, 1]) none [4, 5] [4, 5] (f63_kb K) e w) (Env.mk 100 [(10, (Value.pointer (some a46)))] []) w
abbrev f63_k11 (K : KT) : Exit → YT := kseq P (codeAt c63 [1, 1, 1, 1, 1, 1, 0]) (codeAt c63 [1, 1, 1, 1, 1, 1, 1]) none [4, 5] [4, 5] (f63_kb K)
theorem f63_s5_eq (a46 : Addr) (w : World) (K : KT) : f63_s5 a46 w K = (∃ b47 : Bool, w.drew.cell? (a46.add 22) = some (Value.bool b47) ∧ K (Value.tuple [(Value.pointer (some a46)), (Value.bool (!b47))].toArray) w.drew) := by kernel_rfl
theorem f63_s4_eq (a37 a38 : Addr) (w : World) (K : KT) : f63_s4 a37 a38 w K = ((CallL P 94 [] w.drew (fun r39 w40 => ∃ cs41 : Array Value, r39 = (Value.agg cs41) ∧ ∃ x42 : Int, w40.cell? a38 = some (Value.int .i64 x42) ∧ 0 ≤ (x42 : Int) ∧ (x42 : Int) < (25 : Nat) ∧ ∃ v43 : Value, cs41[(Int.toNat x42 * 1)]? = some v43 ∧ CallF P v43 [(Value.pointer (some a37))] w40 (fun r44 w45 => r44 = (Value.tuple [].toArray) ∧ f63_s5 a37 w45 K))) ∧ (∃ x48 : Int, w.drew.cell? a38 = some (Value.int .i64 x48) ∧ CallL P 94 [] w.drew (fun r49 w50 => ∃ cs51 : Array Value, r49 = (Value.agg cs51) ∧ 0 ≤ (x48 : Int) ∧ (x48 : Int) < (25 : Nat) ∧ ∃ v52 : Value, cs51[(Int.toNat x48 * 1)]? = some v52 ∧ CallF P v52 [(Value.pointer (some a37))] w50 (fun r53 w54 => r53 = (Value.tuple [].toArray) ∧ f63_s5 a37 w54 K)))) := by kernel_rfl
theorem f63_s3_eq (a24 : Addr) (x25 : Int) (p26 : Option Addr) (w : World) (K : KT) : f63_s3 a24 x25 p26 w K = (optS p26 (fun a27 => 0 ≤ (x25 : Int) ∧ (x25 : Int) < (8 : Nat) ∧ LdA 6 a24 w.drew (fun cs28 => LdA 8 (a27.add (Int.toNat x25 * 8)) w.drew (fun cs29 => (NewO (.map #[] 0) w.drew (fun n30 w31 => NewO (.map #[] 0) w31 (fun n32 w33 => ∃ cs34 : Array Value, (∀ wq, (Instr.build 138 [(0, (Value.pointer p26)), (1, (Value.agg cs28)), (3, (Value.agg cs29)), (5, (Value.map (some n30))), (6, (Value.map (some n32))), (7, (Value.int .i64 (-1))), (8, (Value.int .i64 (-1)))].toArray).run P wq = .ok (Value.agg cs34) wq) ∧ NewC cs34 138 w33 (fun n35 w36 => f63_s4 (Addr.mk n35 0 none) a24 w36 K)))) ∧ (NewO (.map #[] 0) w.drew (fun n55 w56 => NewO (.map #[] 0) w56 (fun n57 w58 => ∃ cs59 : Array Value, (∀ wq, (Instr.build 138 [(0, (Value.pointer p26)), (1, (Value.agg cs28)), (3, (Value.agg cs29)), (5, (Value.map (some n57))), (6, (Value.map (some n55))), (7, (Value.int .i64 (-1))), (8, (Value.int .i64 (-1)))].toArray).run P wq = .ok (Value.agg cs59) wq) ∧ NewC cs59 138 w58 (fun n60 w61 => f63_s4 (Addr.mk n60 0 none) a24 w61 K)))))))) := by kernel_rfl
theorem f63_s2_eq (b20 : Bool) (a21 : Addr) (x22 : Int) (p23 : Option Addr) (w : World) (K : KT) : f63_s2 b20 a21 x22 p23 w K = (BIf b20 (K (Value.tuple [(Value.pointer none), (Value.bool false)].toArray) w) (f63_s3 a21 x22 p23 w K)) := by kernel_rfl
theorem f63_s1_eq (a10 : Addr) (x11 : Int) (p12 : Option Addr) (w : World) (K : KT) : f63_s1 a10 x11 p12 w K = (LdA 6 a10 w (fun cs13 => CallL P 64 [(Value.agg cs13)] w (fun r14 w15 => ∃ b16 : Bool, ∃ b17 : Bool, ∃ b18 : Bool, r14 = (Value.tuple [(Value.bool b16), (Value.bool b17), (Value.bool b18)].toArray) ∧ BIf b18 (∃ x19 : Int, w15.cell? (a10.add 5) = some (Value.int .i64 x19) ∧ BIf (decide ((x19 : Int) < 0)) (f63_s2 true a10 x11 p12 w15 K) (∃ x62 : Int, w15.cell? (a10.add 5) = some (Value.int .i64 x62) ∧ BIf (decide ((x62 : Int) > 65536)) (f63_s2 true a10 x11 p12 w15 K) (BIf b17 (∃ x63 : Int, w15.cell? (a10.add 5) = some (Value.int .i64 x63) ∧ BIf (decide ((x63 : Int) < 1)) (f63_s2 true a10 x11 p12 w15 K) (∃ x64 : Int, w15.cell? (a10.add 5) = some (Value.int .i64 x64) ∧ f63_s2 (decide ((x64 : Int) > 16)) a10 x11 p12 w15 K)) (f63_s2 false a10 x11 p12 w15 K)))) (BIf b17 (∃ x65 : Int, w15.cell? (a10.add 5) = some (Value.int .i64 x65) ∧ BIf (decide ((x65 : Int) < 1)) (f63_s2 true a10 x11 p12 w15 K) (∃ x66 : Int, w15.cell? (a10.add 5) = some (Value.int .i64 x66) ∧ f63_s2 (decide ((x66 : Int) > 16)) a10 x11 p12 w15 K)) (f63_s2 false a10 x11 p12 w15 K))))) := by kernel_rfl
theorem f63_s0_eq (b6 : Bool) (a7 : Addr) (x8 : Int) (p9 : Option Addr) (w : World) (K : KT) : f63_s0 b6 a7 x8 p9 w K = (BIf b6 (K (Value.tuple [(Value.pointer none), (Value.bool false)].toArray) w) (f63_s1 a7 x8 p9 w K)) := by kernel_rfl
theorem f63_eq (p0 : Option Addr) (cs1 : Array Value) (w : World) (K : KT) : f63 p0 cs1 w K = (NewC cs1 35 w (fun n2 w3 => ∃ x4 : Int, w3.cell? ((Addr.mk n2 0 none).add 1) = some (Value.int .i64 x4) ∧ ∃ x5 : Int, w3.cell? (Addr.mk n2 0 none) = some (Value.int .i64 x5) ∧ BIf (decide ((x5 : Int) < 1)) (f63_s0 true (Addr.mk n2 0 none) x4 p0 w3 K) (∃ x67 : Int, w3.cell? (Addr.mk n2 0 none) = some (Value.int .i64 x67) ∧ BIf (decide ((x67 : Int) > 24)) (f63_s0 true (Addr.mk n2 0 none) x4 p0 w3 K) (BIf (decide ((x4 : Int) < 0)) (f63_s0 true (Addr.mk n2 0 none) x4 p0 w3 K) (BIf (decide ((x4 : Int) ≥ 8)) (f63_s0 true (Addr.mk n2 0 none) x4 p0 w3 K) (optS p0 (fun a68 => 0 ≤ (x4 : Int) ∧ (x4 : Int) < (8 : Nat) ∧ ∃ b69 : Bool, w3.cell? ((a68.add 64).add (Int.toNat x4 * 1)) = some (Value.bool b69) ∧ BIf (!b69) (f63_s0 true (Addr.mk n2 0 none) x4 p0 w3 K) (optS p0 (fun a70 => 0 ≤ (x4 : Int) ∧ (x4 : Int) < (8 : Nat) ∧ ∃ b71 : Bool, w3.cell? ((a70.add 72).add (Int.toNat x4 * 1)) = some (Value.bool b71) ∧ f63_s0 b71 (Addr.mk n2 0 none) x4 p0 w3 K))))))))) := by kernel_rfl
theorem c63_eq : Go.Proofs.Try.f63.body = some c63 := by kernel_rfl
theorem f63_un (p0 : Option Addr) (cs1 : Array Value) (w : World) (K : KT) : f63 p0 cs1 w K = CS P c63 none (resT Go.Proofs.Try.f63.results.toList) (resT Go.Proofs.Try.f63.results.toList) (bodyK P Go.Proofs.Try.f63.results.toList K) (env0 Go.Proofs.Try.f63.ntmps [(Value.pointer p0), (Value.agg cs1)]) w := by kernel_rfl
theorem f63_ok (p0 : Option Addr) (cs1 : Array Value) (w : World) (K : KT) (h : f63 p0 cs1 w K) : CallL P 63 [(Value.pointer p0), (Value.agg cs1)] w K := calls_of_CS Go.Proofs.Try.func63 c63_eq (Eq.mp (f63_un p0 cs1 w K) h)
/-! 68 (*candling.race.threads).perform -/
noncomputable def c68 : Code := match Go.Proofs.Try.f68.body with
  | some c => c
  | none => .skip
noncomputable def rs68 : List ResultVar := Go.Proofs.Try.f68.results.toList
abbrev f68_kb (K : KT) : Exit → YT := bodyK P rs68 K
def f68 (p0 p1 : Option Addr) (w : World) (K : KT) : Prop := CS P c68 none [] [] (f68_kb K) (env0 108 [(Value.pointer p0), (Value.pointer p1)]) w
abbrev f68_k0 (K : KT) : Exit → YT := kseq P (codeAt c68 [0]) (codeAt c68 [1]) none [] [] (f68_kb K)
abbrev f68_k1 (K : KT) : Exit → YT := kseq P (codeAt c68 [1, 0]) (codeAt c68 [1, 1]) none [] [] (f68_kb K)
def f68_s0 (p8 : Option Addr) (x9 : Int) (p10 : Option Addr) (w : World) (K : KT) : Prop := Join (fun e w => CS P (codeAt c68 [1, 1]) none [] [] (f68_kb K) e w) (Env.mk 108 [(0, (Value.pointer p8)), (4, (Value.int .i64 x9)), (1, (Value.pointer p10))] []) w
abbrev f68_k2 (K : KT) : Exit → YT := kseq P (codeAt c68 [1, 1, 0]) (codeAt c68 [1, 1, 1]) none [] [] (f68_kb K)
abbrev f68_k3 (K : KT) : Exit → YT := kseq P (codeAt c68 [1, 1, 0, 0]) (codeAt c68 [1, 1, 0, 1]) none [0, 4, 1] [] (f68_k2 K)
abbrev f68_k4 (K : KT) : Exit → YT := kblock 0 (f68_k2 K)
def f68_lp1 (K : KT) (Y1 : YT) (e : Env) (w : World) : Prop := Join (fun e w => CS P (codeAt c68 [1, 1, 0, 1, 0, 0]) none [0, 27, 4, 1] [0, 4, 1] (kloop [0, 27, 4, 1] Y1 (f68_k4 K)) e w) e w
abbrev f68_kl1 (K : KT) (Y1 : YT) : Exit → YT := kloop [0, 27, 4, 1] Y1 (f68_k4 K)
def f68_lb1 (p15 : Option Addr) (a16 : Addr) (x17 : Int) (p18 : Option Addr) (w : World) (K : KT) (Y1 : YT) : Prop := Join (fun e w => CS P (codeAt c68 [1, 1, 0, 1, 0, 0]) none [0, 27, 4, 1] [0, 4, 1] (f68_kl1 K Y1) e w) (Env.mk 108 [(0, (Value.pointer p15)), (27, (Value.pointer (some a16))), (4, (Value.int .i64 x17)), (1, (Value.pointer p18))] []) w
abbrev f68_k5 (K : KT) (Y1 : YT) : Exit → YT := kseq P (codeAt c68 [1, 1, 0, 1, 0, 0, 0]) (codeAt c68 [1, 1, 0, 1, 0, 0, 1]) none [0, 27, 4, 1] [0, 4, 1] (f68_kl1 K Y1)
abbrev f68_k6 (K : KT) (Y1 : YT) : Exit → YT := kseq P (codeAt c68 [1, 1, 0, 1, 0, 0, 1, 0]) (codeAt c68 [1, 1, 0, 1, 0, 0, 1, 1]) none [0, 27, 4, 1] [0, 4, 1] (f68_kl1 K Y1)
def f68_s2 (p23 : Option Addr) (x24 : Int) (p25 : Option Addr) (w : World) (K : KT) : Prop := Join (fun e w => CS P (codeAt c68 [1, 1, 1]) none [] [] (f68_kb K) e w) (Env.mk 108 [(0, (Value.pointer p23)), (4, (Value.int .i64 x24)), (1, (Value.pointer p25))] []) w
abbrev f68_k7 (K : KT) : Exit → YT := kseq P (codeAt c68 [1, 1, 1, 0]) (codeAt c68 [1, 1, 1, 1]) none [] [] (f68_kb K)
abbrev f68_k8 (K : KT) : Exit → YT := kseq P (codeAt c68 [1, 1, 1, 0, 0]) (codeAt c68 [1, 1, 1, 0, 1]) none [4, 0, 1] [] (f68_k7 K)
abbrev f68_k9 (K : KT) : Exit → YT := kblock 2 (f68_k7 K)
def f68_lp3 (K : KT) (Y3 : YT) (e : Env) (w : World) : Prop := Join (fun e w => CS P (codeAt c68 [1, 1, 1, 0, 1, 0, 0]) none [0, 43, 4, 1] [4, 0, 1] (kloop [0, 43, 4, 1] Y3 (f68_k9 K)) e w) e w
abbrev f68_kl3 (K : KT) (Y3 : YT) : Exit → YT := kloop [0, 43, 4, 1] Y3 (f68_k9 K)
def f68_lb3 (p30 : Option Addr) (a31 : Addr) (x32 : Int) (p33 : Option Addr) (w : World) (K : KT) (Y3 : YT) : Prop := Join (fun e w => CS P (codeAt c68 [1, 1, 1, 0, 1, 0, 0]) none [0, 43, 4, 1] [4, 0, 1] (f68_kl3 K Y3) e w) (Env.mk 108 [(0, (Value.pointer p30)), (43, (Value.pointer (some a31))), (4, (Value.int .i64 x32)), (1, (Value.pointer p33))] []) w
abbrev f68_k10 (K : KT) (Y3 : YT) : Exit → YT := kseq P (codeAt c68 [1, 1, 1, 0, 1, 0, 0, 0]) (codeAt c68 [1, 1, 1, 0, 1, 0, 0, 1]) none [0, 43, 4, 1] [4, 0, 1] (f68_kl3 K Y3)
abbrev f68_k11 (K : KT) (Y3 : YT) : Exit → YT := kseq P (codeAt c68 [1, 1, 1, 0, 1, 0, 0, 1, 0]) (codeAt c68 [1, 1, 1, 0, 1, 0, 0, 1, 1]) none [0, 43, 4, 1] [4, 0, 1] (f68_kl3 K Y3)
def f68_s4 (x38 : Int) (p39 p40 : Option Addr) (w : World) (K : KT) : Prop := Join (fun e w => CS P (codeAt c68 [1, 1, 1, 1]) none [] [] (f68_kb K) e w) (Env.mk 108 [(4, (Value.int .i64 x38)), (0, (Value.pointer p39)), (1, (Value.pointer p40))] []) w
abbrev f68_k12 (K : KT) : Exit → YT := kseq P (codeAt c68 [1, 1, 1, 1, 0]) (codeAt c68 [1, 1, 1, 1, 1]) none [] [] (f68_kb K)
abbrev f68_k13 (K : KT) : Exit → YT := kseq P (codeAt c68 [1, 1, 1, 1, 0, 0]) (codeAt c68 [1, 1, 1, 1, 0, 1]) none [4, 0, 1] [] (f68_k12 K)
abbrev f68_k14 (K : KT) : Exit → YT := kseq P (codeAt c68 [1, 1, 1, 1, 0, 1, 0, 0]) (codeAt c68 [1, 1, 1, 1, 0, 1, 0, 1]) none [4, 0, 1] [] (f68_k12 K)
def f68_s5 (x47 : Int) (p48 p49 : Option Addr) (w : World) (K : KT) : Prop := Join (fun e w => CS P (codeAt c68 [1, 1, 1, 1, 0, 1, 0, 1]) none [4, 0, 1] [] (f68_k12 K) e w) (Env.mk 108 [(4, (Value.int .i64 x47)), (0, (Value.pointer p48)), (1, (Value.pointer p49))] []) w
def f68_s6 (x57 : Int) (p58 p59 : Option Addr) (w : World) (K : KT) : Prop := Join (fun e w => CS P (codeAt c68 [1, 1, 1, 1, 1]) none [] [] (f68_kb K) e w) (Env.mk 108 [(4, (Value.int .i64 x57)), (0, (Value.pointer p58)), (1, (Value.pointer p59))] []) w
abbrev f68_k15 (K : KT) : Exit → YT := kseq P (codeAt c68 [1, 1, 1, 1, 1, 0]) (codeAt c68 [1, 1, 1, 1, 1, 1]) none [] [] (f68_kb K)
abbrev f68_k16 (K : KT) : Exit → YT := kseq P (codeAt c68 [1, 1, 1, 1, 1, 0, 0]) (codeAt c68 [1, 1, 1, 1, 1, 0, 1]) none [4, 0, 1] [] (f68_k15 K)
def f68_s7 (x66 : Int) (p67 p68 : Option Addr) (w : World) (K : KT) : Prop := Join (fun e w => CS P (codeAt c68 [1, 1, 1, 1, 1, 1]) none [] [] (f68_kb K) e w) (Env.mk 108 [(4, (Value.int .i64 x66)), (0, (Value.pointer p67)), (1, (Value.pointer p68))] []) w
abbrev f68_k17 (K : KT) : Exit → YT := kseq P (codeAt c68 [1, 1, 1, 1, 1, 1, 0]) (codeAt c68 [1, 1, 1, 1, 1, 1, 1]) none [] [] (f68_kb K)
theorem f68_s7_eq (x66 : Int) (p67 p68 : Option Addr) (w : World) (K : KT) : f68_s7 x66 p67 p68 w K = (optS p68 (fun a69 => ∃ b70 : Bool, w.cell? (a69.add 21) = some (Value.bool b70) ∧ BIf b70 (optS p67 (fun a71 => 0 ≤ (x66 : Int) ∧ (x66 : Int) < (8 : Nat) ∧ optS p67 (fun a72 => ∃ x73 : Int, w.drew.cell? ((a71.add 80).add (Int.toNat x66 * 1)) = some (Value.int .i64 x73) ∧ 0 ≤ (x66 : Int) ∧ (x66 : Int) < (8 : Nat) ∧ St1 ((a72.add 80).add (Int.toNat x66 * 1)) (Value.int .i64 (IntKind.wrap .i64 ((x73 : Int) + 1))) w.drew (fun w74 => K (Value.tuple [].toArray) w74)))) (K (Value.tuple [].toArray) w))) := by kernel_rfl
theorem f68_s6_eq (x57 : Int) (p58 p59 : Option Addr) (w : World) (K : KT) : f68_s6 x57 p58 p59 w K = (optS p59 (fun a60 => ∃ x61 : Int, w.cell? (a60.add 20) = some (Value.int .i64 x61) ∧ BIf (decide ((x61 : Int) ≥ 0)) (optS p59 (fun a62 => optS p58 (fun a63 => ∃ x64 : Int, w.drew.cell? (a62.add 20) = some (Value.int .i64 x64) ∧ 0 ≤ (x64 : Int) ∧ (x64 : Int) < (8 : Nat) ∧ St1 ((a63.add 72).add (Int.toNat x64 * 1)) (Value.bool true) w.drew (fun w65 => f68_s7 x57 p58 p59 w65 K)))) (f68_s7 x57 p58 p59 w K))) := by kernel_rfl
theorem f68_s5_eq (x47 : Int) (p48 p49 : Option Addr) (w : World) (K : KT) : f68_s5 x47 p48 p49 w K = (optS p49 (fun a50 => optS p48 (fun a51 => optS p49 (fun a52 => ∃ x53 : Int, w.drew.cell? (a50.add 19) = some (Value.int .i64 x53) ∧ 0 ≤ (x53 : Int) ∧ (x53 : Int) < (8 : Nat) ∧ LdA 8 (a52.add 8) w.drew (fun cs54 => CallL P 97 [(Value.pointer (some (a51.add (Int.toNat x53 * 8)))), (Value.agg cs54)] w.drew (fun r55 w56 => r55 = (Value.tuple [].toArray) ∧ f68_s6 x47 p48 p49 w56 K)))))) := by kernel_rfl
theorem f68_s4_eq (x38 : Int) (p39 p40 : Option Addr) (w : World) (K : KT) : f68_s4 x38 p39 p40 w K = (optS p40 (fun a41 => ∃ x42 : Int, w.cell? (a41.add 19) = some (Value.int .i64 x42) ∧ BIf (decide ((x42 : Int) ≥ 0)) (optS p40 (fun a43 => optS p39 (fun a44 => ∃ x45 : Int, w.drew.cell? (a43.add 19) = some (Value.int .i64 x45) ∧ 0 ≤ (x45 : Int) ∧ (x45 : Int) < (8 : Nat) ∧ St1 ((a44.add 64).add (Int.toNat x45 * 1)) (Value.bool true) w.drew (fun w46 => f68_s5 x38 p39 p40 w46 K)))) (f68_s6 x38 p39 p40 w K))) := by kernel_rfl
def f68_s8 (p75 : Option Addr) (a76 : Addr) (x77 : Int) (p78 : Option Addr) (w : World) (K : KT) (Y3 : YT) : Prop := Join (fun e w => CS P (codeAt c68 [1, 1, 1, 0, 1, 0, 0, 1, 1]) none [0, 43, 4, 1] [4, 0, 1] (f68_kl3 K Y3) e w) (Env.mk 108 [(0, (Value.pointer p75)), (43, (Value.pointer (some a76))), (4, (Value.int .i64 x77)), (1, (Value.pointer p78))] []) w
abbrev f68_k18 (K : KT) (Y3 : YT) : Exit → YT := kblock 3 (f68_kl3 K Y3)
abbrev f68_k19 (K : KT) (Y3 : YT) : Exit → YT := kseq P (codeAt c68 [1, 1, 1, 0, 1, 0, 0, 1, 1, 0, 0]) (codeAt c68 [1, 1, 1, 0, 1, 0, 0, 1, 1, 0, 1]) none [0, 43, 4, 1] [4, 0, 1, 43] (f68_k18 K Y3)
theorem f68_s8_eq (p75 : Option Addr) (a76 : Addr) (x77 : Int) (p78 : Option Addr) (w : World) (K : KT) (Y3 : YT) : f68_s8 p75 a76 x77 p78 w K Y3 = (∃ (k80 v81 : Value) (w79 : World), (Instr.entry (Value.pointer (some a76))).run P w = .ok (.tuple #[k80, v81]) w79 ∧ ∃ cs82 : Array Value, k80 = (Value.agg cs82) ∧ ∃ x83 : Int, v81 = (Value.int .i64 x83) ∧ NewC (zcells P 147) 147 w79 (fun n84 w85 => StA 2 (Addr.mk n84 0 none) cs82 w85 (fun w86 => optS p75 (fun a87 => ∃ m88 : Option Nat, w86.drew.cell? (a87.add 89) = some (Value.map m88) ∧ LdA 2 (Addr.mk n84 0 none) w86.drew (fun cs89 => ∃ w90 : World, (Instr.mapUpdate 119 (Value.map m88) (Value.agg cs89) (Value.int .i64 x83)).run P w86.drew = .ok () w90 ∧ Y3 (Env.mk 108 [(0, (Value.pointer p75)), (43, (Value.pointer (some a76))), (4, (Value.int .i64 x77)), (1, (Value.pointer p78))] []) w90))))) := by kernel_rfl
theorem f68_lb3_eq (p30 : Option Addr) (a31 : Addr) (x32 : Int) (p33 : Option Addr) (w : World) (K : KT) (Y3 : YT) : f68_lb3 p30 a31 x32 p33 w K Y3 = ((∃ w34 : World, (Instr.next (Value.pointer (some a31)) false 0).run P w = .ok (.tuple #[.bool false]) w34 ∧ f68_s4 x32 p30 p33 w34 K) ∨ ∃ (k36 v37 : Value) (w35 : World), (Instr.next (Value.pointer (some a31)) false 0).run P w = .ok (.tuple #[.bool true, k36, v37]) w35 ∧ f68_s8 p30 a31 x32 p33 w35 K Y3) := by kernel_rfl
theorem f68_s2_eq (p23 : Option Addr) (x24 : Int) (p25 : Option Addr) (w : World) (K : KT) : f68_s2 p23 x24 p25 w K = (optS p25 (fun a26 => ∃ m27 : Option Nat, w.cell? (a26.add 18) = some (Value.map m27) ∧ ∃ (n28 : Nat) (w29 : World), (Instr.range 119 (Value.map m27)).run P w = .ok (.pointer (some (Addr.mk n28 0 none))) w29 ∧ LoopE (f68_lp3 K) (Env.mk 108 [(0, (Value.pointer p23)), (43, (Value.pointer (some (Addr.mk n28 0 none)))), (4, (Value.int .i64 x24)), (1, (Value.pointer p25))] []) w29)) := by kernel_rfl
def f68_s9 (p91 : Option Addr) (a92 : Addr) (x93 : Int) (p94 : Option Addr) (w : World) (K : KT) (Y1 : YT) : Prop := Join (fun e w => CS P (codeAt c68 [1, 1, 0, 1, 0, 0, 1, 1]) none [0, 27, 4, 1] [0, 4, 1] (f68_kl1 K Y1) e w) (Env.mk 108 [(0, (Value.pointer p91)), (27, (Value.pointer (some a92))), (4, (Value.int .i64 x93)), (1, (Value.pointer p94))] []) w
abbrev f68_k20 (K : KT) (Y1 : YT) : Exit → YT := kblock 1 (f68_kl1 K Y1)
abbrev f68_k21 (K : KT) (Y1 : YT) : Exit → YT := kseq P (codeAt c68 [1, 1, 0, 1, 0, 0, 1, 1, 0, 0]) (codeAt c68 [1, 1, 0, 1, 0, 0, 1, 1, 0, 1]) none [0, 27, 4, 1] [0, 4, 1, 27] (f68_k20 K Y1)
theorem f68_s9_eq (p91 : Option Addr) (a92 : Addr) (x93 : Int) (p94 : Option Addr) (w : World) (K : KT) (Y1 : YT) : f68_s9 p91 a92 x93 p94 w K Y1 = (∃ (k96 v97 : Value) (w95 : World), (Instr.entry (Value.pointer (some a92))).run P w = .ok (.tuple #[k96, v97]) w95 ∧ ∃ cs98 : Array Value, k96 = (Value.agg cs98) ∧ ∃ cs99 : Array Value, v97 = (Value.agg cs99) ∧ NewC (zcells P 147) 147 w95 (fun n100 w101 => NewC (zcells P 116) 116 w101 (fun n102 w103 => StA 2 (Addr.mk n100 0 none) cs98 w103 (fun w104 => StA 8 (Addr.mk n102 0 none) cs99 w104 (fun w105 => optS p91 (fun a106 => ∃ m107 : Option Nat, w105.drew.cell? (a106.add 88) = some (Value.map m107) ∧ LdA 2 (Addr.mk n100 0 none) w105.drew (fun cs108 => LdA 8 (Addr.mk n102 0 none) w105.drew (fun cs109 => ∃ w110 : World, (Instr.mapUpdate 118 (Value.map m107) (Value.agg cs108) (Value.agg cs109)).run P w105.drew = .ok () w110 ∧ Y1 (Env.mk 108 [(0, (Value.pointer p91)), (27, (Value.pointer (some a92))), (4, (Value.int .i64 x93)), (1, (Value.pointer p94))] []) w110)))))))) := by kernel_rfl
theorem f68_lb1_eq (p15 : Option Addr) (a16 : Addr) (x17 : Int) (p18 : Option Addr) (w : World) (K : KT) (Y1 : YT) : f68_lb1 p15 a16 x17 p18 w K Y1 = ((∃ w19 : World, (Instr.next (Value.pointer (some a16)) false 0).run P w = .ok (.tuple #[.bool false]) w19 ∧ f68_s2 p15 x17 p18 w19 K) ∨ ∃ (k21 v22 : Value) (w20 : World), (Instr.next (Value.pointer (some a16)) false 0).run P w = .ok (.tuple #[.bool true, k21, v22]) w20 ∧ f68_s9 p15 a16 x17 p18 w20 K Y1) := by kernel_rfl
theorem f68_s0_eq (p8 : Option Addr) (x9 : Int) (p10 : Option Addr) (w : World) (K : KT) : f68_s0 p8 x9 p10 w K = (optS p10 (fun a11 => ∃ m12 : Option Nat, w.cell? (a11.add 17) = some (Value.map m12) ∧ ∃ (n13 : Nat) (w14 : World), (Instr.range 118 (Value.map m12)).run P w = .ok (.pointer (some (Addr.mk n13 0 none))) w14 ∧ LoopE (f68_lp1 K) (Env.mk 108 [(0, (Value.pointer p8)), (27, (Value.pointer (some (Addr.mk n13 0 none)))), (4, (Value.int .i64 x9)), (1, (Value.pointer p10))] []) w14)) := by kernel_rfl
theorem f68_eq (p0 p1 : Option Addr) (w : World) (K : KT) : f68 p0 p1 w K = (optS p1 (fun a2 => ∃ x3 : Int, w.cell? ((a2.add 1).add 1) = some (Value.int .i64 x3) ∧ optS p1 (fun a4 => optS p0 (fun a5 => LdA 8 (a4.add 8) w.drew (fun cs6 => 0 ≤ (x3 : Int) ∧ (x3 : Int) < (8 : Nat) ∧ StA 8 (a5.add (Int.toNat x3 * 8)) cs6 w.drew (fun w7 => f68_s0 p0 x3 p1 w7 K)))))) := by kernel_rfl
theorem c68_eq : Go.Proofs.Try.f68.body = some c68 := by kernel_rfl
theorem f68_un (p0 p1 : Option Addr) (w : World) (K : KT) : f68 p0 p1 w K = CS P c68 none (resT Go.Proofs.Try.f68.results.toList) (resT Go.Proofs.Try.f68.results.toList) (bodyK P Go.Proofs.Try.f68.results.toList K) (env0 Go.Proofs.Try.f68.ntmps [(Value.pointer p0), (Value.pointer p1)]) w := by kernel_rfl
theorem f68_ok (p0 p1 : Option Addr) (w : World) (K : KT) (h : f68 p0 p1 w K) : CallL P 68 [(Value.pointer p0), (Value.pointer p1)] w K := calls_of_CS Go.Proofs.Try.func68 c68_eq (Eq.mp (f68_un p0 p1 w K) h)
/-! 66 (*candling.race.cell).race -/
noncomputable def c66 : Code := match Go.Proofs.Try.f66.body with
  | some c => c
  | none => .skip
noncomputable def rs66 : List ResultVar := Go.Proofs.Try.f66.results.toList
abbrev f66_kb (K : KT) : Exit → YT := bodyK P rs66 K
def f66 (p0 : Option Addr) (cs1 cs2 : Array Value) (w : World) (K : KT) : Prop := CS P c66 none [6, 7] [6, 7] (f66_kb K) (env0 37 [(Value.pointer p0), (Value.agg cs1), (Value.agg cs2)]) w
abbrev f66_k0 (K : KT) : Exit → YT := kseq P (codeAt c66 [0]) (codeAt c66 [1]) none [6, 7] [6, 7] (f66_kb K)
abbrev f66_k1 (K : KT) : Exit → YT := kseq P (codeAt c66 [1, 0]) (codeAt c66 [1, 1]) none [6, 7] [6, 7] (f66_kb K)
abbrev f66_k2 (K : KT) : Exit → YT := kseq P (codeAt c66 [1, 0, 0]) (codeAt c66 [1, 0, 1]) none [6] [6, 7] (f66_k1 K)
abbrev f66_k3 (K : KT) : Exit → YT := kblock 0 (f66_k1 K)
def f66_lp0 (K : KT) (Y0 : YT) (e : Env) (w : World) : Prop := Join (fun e w => CS P (codeAt c66 [1, 0, 1, 0, 0]) none [6, 15, 5, 4, 13, 7, 14] [6, 7] (kloop [6, 15, 5, 4, 13, 7, 14] Y0 (f66_k3 K)) e w) e w
abbrev f66_kl0 (K : KT) (Y0 : YT) : Exit → YT := kloop [6, 15, 5, 4, 13, 7, 14] Y0 (f66_k3 K)
def f66_lb0 (a12 : Addr) (x13 : Int) (a14 a15 : Addr) (s16a : Option Addr) (s16l s16c : Nat) (b17 : Bool) (x18 : Int) (w : World) (K : KT) (Y0 : YT) : Prop := Join (fun e w => CS P (codeAt c66 [1, 0, 1, 0, 0]) none [6, 15, 5, 4, 13, 7, 14] [6, 7] (f66_kl0 K Y0) e w) (Env.mk 37 [(6, (Value.pointer (some a12))), (15, (Value.int .i64 x13)), (5, (Value.pointer (some a14))), (4, (Value.pointer (some a15))), (13, (Value.slice s16a s16l s16c)), (7, (Value.bool b17)), (14, (Value.int .i64 x18))] []) w
abbrev f66_k4 (K : KT) (Y0 : YT) : Exit → YT := kseq P (codeAt c66 [1, 0, 1, 0, 0, 0]) (codeAt c66 [1, 0, 1, 0, 0, 1]) none [6, 15, 5, 4, 13, 7, 14] [6, 7] (f66_kl0 K Y0)
abbrev f66_k5 (K : KT) (Y0 : YT) : Exit → YT := kseq P (codeAt c66 [1, 0, 1, 0, 0, 1, 0]) (codeAt c66 [1, 0, 1, 0, 0, 1, 1]) none [6, 15, 5, 4, 13, 7, 14] [6, 7] (f66_kl0 K Y0)
def f66_s1 (a19 a20 a21 : Addr) (s22a : Option Addr) (s22l s22c : Nat) (x23 x24 : Int) (b25 : Bool) (w : World) (K : KT) (Y0 : YT) : Prop := Join (fun e w => CS P (codeAt c66 [1, 0, 1, 0, 0, 1, 1]) none [6, 15, 5, 4, 13, 7, 14] [6, 7] (f66_kl0 K Y0) e w) (Env.mk 37 [(6, (Value.pointer (some a19))), (5, (Value.pointer (some a20))), (4, (Value.pointer (some a21))), (13, (Value.slice s22a s22l s22c)), (14, (Value.int .i64 x23)), (15, (Value.int .i64 x24)), (7, (Value.bool b25))] []) w
abbrev f66_k6 (K : KT) (Y0 : YT) : Exit → YT := kseq P (codeAt c66 [1, 0, 1, 0, 0, 1, 1, 0]) (codeAt c66 [1, 0, 1, 0, 0, 1, 1, 1]) none [6, 15, 5, 4, 13, 7, 14] [6, 7] (f66_kl0 K Y0)
abbrev f66_k7 (K : KT) (Y0 : YT) : Exit → YT := kblock 1 (f66_k6 K Y0)
abbrev f66_k8 (K : KT) (Y0 : YT) : Exit → YT := kseq P (codeAt c66 [1, 0, 1, 0, 0, 1, 1, 0, 0, 0]) (codeAt c66 [1, 0, 1, 0, 0, 1, 1, 0, 0, 1]) none [6, 5, 4, 13, 7, 14, 15] [6, 7, 5, 4, 13, 14, 15] (f66_k7 K Y0)
abbrev f66_k9 (K : KT) (Y0 : YT) : Exit → YT := kseq P (codeAt c66 [1, 0, 1, 0, 0, 1, 1, 0, 0, 1, 0]) (codeAt c66 [1, 0, 1, 0, 0, 1, 1, 0, 0, 1, 1]) none [6, 5, 4, 13, 7, 14, 15] [6, 7, 5, 4, 13, 14, 15] (f66_k7 K Y0)
def f66_s2 (b39 : Bool) (a40 a41 a42 : Addr) (s43a : Option Addr) (s43l s43c : Nat) (x44 x45 : Int) (a46 : Addr) (b47 : Bool) (w : World) (K : KT) (Y0 : YT) : Prop := Join (fun e w => CS P (codeAt c66 [1, 0, 1, 0, 0, 1, 1, 0, 0, 1, 1]) none [6, 5, 4, 13, 7, 14, 15] [6, 7, 5, 4, 13, 14, 15] (f66_k7 K Y0) e w) (Env.mk 37 [(32, (Value.bool b39)), (6, (Value.pointer (some a40))), (5, (Value.pointer (some a41))), (4, (Value.pointer (some a42))), (13, (Value.slice s43a s43l s43c)), (14, (Value.int .i64 x44)), (15, (Value.int .i64 x45)), (9, (Value.pointer (some a46))), (7, (Value.bool b47))] []) w
abbrev f66_k10 (K : KT) (Y0 : YT) : Exit → YT := kseq P (codeAt c66 [1, 0, 1, 0, 0, 1, 1, 0, 0, 1, 1, 0, 0]) (codeAt c66 [1, 0, 1, 0, 0, 1, 1, 0, 0, 1, 1, 0, 1]) none [6, 5, 4, 13, 7, 14, 15] [6, 7, 5, 4, 13, 14, 15] (f66_k7 K Y0)
def f66_s3 (a51 a52 a53 : Addr) (s54a : Option Addr) (s54l s54c : Nat) (b55 : Bool) (x56 x57 : Int) (w : World) (K : KT) (Y0 : YT) : Prop := Join (fun e w => CS P (codeAt c66 [1, 0, 1, 0, 0, 1, 1, 1]) none [6, 15, 5, 4, 13, 7, 14] [6, 7] (f66_kl0 K Y0) e w) (Env.mk 37 [(6, (Value.pointer (some a51))), (5, (Value.pointer (some a52))), (4, (Value.pointer (some a53))), (13, (Value.slice s54a s54l s54c)), (7, (Value.bool b55)), (14, (Value.int .i64 x56)), (15, (Value.int .i64 x57))] []) w
theorem f66_s3_eq (a51 a52 a53 : Addr) (s54a : Option Addr) (s54l s54c : Nat) (b55 : Bool) (x56 x57 : Int) (w : World) (K : KT) (Y0 : YT) : f66_s3 a51 a52 a53 s54a s54l s54c b55 x56 x57 w K Y0 = (Y0 (Env.mk 37 [(6, (Value.pointer (some a51))), (15, (Value.int .i64 (IntKind.wrap .i64 ((x57 : Int) + 1)))), (5, (Value.pointer (some a52))), (4, (Value.pointer (some a53))), (13, (Value.slice s54a s54l s54c)), (7, (Value.bool b55)), (14, (Value.int .i64 x56))] []) w) := by kernel_rfl
theorem f66_s2_eq (b39 : Bool) (a40 a41 a42 : Addr) (s43a : Option Addr) (s43l s43c : Nat) (x44 x45 : Int) (a46 : Addr) (b47 : Bool) (w : World) (K : KT) (Y0 : YT) : f66_s2 b39 a40 a41 a42 s43a s43l s43c x44 x45 a46 b47 w K Y0 = (BIf b39 (LdA 5 a46 w (fun cs48 => StA 5 a40 cs48 w (fun w49 => LdA 5 a40 w49 (fun cs50 => K (Value.tuple [(Value.agg cs50), (Value.bool true)].toArray) w49)))) (f66_s3 a40 a41 a42 s43a s43l s43c b47 x44 x45 w K Y0)) := by kernel_rfl
theorem f66_s1_eq (a19 a20 a21 : Addr) (s22a : Option Addr) (s22l s22c : Nat) (x23 x24 : Int) (b25 : Bool) (w : World) (K : KT) (Y0 : YT) : f66_s1 a19 a20 a21 s22a s22l s22c x23 x24 b25 w K Y0 = (optS s22a (fun a26 => 0 ≤ (x24 : Int) ∧ (x24 : Int) < (s22l : Nat) ∧ LdA 6 (a26.add (Int.toNat x24 * 6)) w (fun cs27 => NewC (zcells P 152) 152 w (fun n28 w29 => StA 6 (Addr.mk n28 0 none) cs27 w29 (fun w30 => LdA 5 (Addr.mk n28 0 none) w30.drew (fun cs31 => LdA 5 a21 w30.drew (fun cs32 => CallL P 59 [(Value.agg cs31), (Value.agg cs32)] w30.drew (fun r33 w34 => ∃ b35 : Bool, r33 = (Value.bool b35) ∧ BIf b35 (∃ x36 : Int, w34.cell? ((Addr.mk n28 0 none).add 1) = some (Value.int .i64 x36) ∧ 0 ≤ (x36 : Int) ∧ (x36 : Int) < (8 : Nat) ∧ ∃ x37 : Int, w34.cell? (a20.add (Int.toNat x36 * 1)) = some (Value.int .i64 x37) ∧ ∃ x38 : Int, w34.cell? ((Addr.mk n28 0 none).add 5) = some (Value.int .i64 x38) ∧ f66_s2 (decide ((x37 : Int) < x38)) a19 a20 a21 s22a s22l s22c x23 x24 (Addr.mk n28 0 none) b25 w34 K Y0) (f66_s2 false a19 a20 a21 s22a s22l s22c x23 x24 (Addr.mk n28 0 none) b25 w34 K Y0))))))))) := by kernel_rfl
def f66_s4 (a58 : Addr) (w : World) (K : KT) : Prop := Join (fun e w => CS P (codeAt c66 [1, 1]) none [6, 7] [6, 7] (f66_kb K) e w) (Env.mk 37 [(6, (Value.pointer (some a58)))] []) w
abbrev f66_k11 (K : KT) : Exit → YT := kseq P (codeAt c66 [1, 1, 0]) (codeAt c66 [1, 1, 1]) none [6, 7] [6, 7] (f66_kb K)
theorem f66_s4_eq (a58 : Addr) (w : World) (K : KT) : f66_s4 a58 w K = (∃ cs59 : Array Value, (∀ wq, (Instr.build 45 [].toArray).run P wq = .ok (Value.agg cs59) wq) ∧ StA 5 a58 cs59 w (fun w60 => LdA 5 a58 w60 (fun cs61 => K (Value.tuple [(Value.agg cs61), (Value.bool false)].toArray) w60))) := by kernel_rfl
theorem f66_lb0_eq (a12 : Addr) (x13 : Int) (a14 a15 : Addr) (s16a : Option Addr) (s16l s16c : Nat) (b17 : Bool) (x18 : Int) (w : World) (K : KT) (Y0 : YT) : f66_lb0 a12 x13 a14 a15 s16a s16l s16c b17 x18 w K Y0 = (BIf (decide ((x13 : Int) < x18)) (f66_s1 a12 a14 a15 s16a s16l s16c x18 x13 b17 w K Y0) (f66_s4 a12 w K)) := by kernel_rfl
theorem f66_eq (p0 : Option Addr) (cs1 cs2 : Array Value) (w : World) (K : KT) : f66 p0 cs1 cs2 w K = (NewC cs1 45 w (fun n3 w4 => NewC cs2 116 w4 (fun n5 w6 => NewC (zcells P 45) 45 w6 (fun n7 w8 => optS p0 (fun a9 => ∃ (s10a : Option Addr) (s10l s10c : Nat), w8.cell? a9 = some (Value.slice s10a s10l s10c) ∧ ∃ x11 : Int, (∀ wq, Ext w8 wq → (Builtin.len_ #[139] 3 [(Value.slice s10a s10l s10c)].toArray).run P wq = .ok (Value.int .i64 x11) wq) ∧ LoopE (f66_lp0 K) (Env.mk 37 [(6, (Value.pointer (some (Addr.mk n7 0 none)))), (15, (Value.int .i64 0)), (5, (Value.pointer (some (Addr.mk n5 0 none)))), (4, (Value.pointer (some (Addr.mk n3 0 none)))), (13, (Value.slice s10a s10l s10c)), (7, (Value.bool false)), (14, (Value.int .i64 x11))] []) w8))))) := by kernel_rfl
theorem c66_eq : Go.Proofs.Try.f66.body = some c66 := by kernel_rfl
theorem f66_un (p0 : Option Addr) (cs1 cs2 : Array Value) (w : World) (K : KT) : f66 p0 cs1 cs2 w K = CS P c66 none (resT Go.Proofs.Try.f66.results.toList) (resT Go.Proofs.Try.f66.results.toList) (bodyK P Go.Proofs.Try.f66.results.toList K) (env0 Go.Proofs.Try.f66.ntmps [(Value.pointer p0), (Value.agg cs1), (Value.agg cs2)]) w := by kernel_rfl
theorem f66_ok (p0 : Option Addr) (cs1 cs2 : Array Value) (w : World) (K : KT) (h : f66 p0 cs1 cs2 w K) : CallL P 66 [(Value.pointer p0), (Value.agg cs1), (Value.agg cs2)] w K := calls_of_CS Go.Proofs.Try.func66 c66_eq (Eq.mp (f66_un p0 cs1 cs2 w K) h)
/-! 67 (*candling.race.cell).remember -/
noncomputable def c67 : Code := match Go.Proofs.Try.f67.body with
  | some c => c
  | none => .skip
noncomputable def rs67 : List ResultVar := Go.Proofs.Try.f67.results.toList
abbrev f67_kb (K : KT) : Exit → YT := bodyK P rs67 K
def f67 (p0 : Option Addr) (cs1 : Array Value) (x2 x3 : Int) (w : World) (K : KT) : Prop := CS P c67 none [] [] (f67_kb K) (env0 40 [(Value.pointer p0), (Value.agg cs1), (Value.int .i64 x2), (Value.int .i64 x3)]) w
abbrev f67_k0 (K : KT) : Exit → YT := kseq P (codeAt c67 [0]) (codeAt c67 [1]) none [] [] (f67_kb K)
abbrev f67_k1 (K : KT) : Exit → YT := kseq P (codeAt c67 [1, 0]) (codeAt c67 [1, 1]) none [] [] (f67_kb K)
def f67_s0 (x12 : Int) (a13 : Addr) (p14 : Option Addr) (x15 : Int) (p16 : Option Addr) (w : World) (K : KT) : Prop := Join (fun e w => CS P (codeAt c67 [1, 1]) none [] [] (f67_kb K) e w) (Env.mk 40 [(2, (Value.int .i64 x12)), (5, (Value.pointer (some a13))), (0, (Value.pointer p14)), (3, (Value.int .i64 x15)), (8, (Value.pointer p16))] []) w
abbrev f67_k2 (K : KT) : Exit → YT := kseq P (codeAt c67 [1, 1, 0]) (codeAt c67 [1, 1, 1]) none [] [] (f67_kb K)
abbrev f67_k3 (K : KT) : Exit → YT := kseq P (codeAt c67 [1, 1, 0, 0]) (codeAt c67 [1, 1, 0, 1]) none [2, 5, 0, 3, 8] [] (f67_k2 K)
def f67_s1 (x19 : Int) (a20 : Addr) (p21 : Option Addr) (x22 : Int) (p23 : Option Addr) (w : World) (K : KT) : Prop := Join (fun e w => CS P (codeAt c67 [1, 1, 1]) none [] [] (f67_kb K) e w) (Env.mk 40 [(2, (Value.int .i64 x19)), (5, (Value.pointer (some a20))), (0, (Value.pointer p21)), (3, (Value.int .i64 x22)), (8, (Value.pointer p23))] []) w
abbrev f67_k4 (K : KT) : Exit → YT := kseq P (codeAt c67 [1, 1, 1, 0]) (codeAt c67 [1, 1, 1, 1]) none [] [] (f67_kb K)
theorem f67_s1_eq (x19 : Int) (a20 : Addr) (p21 : Option Addr) (x22 : Int) (p23 : Option Addr) (w : World) (K : KT) : f67_s1 x19 a20 p21 x22 p23 w K = (optS p23 (fun a24 => St1 a24 (Value.int .i64 (IntKind.wrap .i64 ((x22 : Int) + 1))) w (fun w25 => optS p21 (fun a26 => LdA 5 a20 w25.drew (fun cs27 => ∃ cs28 : Array Value, (∀ wq, (Instr.build 152 [(0, (Value.agg cs27)), (1, (Value.int .i64 x19))].toArray).run P wq = .ok (Value.agg cs28) wq) ∧ (∃ (s29a : Option Addr) (s29l s29c : Nat), w25.drew.cell? a26 = some (Value.slice s29a s29l s29c) ∧ sizesAre 6 [(Value.agg cs28)] ∧ NewC (([(Value.agg cs28)].map fun (v : Value) => v.cells.toList).flatten.toArray) 152 w25.drew (fun n33 w31 => ∃ (s34a : Option Addr) (s34l s34c : Nat), ∃ w35 : World, (Builtin.append_ #[139, 139] 139 [(Value.slice s29a s29l s29c), (Value.slice (some (Addr.mk n33 0 none)) 1 1)].toArray).run P w31 = .ok (Value.slice s34a s34l s34c) w35 ∧ optS p21 (fun a36 => St1 a36 (Value.slice s34a s34l s34c) w35 (fun w37 => K (Value.tuple [].toArray) w37)))) ∧ (sizesAre 6 [(Value.agg cs28)] ∧ NewC (([(Value.agg cs28)].map fun (v : Value) => v.cells.toList).flatten.toArray) 152 w25.drew (fun n41 w39 => ∃ (s42a : Option Addr) (s42l s42c : Nat), w39.cell? a26 = some (Value.slice s42a s42l s42c) ∧ ∃ (s43a : Option Addr) (s43l s43c : Nat), ∃ w44 : World, (Builtin.append_ #[139, 139] 139 [(Value.slice s42a s42l s42c), (Value.slice (some (Addr.mk n41 0 none)) 1 1)].toArray).run P w39 = .ok (Value.slice s43a s43l s43c) w44 ∧ optS p21 (fun a45 => St1 a45 (Value.slice s43a s43l s43c) w44 (fun w46 => K (Value.tuple [].toArray) w46))))))))) := by kernel_rfl
theorem f67_s0_eq (x12 : Int) (a13 : Addr) (p14 : Option Addr) (x15 : Int) (p16 : Option Addr) (w : World) (K : KT) : f67_s0 x12 a13 p14 x15 p16 w K = (optS p16 (fun a17 => ∃ x18 : Int, w.cell? a17 = some (Value.int .i64 x18) ∧ BIf ((x18 : Int) == (IntKind.wrap .i64 ((x15 : Int) + 1))) (K (Value.tuple [].toArray) w) (f67_s1 x12 a13 p14 x15 p16 w K))) := by kernel_rfl
theorem f67_eq (p0 : Option Addr) (cs1 : Array Value) (x2 x3 : Int) (w : World) (K : KT) : f67 p0 cs1 x2 x3 w K = (NewC cs1 45 w (fun n4 w5 => optS p0 (fun a6 => LdA 5 (Addr.mk n4 0 none) w5.drew (fun cs7 => (∃ x8 : Int, w5.drew.cell? ((Addr.mk n4 0 none).add 1) = some (Value.int .i64 x8) ∧ 0 ≤ (x8 : Int) ∧ (x8 : Int) < (8 : Nat) ∧ CallL P 96 [(Value.agg cs7)] w5.drew (fun r9 w10 => ∃ x11 : Int, r9 = (Value.int .i64 x11) ∧ 0 ≤ (x11 : Int) ∧ (x11 : Int) < (3 : Nat) ∧ f67_s0 x2 (Addr.mk n4 0 none) p0 x3 (some (((a6.add 1).add (Int.toNat x8 * 3)).add (Int.toNat x11 * 1))) w10 K)) ∧ (CallL P 96 [(Value.agg cs7)] w5.drew (fun r47 w48 => ∃ x49 : Int, r47 = (Value.int .i64 x49) ∧ ∃ x50 : Int, w48.cell? ((Addr.mk n4 0 none).add 1) = some (Value.int .i64 x50) ∧ 0 ≤ (x50 : Int) ∧ (x50 : Int) < (8 : Nat) ∧ 0 ≤ (x49 : Int) ∧ (x49 : Int) < (3 : Nat) ∧ f67_s0 x2 (Addr.mk n4 0 none) p0 x3 (some (((a6.add 1).add (Int.toNat x50 * 3)).add (Int.toNat x49 * 1))) w48 K)))))) := by kernel_rfl
theorem c67_eq : Go.Proofs.Try.f67.body = some c67 := by kernel_rfl
theorem f67_un (p0 : Option Addr) (cs1 : Array Value) (x2 x3 : Int) (w : World) (K : KT) : f67 p0 cs1 x2 x3 w K = CS P c67 none (resT Go.Proofs.Try.f67.results.toList) (resT Go.Proofs.Try.f67.results.toList) (bodyK P Go.Proofs.Try.f67.results.toList K) (env0 Go.Proofs.Try.f67.ntmps [(Value.pointer p0), (Value.agg cs1), (Value.int .i64 x2), (Value.int .i64 x3)]) w := by kernel_rfl
theorem f67_ok (p0 : Option Addr) (cs1 : Array Value) (x2 x3 : Int) (w : World) (K : KT) (h : f67 p0 cs1 x2 x3 w K) : CallL P 67 [(Value.pointer p0), (Value.agg cs1), (Value.int .i64 x2), (Value.int .i64 x3)] w K := calls_of_CS Go.Proofs.Try.func67 c67_eq (Eq.mp (f67_un p0 cs1 x2 x3 w K) h)
end Go.Fx.Try
namespace Go.Fx.Try
set_option maxRecDepth 100000
open Go Go.Fx
/-! 26 candling.candlinglaw30.ev -/
noncomputable def c26 : Code := match Go.Proofs.Try.f26.body with
  | some c => c
  | none => .skip
noncomputable def rs26 : List ResultVar := Go.Proofs.Try.f26.results.toList
abbrev f26_kb (K : KT) : Exit → YT := bodyK P rs26 K
def f26 (x0 x1 x2 x3 : Int) (w : World) (K : KT) : Prop := CS P c26 none [8] [8] (f26_kb K) (env0 14 [(Value.int .i64 x0), (Value.int .i64 x1), (Value.int .u32 x2), (Value.int .i64 x3)]) w
abbrev f26_k0 (K : KT) : Exit → YT := kseq P (codeAt c26 [0]) (codeAt c26 [1]) none [8] [8] (f26_kb K)
abbrev f26_k1 (K : KT) : Exit → YT := kseq P (codeAt c26 [1, 0]) (codeAt c26 [1, 1]) none [8] [8] (f26_kb K)
theorem f26_eq (x0 x1 x2 x3 : Int) (w : World) (K : KT) : f26 x0 x1 x2 x3 w K = (NewC (zcells P 35) 35 w (fun n4 w5 => ∃ cs6 : Array Value, (∀ wq, (Instr.build 35 [(0, (Value.int .i64 x0)), (1, (Value.int .i64 x1)), (3, (Value.int .u32 x2)), (5, (Value.int .i64 x3))].toArray).run P wq = .ok (Value.agg cs6) wq) ∧ StA 6 (Addr.mk n4 0 none) cs6 w5 (fun w7 => LdA 6 (Addr.mk n4 0 none) w7 (fun cs8 => K (Value.agg cs8) w7)))) := by kernel_rfl
theorem c26_eq : Go.Proofs.Try.f26.body = some c26 := by kernel_rfl
theorem f26_un (x0 x1 x2 x3 : Int) (w : World) (K : KT) : f26 x0 x1 x2 x3 w K = CS P c26 none (resT Go.Proofs.Try.f26.results.toList) (resT Go.Proofs.Try.f26.results.toList) (bodyK P Go.Proofs.Try.f26.results.toList K) (env0 Go.Proofs.Try.f26.ntmps [(Value.int .i64 x0), (Value.int .i64 x1), (Value.int .u32 x2), (Value.int .i64 x3)]) w := by kernel_rfl
theorem f26_ok (x0 x1 x2 x3 : Int) (w : World) (K : KT) (h : f26 x0 x1 x2 x3 w K) : CallL P 26 [(Value.int .i64 x0), (Value.int .i64 x1), (Value.int .u32 x2), (Value.int .i64 x3)] w K := calls_of_CS Go.Proofs.Try.func26 c26_eq (Eq.mp (f26_un x0 x1 x2 x3 w K) h)
/-! 44 slices.Equal[[][3]int,[3]int] -/
noncomputable def c44 : Code := match Go.Proofs.Try.f44.body with
  | some c => c
  | none => .skip
noncomputable def rs44 : List ResultVar := Go.Proofs.Try.f44.results.toList
abbrev f44_kb (K : KT) : Exit → YT := bodyK P rs44 K
def f44 (s0a : Option Addr) (s0l s0c : Nat) (s1a : Option Addr) (s1l s1c : Nat) (w : World) (K : KT) : Prop := CS P c44 none [4] [4] (f44_kb K) (env0 26 [(Value.slice s0a s0l s0c), (Value.slice s1a s1l s1c)]) w
abbrev f44_k0 (K : KT) : Exit → YT := kseq P (codeAt c44 [0]) (codeAt c44 [1]) none [4] [4] (f44_kb K)
abbrev f44_k1 (K : KT) : Exit → YT := kseq P (codeAt c44 [1, 0]) (codeAt c44 [1, 1]) none [4] [4] (f44_kb K)
abbrev f44_k2 (K : KT) : Exit → YT := kseq P (codeAt c44 [1, 0, 0]) (codeAt c44 [1, 0, 1]) none [1, 0, 4] [4] (f44_k1 K)
abbrev f44_k3 (K : KT) : Exit → YT := kseq P (codeAt c44 [1, 0, 1, 0, 0]) (codeAt c44 [1, 0, 1, 0, 1]) none [1, 0, 4] [4] (f44_k1 K)
def f44_s0 (s4a : Option Addr) (s4l s4c : Nat) (s5a : Option Addr) (s5l s5c : Nat) (b6 : Bool) (w : World) (K : KT) : Prop := Join (fun e w => CS P (codeAt c44 [1, 1]) none [4] [4] (f44_kb K) e w) (Env.mk 26 [(1, (Value.slice s4a s4l s4c)), (0, (Value.slice s5a s5l s5c)), (4, (Value.bool b6))] []) w
abbrev f44_k4 (K : KT) : Exit → YT := kseq P (codeAt c44 [1, 1, 0]) (codeAt c44 [1, 1, 1]) none [4] [4] (f44_kb K)
abbrev f44_k5 (K : KT) : Exit → YT := kseq P (codeAt c44 [1, 1, 0, 0]) (codeAt c44 [1, 1, 0, 1]) none [] [4] (f44_k4 K)
abbrev f44_k6 (K : KT) : Exit → YT := kblock 0 (f44_k4 K)
def f44_lp1 (K : KT) (Y1 : YT) (e : Env) (w : World) : Prop := Join (fun e w => CS P (codeAt c44 [1, 1, 0, 1, 0, 0]) none [13, 1, 0, 4, 12] [4] (kloop [13, 1, 0, 4, 12] Y1 (f44_k6 K)) e w) e w
abbrev f44_kl1 (K : KT) (Y1 : YT) : Exit → YT := kloop [13, 1, 0, 4, 12] Y1 (f44_k6 K)
def f44_lb1 (x8 : Int) (s9a : Option Addr) (s9l s9c : Nat) (s10a : Option Addr) (s10l s10c : Nat) (b11 : Bool) (x12 : Int) (w : World) (K : KT) (Y1 : YT) : Prop := Join (fun e w => CS P (codeAt c44 [1, 1, 0, 1, 0, 0]) none [13, 1, 0, 4, 12] [4] (f44_kl1 K Y1) e w) (Env.mk 26 [(13, (Value.int .i64 x8)), (1, (Value.slice s9a s9l s9c)), (0, (Value.slice s10a s10l s10c)), (4, (Value.bool b11)), (12, (Value.int .i64 x12))] []) w
abbrev f44_k7 (K : KT) (Y1 : YT) : Exit → YT := kseq P (codeAt c44 [1, 1, 0, 1, 0, 0, 0]) (codeAt c44 [1, 1, 0, 1, 0, 0, 1]) none [13, 1, 0, 4, 12] [4] (f44_kl1 K Y1)
abbrev f44_k8 (K : KT) (Y1 : YT) : Exit → YT := kseq P (codeAt c44 [1, 1, 0, 1, 0, 0, 1, 0]) (codeAt c44 [1, 1, 0, 1, 0, 0, 1, 1]) none [13, 1, 0, 4, 12] [4] (f44_kl1 K Y1)
def f44_s2 (s13a : Option Addr) (s13l s13c : Nat) (s14a : Option Addr) (s14l s14c : Nat) (x15 x16 : Int) (b17 : Bool) (w : World) (K : KT) (Y1 : YT) : Prop := Join (fun e w => CS P (codeAt c44 [1, 1, 0, 1, 0, 0, 1, 1]) none [13, 1, 0, 4, 12] [4] (f44_kl1 K Y1) e w) (Env.mk 26 [(1, (Value.slice s13a s13l s13c)), (0, (Value.slice s14a s14l s14c)), (12, (Value.int .i64 x15)), (13, (Value.int .i64 x16)), (4, (Value.bool b17))] []) w
abbrev f44_k9 (K : KT) (Y1 : YT) : Exit → YT := kseq P (codeAt c44 [1, 1, 0, 1, 0, 0, 1, 1, 0]) (codeAt c44 [1, 1, 0, 1, 0, 0, 1, 1, 1]) none [13, 1, 0, 4, 12] [4] (f44_kl1 K Y1)
abbrev f44_k10 (K : KT) (Y1 : YT) : Exit → YT := kblock 1 (f44_k9 K Y1)
abbrev f44_k11 (K : KT) (Y1 : YT) : Exit → YT := kseq P (codeAt c44 [1, 1, 0, 1, 0, 0, 1, 1, 0, 0, 0]) (codeAt c44 [1, 1, 0, 1, 0, 0, 1, 1, 0, 0, 1]) none [1, 0, 4, 12, 13] [4, 1, 0, 12, 13] (f44_k10 K Y1)
abbrev f44_k12 (K : KT) (Y1 : YT) : Exit → YT := kseq P (codeAt c44 [1, 1, 0, 1, 0, 0, 1, 1, 0, 0, 1, 0]) (codeAt c44 [1, 1, 0, 1, 0, 0, 1, 1, 0, 0, 1, 1]) none [1, 0, 4, 12, 13] [4, 1, 0, 12, 13] (f44_k10 K Y1)
abbrev f44_k13 (K : KT) (Y1 : YT) : Exit → YT := kseq P (codeAt c44 [1, 1, 0, 1, 0, 0, 1, 1, 0, 0, 1, 1, 0, 0]) (codeAt c44 [1, 1, 0, 1, 0, 0, 1, 1, 0, 0, 1, 1, 0, 1]) none [1, 0, 4, 12, 13] [4, 1, 0, 12, 13] (f44_k10 K Y1)
def f44_s3 (s23a : Option Addr) (s23l s23c : Nat) (s24a : Option Addr) (s24l s24c : Nat) (b25 : Bool) (x26 x27 : Int) (w : World) (K : KT) (Y1 : YT) : Prop := Join (fun e w => CS P (codeAt c44 [1, 1, 0, 1, 0, 0, 1, 1, 1]) none [13, 1, 0, 4, 12] [4] (f44_kl1 K Y1) e w) (Env.mk 26 [(1, (Value.slice s23a s23l s23c)), (0, (Value.slice s24a s24l s24c)), (4, (Value.bool b25)), (12, (Value.int .i64 x26)), (13, (Value.int .i64 x27))] []) w
theorem f44_s3_eq (s23a : Option Addr) (s23l s23c : Nat) (s24a : Option Addr) (s24l s24c : Nat) (b25 : Bool) (x26 x27 : Int) (w : World) (K : KT) (Y1 : YT) : f44_s3 s23a s23l s23c s24a s24l s24c b25 x26 x27 w K Y1 = (Y1 (Env.mk 26 [(13, (Value.int .i64 (IntKind.wrap .i64 ((x27 : Int) + 1)))), (1, (Value.slice s23a s23l s23c)), (0, (Value.slice s24a s24l s24c)), (4, (Value.bool b25)), (12, (Value.int .i64 x26))] []) w) := by kernel_rfl
theorem f44_s2_eq (s13a : Option Addr) (s13l s13c : Nat) (s14a : Option Addr) (s14l s14c : Nat) (x15 x16 : Int) (b17 : Bool) (w : World) (K : KT) (Y1 : YT) : f44_s2 s13a s13l s13c s14a s14l s14c x15 x16 b17 w K Y1 = (optS s14a (fun a18 => 0 ≤ (x16 : Int) ∧ (x16 : Int) < (s14l : Nat) ∧ optS s13a (fun a19 => 0 ≤ (x16 : Int) ∧ (x16 : Int) < (s13l : Nat) ∧ LdA 3 (a18.add (Int.toNat x16 * 3)) w.drew (fun cs20 => LdA 3 (a19.add (Int.toNat x16 * 3)) w.drew (fun cs21 => ∃ b22 : Bool, (∀ wq, (do eqGuard .neq 85 (.tmp 19) (.tmp 23) (Value.agg cs20) (Value.agg cs21); binOp .neq 85 (Value.agg cs20) (Value.agg cs21) : Sem Value).run P wq = .ok (Value.bool b22) wq) ∧ BIf b22 (K (Value.bool false) w.drew) (f44_s3 s13a s13l s13c s14a s14l s14c b17 x15 x16 w.drew K Y1)))))) := by kernel_rfl
def f44_s4 (w : World) (K : KT) : Prop := Join (fun e w => CS P (codeAt c44 [1, 1, 1]) none [4] [4] (f44_kb K) e w) (Env.mk 26 [] []) w
abbrev f44_k14 (K : KT) : Exit → YT := kseq P (codeAt c44 [1, 1, 1, 0]) (codeAt c44 [1, 1, 1, 1]) none [4] [4] (f44_kb K)
theorem f44_s4_eq (w : World) (K : KT) : f44_s4 w K = (K (Value.bool true) w) := by kernel_rfl
theorem f44_lb1_eq (x8 : Int) (s9a : Option Addr) (s9l s9c : Nat) (s10a : Option Addr) (s10l s10c : Nat) (b11 : Bool) (x12 : Int) (w : World) (K : KT) (Y1 : YT) : f44_lb1 x8 s9a s9l s9c s10a s10l s10c b11 x12 w K Y1 = (BIf (decide ((x8 : Int) < x12)) (f44_s2 s9a s9l s9c s10a s10l s10c x12 x8 b11 w K Y1) (f44_s4 w K)) := by kernel_rfl
theorem f44_s0_eq (s4a : Option Addr) (s4l s4c : Nat) (s5a : Option Addr) (s5l s5c : Nat) (b6 : Bool) (w : World) (K : KT) : f44_s0 s4a s4l s4c s5a s5l s5c b6 w K = (∃ x7 : Int, (∀ wq, Ext w wq → (Builtin.len_ #[81] 3 [(Value.slice s5a s5l s5c)].toArray).run P wq = .ok (Value.int .i64 x7) wq) ∧ LoopE (f44_lp1 K) (Env.mk 26 [(13, (Value.int .i64 0)), (1, (Value.slice s4a s4l s4c)), (0, (Value.slice s5a s5l s5c)), (4, (Value.bool b6)), (12, (Value.int .i64 x7))] []) w) := by kernel_rfl
theorem f44_eq (s0a : Option Addr) (s0l s0c : Nat) (s1a : Option Addr) (s1l s1c : Nat) (w : World) (K : KT) : f44 s0a s0l s0c s1a s1l s1c w K = (∃ x2 : Int, (∀ wq, Ext w wq → (Builtin.len_ #[81] 3 [(Value.slice s0a s0l s0c)].toArray).run P wq = .ok (Value.int .i64 x2) wq) ∧ ∃ x3 : Int, (∀ wq, Ext w wq → (Builtin.len_ #[81] 3 [(Value.slice s1a s1l s1c)].toArray).run P wq = .ok (Value.int .i64 x3) wq) ∧ BIf ((x2 : Int) != x3) (K (Value.bool false) w) (f44_s0 s1a s1l s1c s0a s0l s0c false w K)) := by kernel_rfl
theorem c44_eq : Go.Proofs.Try.f44.body = some c44 := by kernel_rfl
theorem f44_un (s0a : Option Addr) (s0l s0c : Nat) (s1a : Option Addr) (s1l s1c : Nat) (w : World) (K : KT) : f44 s0a s0l s0c s1a s1l s1c w K = CS P c44 none (resT Go.Proofs.Try.f44.results.toList) (resT Go.Proofs.Try.f44.results.toList) (bodyK P Go.Proofs.Try.f44.results.toList K) (env0 Go.Proofs.Try.f44.ntmps [(Value.slice s0a s0l s0c), (Value.slice s1a s1l s1c)]) w := by kernel_rfl
theorem f44_ok (s0a : Option Addr) (s0l s0c : Nat) (s1a : Option Addr) (s1l s1c : Nat) (w : World) (K : KT) (h : f44 s0a s0l s0c s1a s1l s1c w K) : CallL P 44 [(Value.slice s0a s0l s0c), (Value.slice s1a s1l s1c)] w K := calls_of_CS Go.Proofs.Try.func44 c44_eq (Eq.mp (f44_un s0a s0l s0c s1a s1l s1c w K) h)
/-! 45 slices.Clone[[]candling.api.Event,candling.api.Event] -/
noncomputable def c45 : Code := match Go.Proofs.Try.f45.body with
  | some c => c
  | none => .skip
noncomputable def rs45 : List ResultVar := Go.Proofs.Try.f45.results.toList
abbrev f45_kb (K : KT) : Exit → YT := bodyK P rs45 K
def f45 (s0a : Option Addr) (s0l s0c : Nat) (w : World) (K : KT) : Prop := CS P c45 none [2] [2] (f45_kb K) (env0 8 [(Value.slice s0a s0l s0c)]) w
abbrev f45_k0 (K : KT) : Exit → YT := kseq P (codeAt c45 [0]) (codeAt c45 [1]) none [2] [2] (f45_kb K)
abbrev f45_k1 (K : KT) : Exit → YT := kseq P (codeAt c45 [1, 0]) (codeAt c45 [1, 1]) none [2] [2] (f45_kb K)
abbrev f45_k2 (K : KT) : Exit → YT := kseq P (codeAt c45 [1, 0, 0]) (codeAt c45 [1, 0, 1]) none [0] [2] (f45_k1 K)
abbrev f45_k3 (K : KT) : Exit → YT := kseq P (codeAt c45 [1, 0, 1, 0, 0]) (codeAt c45 [1, 0, 1, 0, 1]) none [0] [2] (f45_k1 K)
def f45_s0 (s1a : Option Addr) (s1l s1c : Nat) (w : World) (K : KT) : Prop := Join (fun e w => CS P (codeAt c45 [1, 1]) none [2] [2] (f45_kb K) e w) (Env.mk 8 [(0, (Value.slice s1a s1l s1c))] []) w
abbrev f45_k4 (K : KT) : Exit → YT := kseq P (codeAt c45 [1, 1, 0]) (codeAt c45 [1, 1, 1]) none [2] [2] (f45_kb K)
theorem f45_s0_eq (s1a : Option Addr) (s1l s1c : Nat) (w : World) (K : KT) : f45_s0 s1a s1l s1c w K = (∃ (s6a : Option Addr) (s6l s6c : Nat), ∃ w7 : World, (Instr.buildSlice 22 0 ([] : List (Nat × Value)).toArray).run P w = .ok (Value.slice s6a s6l s6c) w7 ∧ ∃ (s8a : Option Addr) (s8l s8c : Nat), ∃ w9 : World, (Builtin.append_ #[22, 22] 22 [(Value.slice s6a s6l s6c), (Value.slice s1a s1l s1c)].toArray).run P w7 = .ok (Value.slice s8a s8l s8c) w9 ∧ K (Value.slice s8a s8l s8c) w9) := by kernel_rfl
theorem f45_eq (s0a : Option Addr) (s0l s0c : Nat) (w : World) (K : KT) : f45 s0a s0l s0c w K = (BIf s0a.isNone (K (Value.slice none 0 0) w) (f45_s0 s0a s0l s0c w K)) := by kernel_rfl
theorem c45_eq : Go.Proofs.Try.f45.body = some c45 := by kernel_rfl
theorem f45_un (s0a : Option Addr) (s0l s0c : Nat) (w : World) (K : KT) : f45 s0a s0l s0c w K = CS P c45 none (resT Go.Proofs.Try.f45.results.toList) (resT Go.Proofs.Try.f45.results.toList) (bodyK P Go.Proofs.Try.f45.results.toList K) (env0 Go.Proofs.Try.f45.ntmps [(Value.slice s0a s0l s0c)]) w := by kernel_rfl
theorem f45_ok (s0a : Option Addr) (s0l s0c : Nat) (w : World) (K : KT) (h : f45 s0a s0l s0c w K) : CallL P 45 [(Value.slice s0a s0l s0c)] w K := calls_of_CS Go.Proofs.Try.func45 c45_eq (Eq.mp (f45_un s0a s0l s0c w K) h)
end Go.Fx.Try
