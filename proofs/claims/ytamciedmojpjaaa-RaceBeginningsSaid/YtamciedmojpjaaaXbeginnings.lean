/- RaceBeginnings returns true for every list of events, length and byte, and they read behind the call as they read before. No condition. -/
import Derived.Test.YtamciedmojpjaaaGb
import Derived.KernelRfl
import Derived.Test.YtamciedmojpjaaaGl
import Derived.Test.YtamciedmojpjaaaGn
import Derived.Test.YtamciedmojpjaaaGm
namespace Go.Fx.Try
set_option maxRecDepth 100000
open Go Go.Fx
/-! 11 candling.candlinglaw30.RaceBeginnings -/
noncomputable def c11 : Code := match Go.Proofs.Try.f11.body with
  | some c => c
  | none => .skip
noncomputable def rs11 : List ResultVar := Go.Proofs.Try.f11.results.toList
abbrev f11_kb (K : Value → World → Prop) : Exit → Env → World → Prop := bodyK P rs11 K
def f11 (s0a : Option Addr) (s0l : Nat) (s0c : Nat) (x1 : Int) (x2 : Int) (w : World) (K : Value → World → Prop) : Prop := CS P c11 none [6] [6] (f11_kb K) (env0 104 [(Value.slice s0a s0l s0c), (Value.int .i64 x1), (Value.int .u32 x2)]) w
abbrev f11_k0 (K : Value → World → Prop) : Exit → Env → World → Prop := kseq P (codeAt c11 [0]) (codeAt c11 [1]) none [6] [6] (f11_kb K)
abbrev f11_k1 (K : Value → World → Prop) : Exit → Env → World → Prop := kseq P (codeAt c11 [1, 0]) (codeAt c11 [1, 1]) none [6] [6] (f11_kb K)
abbrev f11_k2 (K : Value → World → Prop) : Exit → Env → World → Prop := kseq P (codeAt c11 [1, 1, 0]) (codeAt c11 [1, 1, 1]) none [6] [6] (f11_kb K)
abbrev f11_k3 (K : Value → World → Prop) : Exit → Env → World → Prop := kseq P (codeAt c11 [1, 1, 0, 0]) (codeAt c11 [1, 1, 0, 1]) none [7, 4, 2, 0] [6] (f11_k2 K)
def f11_s0 (b9 : Bool) (b10 : Bool) (a11 : Addr) (x12 : Int) (s13a : Option Addr) (s13l : Nat) (s13c : Nat) (w : World) (K : Value → World → Prop) : Prop := Join (fun e w => CS P (codeAt c11 [1, 1, 0, 1]) none [7, 4, 2, 0] [6] (f11_k2 K) e w) (Env.mk 104 [(35, (Value.bool b9)), (7, (Value.bool b10)), (4, (Value.pointer (some a11))), (2, (Value.int .u32 x12)), (0, (Value.slice s13a s13l s13c))] []) w
abbrev f11_k4 (K : Value → World → Prop) : Exit → Env → World → Prop := kseq P (codeAt c11 [1, 1, 0, 1, 0, 0]) (codeAt c11 [1, 1, 0, 1, 0, 1]) none [7, 4, 2, 0] [6] (f11_k2 K)
def f11_s1 (b14 : Bool) (a15 : Addr) (x16 : Int) (s17a : Option Addr) (s17l : Nat) (s17c : Nat) (w : World) (K : Value → World → Prop) : Prop := Join (fun e w => CS P (codeAt c11 [1, 1, 1]) none [6] [6] (f11_kb K) e w) (Env.mk 104 [(7, (Value.bool b14)), (4, (Value.pointer (some a15))), (2, (Value.int .u32 x16)), (0, (Value.slice s17a s17l s17c))] []) w
abbrev f11_k5 (K : Value → World → Prop) : Exit → Env → World → Prop := kseq P (codeAt c11 [1, 1, 1, 0]) (codeAt c11 [1, 1, 1, 1]) none [6] [6] (f11_kb K)
abbrev f11_k6 (K : Value → World → Prop) : Exit → Env → World → Prop := kseq P (codeAt c11 [1, 1, 1, 1, 0]) (codeAt c11 [1, 1, 1, 1, 1]) none [6] [6] (f11_kb K)
abbrev f11_k7 (K : Value → World → Prop) : Exit → Env → World → Prop := kseq P (codeAt c11 [1, 1, 1, 1, 1, 0]) (codeAt c11 [1, 1, 1, 1, 1, 1]) none [6] [6] (f11_kb K)
abbrev f11_k8 (K : Value → World → Prop) : Exit → Env → World → Prop := kseq P (codeAt c11 [1, 1, 1, 1, 1, 0, 0]) (codeAt c11 [1, 1, 1, 1, 1, 0, 1]) none [7, 10, 11, 8, 4, 2, 0] [6] (f11_k7 K)
abbrev f11_k9 (K : Value → World → Prop) : Exit → Env → World → Prop := kseq P (codeAt c11 [1, 1, 1, 1, 1, 0, 1, 0, 0]) (codeAt c11 [1, 1, 1, 1, 1, 0, 1, 0, 1]) none [7, 10, 11, 8, 4, 2, 0] [6] (f11_k7 K)
def f11_s2 (b28 : Bool) (w : World) (K : Value → World → Prop) : Prop := Join (fun e w => CS P (codeAt c11 [1, 1, 1, 1, 1, 0, 1, 0, 1]) none [7, 10, 11, 8, 4, 2, 0] [6] (f11_k7 K) e w) (Env.mk 104 [(6, (Value.bool b28))] []) w
theorem f11_s2_eq (b28 : Bool) (w : World) (K : Value → World → Prop) : f11_s2 b28 w K = (K (Value.bool b28) w) := by kernel_rfl
def f11_s3 (b29 : Bool) (s30a : Option Addr) (s30l : Nat) (s30c : Nat) (x31 : Int) (s32a : Option Addr) (s32l : Nat) (s32c : Nat) (a33 : Addr) (x34 : Int) (s35a : Option Addr) (s35l : Nat) (s35c : Nat) (w : World) (K : Value → World → Prop) : Prop := Join (fun e w => CS P (codeAt c11 [1, 1, 1, 1, 1, 1]) none [6] [6] (f11_kb K) e w) (Env.mk 104 [(7, (Value.bool b29)), (10, (Value.slice s30a s30l s30c)), (11, (Value.int .i64 x31)), (8, (Value.slice s32a s32l s32c)), (4, (Value.pointer (some a33))), (2, (Value.int .u32 x34)), (0, (Value.slice s35a s35l s35c))] []) w
abbrev f11_k10 (K : Value → World → Prop) : Exit → Env → World → Prop := kseq P (codeAt c11 [1, 1, 1, 1, 1, 1, 0]) (codeAt c11 [1, 1, 1, 1, 1, 1, 1]) none [6] [6] (f11_kb K)
abbrev f11_k11 (K : Value → World → Prop) : Exit → Env → World → Prop := kseq P (codeAt c11 [1, 1, 1, 1, 1, 1, 1, 0]) (codeAt c11 [1, 1, 1, 1, 1, 1, 1, 1]) none [6] [6] (f11_kb K)
abbrev f11_k12 (K : Value → World → Prop) : Exit → Env → World → Prop := kseq P (codeAt c11 [1, 1, 1, 1, 1, 1, 1, 1, 0]) (codeAt c11 [1, 1, 1, 1, 1, 1, 1, 1, 1]) none [6] [6] (f11_kb K)
abbrev f11_k13 (K : Value → World → Prop) : Exit → Env → World → Prop := kseq P (codeAt c11 [1, 1, 1, 1, 1, 1, 1, 1, 1, 0]) (codeAt c11 [1, 1, 1, 1, 1, 1, 1, 1, 1, 1]) none [6] [6] (f11_kb K)
abbrev f11_k14 (K : Value → World → Prop) : Exit → Env → World → Prop := kseq P (codeAt c11 [1, 1, 1, 1, 1, 1, 1, 1, 1, 1, 0]) (codeAt c11 [1, 1, 1, 1, 1, 1, 1, 1, 1, 1, 1]) none [6] [6] (f11_kb K)
abbrev f11_k15 (K : Value → World → Prop) : Exit → Env → World → Prop := kseq P (codeAt c11 [1, 1, 1, 1, 1, 1, 1, 1, 1, 1, 0, 0]) (codeAt c11 [1, 1, 1, 1, 1, 1, 1, 1, 1, 1, 0, 1]) none [7, 14, 15, 16, 12, 13] [6] (f11_k14 K)
def f11_s4 (b52 : Bool) (b53 : Bool) (s54a : Option Addr) (s54l : Nat) (s54c : Nat) (x55 : Int) (a56 : Addr) (s57a : Option Addr) (s57l : Nat) (s57c : Nat) (x58 : Int) (w : World) (K : Value → World → Prop) : Prop := Join (fun e w => CS P (codeAt c11 [1, 1, 1, 1, 1, 1, 1, 1, 1, 1, 0, 1]) none [7, 14, 15, 16, 12, 13] [6] (f11_k14 K) e w) (Env.mk 104 [(86, (Value.bool b52)), (7, (Value.bool b53)), (14, (Value.slice s54a s54l s54c)), (15, (Value.int .i64 x55)), (16, (Value.func (.func 37) #[] #[(Value.pointer (some a56))])), (12, (Value.slice s57a s57l s57c)), (13, (Value.int .i64 x58))] []) w
abbrev f11_k16 (K : Value → World → Prop) : Exit → Env → World → Prop := kseq P (codeAt c11 [1, 1, 1, 1, 1, 1, 1, 1, 1, 1, 0, 1, 0, 0]) (codeAt c11 [1, 1, 1, 1, 1, 1, 1, 1, 1, 1, 0, 1, 0, 1]) none [7, 14, 15, 16, 12, 13] [6] (f11_k14 K)
def f11_s5 (b59 : Bool) (s60a : Option Addr) (s60l : Nat) (s60c : Nat) (x61 : Int) (a62 : Addr) (s63a : Option Addr) (s63l : Nat) (s63c : Nat) (x64 : Int) (w : World) (K : Value → World → Prop) : Prop := Join (fun e w => CS P (codeAt c11 [1, 1, 1, 1, 1, 1, 1, 1, 1, 1, 1]) none [6] [6] (f11_kb K) e w) (Env.mk 104 [(7, (Value.bool b59)), (14, (Value.slice s60a s60l s60c)), (15, (Value.int .i64 x61)), (16, (Value.func (.func 37) #[] #[(Value.pointer (some a62))])), (12, (Value.slice s63a s63l s63c)), (13, (Value.int .i64 x64))] []) w
abbrev f11_k17 (K : Value → World → Prop) : Exit → Env → World → Prop := kseq P (codeAt c11 [1, 1, 1, 1, 1, 1, 1, 1, 1, 1, 1, 0]) (codeAt c11 [1, 1, 1, 1, 1, 1, 1, 1, 1, 1, 1, 1]) none [6] [6] (f11_kb K)
abbrev f11_k18 (K : Value → World → Prop) : Exit → Env → World → Prop := kseq P (codeAt c11 [1, 1, 1, 1, 1, 1, 1, 1, 1, 1, 1, 0, 0]) (codeAt c11 [1, 1, 1, 1, 1, 1, 1, 1, 1, 1, 1, 0, 1]) none [7, 14, 15, 16, 12] [6] (f11_k17 K)
abbrev f11_k19 (K : Value → World → Prop) : Exit → Env → World → Prop := kseq P (codeAt c11 [1, 1, 1, 1, 1, 1, 1, 1, 1, 1, 1, 0, 1, 0, 0]) (codeAt c11 [1, 1, 1, 1, 1, 1, 1, 1, 1, 1, 1, 0, 1, 0, 1]) none [7, 14, 15, 16, 12] [6] (f11_k17 K)
def f11_s6 (b65 : Bool) (s66a : Option Addr) (s66l : Nat) (s66c : Nat) (x67 : Int) (a68 : Addr) (s69a : Option Addr) (s69l : Nat) (s69c : Nat) (w : World) (K : Value → World → Prop) : Prop := Join (fun e w => CS P (codeAt c11 [1, 1, 1, 1, 1, 1, 1, 1, 1, 1, 1, 1]) none [6] [6] (f11_kb K) e w) (Env.mk 104 [(7, (Value.bool b65)), (14, (Value.slice s66a s66l s66c)), (15, (Value.int .i64 x67)), (16, (Value.func (.func 37) #[] #[(Value.pointer (some a68))])), (12, (Value.slice s69a s69l s69c))] []) w
abbrev f11_k20 (K : Value → World → Prop) : Exit → Env → World → Prop := kseq P (codeAt c11 [1, 1, 1, 1, 1, 1, 1, 1, 1, 1, 1, 1, 0]) (codeAt c11 [1, 1, 1, 1, 1, 1, 1, 1, 1, 1, 1, 1, 1]) none [6] [6] (f11_kb K)
abbrev f11_k21 (K : Value → World → Prop) : Exit → Env → World → Prop := kseq P (codeAt c11 [1, 1, 1, 1, 1, 1, 1, 1, 1, 1, 1, 1, 1, 0]) (codeAt c11 [1, 1, 1, 1, 1, 1, 1, 1, 1, 1, 1, 1, 1, 1]) none [6] [6] (f11_kb K)
def f11_s7 (b79 : Bool) (w : World) (K : Value → World → Prop) : Prop := Join (fun e w => CS P (codeAt c11 [1, 1, 1, 1, 1, 1, 1, 1, 1, 1, 1, 1, 1, 1]) none [6] [6] (f11_kb K) e w) (Env.mk 104 [(6, (Value.bool b79))] []) w
theorem f11_s7_eq (b79 : Bool) (w : World) (K : Value → World → Prop) : f11_s7 b79 w K = (K (Value.bool b79) w) := by kernel_rfl
theorem f11_s6_eq (b65 : Bool) (s66a : Option Addr) (s66l : Nat) (s66c : Nat) (x67 : Int) (a68 : Addr) (s69a : Option Addr) (s69l : Nat) (s69c : Nat) (w : World) (K : Value → World → Prop) : f11_s6 b65 s66a s66l s66c x67 a68 s69a s69l s69c w K = (CallL P 20 [(Value.slice s69a s69l s69c)] w (fun r70 w71 => ∃ (s72a : Option Addr) (s72l s72c : Nat), r70 = (Value.slice s72a s72l s72c) ∧ CallL P 38 [(Value.slice s72a s72l s72c), (Value.func (.func 37) #[] #[(Value.pointer (some a68))])] w71 (fun r73 w74 => ∃ (s75a : Option Addr) (s75l s75c : Nat), r73 = (Value.slice s75a s75l s75c) ∧ BIf ((x67 : Int) == 0) (CallL P 17 [(Value.slice s75a s75l s75c), (Value.slice s66a s66l s66c)] w74 (fun r76 w77 => ∃ b78 : Bool, r76 = (Value.bool b78) ∧ BIf b78 (f11_s7 b65 w77 K) (f11_s7 false w77 K))) (f11_s7 false w74 K)))) := by kernel_rfl
theorem f11_s5_eq (b59 : Bool) (s60a : Option Addr) (s60l : Nat) (s60c : Nat) (x61 : Int) (a62 : Addr) (s63a : Option Addr) (s63l : Nat) (s63c : Nat) (x64 : Int) (w : World) (K : Value → World → Prop) : f11_s5 b59 s60a s60l s60c x61 a62 s63a s63l s63c x64 w K = (BIf ((x64 : Int) != 0) (K (Value.bool b59) w) (f11_s6 b59 s60a s60l s60c x61 a62 s63a s63l s63c w K)) := by kernel_rfl
theorem f11_s4_eq (b52 : Bool) (b53 : Bool) (s54a : Option Addr) (s54l : Nat) (s54c : Nat) (x55 : Int) (a56 : Addr) (s57a : Option Addr) (s57l : Nat) (s57c : Nat) (x58 : Int) (w : World) (K : Value → World → Prop) : f11_s4 b52 b53 s54a s54l s54c x55 a56 s57a s57l s57c x58 w K = (BIf b52 (K (Value.bool false) w) (f11_s5 b53 s54a s54l s54c x55 a56 s57a s57l s57c x58 w K)) := by kernel_rfl
theorem f11_s3_eq (b29 : Bool) (s30a : Option Addr) (s30l : Nat) (s30c : Nat) (x31 : Int) (s32a : Option Addr) (s32l : Nat) (s32c : Nat) (a33 : Addr) (x34 : Int) (s35a : Option Addr) (s35l : Nat) (s35c : Nat) (w : World) (K : Value → World → Prop) : f11_s3 b29 s30a s30l s30c x31 s32a s32l s32c a33 x34 s35a s35l s35c w K = (CallL P 32 [(Value.slice s35a s35l s35c), (Value.int .u32 x34)] w (fun r36 w37 => ∃ (s38a : Option Addr) (s38l s38c : Nat), ∃ x39 : Int, r36 = (Value.tuple [(Value.slice s38a s38l s38c), (Value.int .i64 x39)].toArray) ∧ ∃ x40 : Int, w37.cell? a33 = some (Value.int .i64 x40) ∧ ∃ (s41a : Option Addr) (s41l s41c : Nat), (∀ wq, (Instr.sliceAt 22 (Value.slice s35a s35l s35c) none (some (Value.int .i64 x40)) none).run P wq = .ok (Value.slice s41a s41l s41c) wq) ∧ CallL P 32 [(Value.slice s41a s41l s41c), (Value.int .u32 x34)] w37 (fun r42 w43 => ∃ (s44a : Option Addr) (s44l s44c : Nat), ∃ x45 : Int, r42 = (Value.tuple [(Value.slice s44a s44l s44c), (Value.int .i64 x45)].toArray) ∧ CallL P 20 [(Value.slice s32a s32l s32c)] w43 (fun r46 w47 => ∃ (s48a : Option Addr) (s48l s48c : Nat), r46 = (Value.slice s48a s48l s48c) ∧ CallL P 38 [(Value.slice s48a s48l s48c), (Value.func (.func 37) #[] #[(Value.pointer (some a33))])] w47 (fun r49 w50 => ∃ (s51a : Option Addr) (s51l s51c : Nat), r49 = (Value.slice s51a s51l s51c) ∧ BIf ((x31 : Int) != 0) (f11_s4 true b29 s44a s44l s44c x45 a33 s38a s38l s38c x39 w50 K) (CallL P 17 [(Value.slice s51a s51l s51c), (Value.slice s30a s30l s30c)] w50 (fun r80 w81 => ∃ b82 : Bool, r80 = (Value.bool b82) ∧ f11_s4 (!b82) b29 s44a s44l s44c x45 a33 s38a s38l s38c x39 w81 K))))))) := by kernel_rfl
theorem f11_s1_eq (b14 : Bool) (a15 : Addr) (x16 : Int) (s17a : Option Addr) (s17l : Nat) (s17c : Nat) (w : World) (K : Value → World → Prop) : f11_s1 b14 a15 x16 s17a s17l s17c w K = (CallL P 16 [(Value.slice s17a s17l s17c)] w (fun r18 w19 => ∃ (s20a : Option Addr) (s20l s20c : Nat), ∃ x21 : Int, r18 = (Value.tuple [(Value.slice s20a s20l s20c), (Value.int .i64 x21)].toArray) ∧ ∃ x22 : Int, w19.cell? a15 = some (Value.int .i64 x22) ∧ ∃ (s23a : Option Addr) (s23l s23c : Nat), (∀ wq, (Instr.sliceAt 22 (Value.slice s17a s17l s17c) none (some (Value.int .i64 x22)) none).run P wq = .ok (Value.slice s23a s23l s23c) wq) ∧ CallL P 16 [(Value.slice s23a s23l s23c)] w19 (fun r24 w25 => ∃ (s26a : Option Addr) (s26l s26c : Nat), ∃ x27 : Int, r24 = (Value.tuple [(Value.slice s26a s26l s26c), (Value.int .i64 x27)].toArray) ∧ BIf ((x21 : Int) != 0) (BIf ((x27 : Int) != 300) (f11_s2 b14 w25 K) (BIf ((x21 : Int) == 300) (f11_s2 b14 w25 K) (f11_s2 false w25 K))) (f11_s3 b14 s26a s26l s26c x27 s20a s20l s20c a15 x16 s17a s17l s17c w25 K)))) := by kernel_rfl
theorem f11_s0_eq (b9 : Bool) (b10 : Bool) (a11 : Addr) (x12 : Int) (s13a : Option Addr) (s13l : Nat) (s13c : Nat) (w : World) (K : Value → World → Prop) : f11_s0 b9 b10 a11 x12 s13a s13l s13c w K = (BIf b9 (K (Value.bool b10) w) (f11_s1 b10 a11 x12 s13a s13l s13c w K)) := by kernel_rfl
theorem f11_eq (s0a : Option Addr) (s0l : Nat) (s0c : Nat) (x1 : Int) (x2 : Int) (w : World) (K : Value → World → Prop) : f11 s0a s0l s0c x1 x2 w K = (NewC #[(Value.int .i64 x1)] 3 w (fun n3 w4 => CallL P 13 [] w4 (fun r5 w6 => ∃ b7 : Bool, r5 = (Value.bool b7) ∧ ∃ x8 : Int, (∀ wq, Ext w6 wq → (Builtin.len_ #[22] 3 [(Value.slice s0a s0l s0c)].toArray).run P wq = .ok (Value.int .i64 x8) wq) ∧ BIf (decide ((x8 : Int) > 200)) (f11_s0 true b7 (Addr.mk n3 0 none) x2 s0a s0l s0c w6 K) (CallL P 14 [(Value.slice s0a s0l s0c)] w6 (fun r83 w84 => ∃ x85 : Int, r83 = (Value.int .i64 x85) ∧ BIf (decide ((x85 : Int) > 2000)) (f11_s0 true b7 (Addr.mk n3 0 none) x2 s0a s0l s0c w84 K) (∃ x86 : Int, w84.cell? (Addr.mk n3 0 none) = some (Value.int .i64 x86) ∧ BIf (decide ((x86 : Int) < 0)) (f11_s0 true b7 (Addr.mk n3 0 none) x2 s0a s0l s0c w84 K) (∃ x87 : Int, w84.cell? (Addr.mk n3 0 none) = some (Value.int .i64 x87) ∧ ∃ x88 : Int, (∀ wq, Ext w84 wq → (Builtin.len_ #[22] 3 [(Value.slice s0a s0l s0c)].toArray).run P wq = .ok (Value.int .i64 x88) wq) ∧ f11_s0 (decide ((x87 : Int) > x88)) b7 (Addr.mk n3 0 none) x2 s0a s0l s0c w84 K))))))) := by kernel_rfl
theorem c11_eq : Go.Proofs.Try.f11.body = some c11 := by kernel_rfl
theorem f11_un (s0a : Option Addr) (s0l : Nat) (s0c : Nat) (x1 : Int) (x2 : Int) (w : World) (K : Value → World → Prop) : f11 s0a s0l s0c x1 x2 w K = CS P c11 none (resT Go.Proofs.Try.f11.results.toList) (resT Go.Proofs.Try.f11.results.toList) (bodyK P Go.Proofs.Try.f11.results.toList K) (env0 Go.Proofs.Try.f11.ntmps [(Value.slice s0a s0l s0c), (Value.int .i64 x1), (Value.int .u32 x2)]) w := by kernel_rfl
theorem f11_ok (s0a : Option Addr) (s0l : Nat) (s0c : Nat) (x1 : Int) (x2 : Int) (w : World) (K : Value → World → Prop) (h : f11 s0a s0l s0c x1 x2 w K) : CallL P 11 [(Value.slice s0a s0l s0c), (Value.int .i64 x1), (Value.int .u32 x2)] w K := calls_of_CS Go.Proofs.Try.func11 c11_eq (Eq.mp (f11_un s0a s0l s0c x1 x2 w K) h)
end Go.Fx.Try
namespace Go.Fx.Try
open Go Go.Fx Go.Fx.Mo
open Go.Proofs
variable {w0 w : World} {H : List (Nat × Obj)} {K : Value → World → Prop}
set_option maxRecDepth 20000
abbrev early (cut : Int) (r : Mo.Race) : Bool := !decide (r.second.ev ≥ cut)
abbrev lateF (n : Nat) : Value := .func (.func 37) #[] #[ptr n]
theorem en37 : enterable P 37 = true := by kernel_rfl
theorem late_ok {n3 : Nat} {cut : Int} (h : St w0 w H) (hn : (n3, Cs [I64 cut] 3) ∈ H) (r : Mo.Race) (hK : ∀ w', St w0 w' H → K (.bool (decide (r.second.ev ≥ cut))) w') : CallF P (lateF n3) [.agg (Racecs r).toArray] w K := by
  show (match enterable P 37 with | true => CallL P 37 [.agg (Racecs r).toArray, ptr n3] w K | false => False)
  rw [en37]
  refine f37_ok _ _ _ _ ?_
  rw [f37_eq]
  refine h.newC fun n w1 hn1 h1 => ?_
  have h1 : St w0 w1 ((n, Cs (Racecs r) 47) :: H) := h1
  refine ⟨r.second.ev, by rw [add_lit', h1.cell (k := 0) rfl]; rfl, cut, by rw [cell_of (h1.has n3 (Cs [I64 cut] 3) (List.mem_cons_of_mem _ hn))]; rfl, ?_⟩
  exact hK w1 (h1.tail hn1)
/-- The first late race. -/
theorem index_ok {n3 : Nat} {cut : Int} {out : List Mo.Race} {ov : Value} (h : St w0 w H) (hn : (n3, Cs [I64 cut] 3) ∈ H) (hrow : ∀ w', St w0 w' H → Row w' 11 ov out.length (racesCs out)) (hl63 : out.length < 9223372036854775807)
    (hnone : (∀ r ∈ out, early cut r = true) → ∀ w', St w0 w' H → K (I64 (-1)) w')
    (hsome : ∀ i (hi : i < out.length), (∀ r ∈ out.take i, early cut r = true) → early cut out[i] = false → ∀ w', St w0 w' H → K (I64 i) w') : CallL P 61 [ov, lateF n3] w K := by
  obtain ⟨sa, sc, hov⟩ := (hrow w h).form
  rw [hov]
  refine f61_ok _ _ _ _ _ _ ?_
  rw [f61_eq]
  refine ⟨out.length, fun wq _ => run_len_25 wq, ?_⟩
  refine ⟨fun m ee w => ∃ (i : Nat), i ≤ out.length ∧ m = out.length - i ∧ ee = Env.mk 19 [(8, (Value.int .i64 i)), (0, (Value.slice sa out.length sc)), (1, lateF n3), (4, (Value.int .i64 0)), (7, (Value.int .i64 out.length))] [] ∧ (∀ r ∈ out.take i, early cut r = true) ∧ St w0 w H,
    ⟨out.length, 0, by omega, rfl, rfl, by simp, h⟩, ?_⟩
  rintro m ee w1 ⟨i, hi, rfl, rfl, hall, h1⟩
  show f61_lb0 _ _ _ _ _ _ _ _ _ _
  rw [f61_lb0_eq, BIf_iff]
  constructor
  · intro hlt
    have hlt : i < out.length := by simpa using hlt
    rw [f61_s1_eq]
    obtain ⟨a, c, hac, hld⟩ := (hrow _ h1).ldA hlt
    rw [hov] at hac
    obtain ⟨hsa, -⟩ : sa = some a ∧ sc = c := by simpa using hac
    subst hsa
    refine ⟨by omega, by omega, hld _ ?_⟩
    rw [races_at hlt]
    refine late_ok h1 hn out[i] fun w2 h2 => ⟨_, rfl, ?_⟩
    rw [BIf_iff]
    refine ⟨fun hb => hsome i hlt hall (by simp only [early, hb]; rfl) w2 h2, fun hb => ?_⟩
    rw [f61_s2_eq]
    refine ⟨out.length - (i + 1), by omega, i + 1, by omega, rfl, ?_, fun r hr => ?_, h2⟩
    · rw [wrap_i64 (by omega) (by omega)]; rfl
    · rw [List.take_add_one, List.getElem?_eq_getElem hlt] at hr
      rcases List.mem_append.1 hr with hr | hr
      · exact hall r hr
      · simp at hr; subst hr; simp only [early, hb]; rfl
  · intro hge
    have : i = out.length := by simp at hge; omega
    subst this
    rw [f61_s3_eq]
    exact hnone (fun r hr => hall r (by simpa using hr)) w1 h1
theorem zone : ∀ i : Nat, ((#[.int .u32 0, I64 0, I64 0, .int .u32 0, .bool false, .bool false, I64 0, I64 0, .int .u32 0, .bool false, .bool false] : Array Value)[i % 11]!).oneCell' = true := by
  intro i
  have h : i % 11 < 11 := Nat.mod_lt _ (by omega)
  generalize i % 11 = j at h
  match j, h with
  | 0, _ | 1, _ | 2, _ | 3, _ | 4, _ | 5, _ | 6, _ | 7, _ | 8, _ | 9, _ | 10, _ => rfl
theorem clear_run {g off m c : Nat} {cs : List Value} {t : TypeId} (h : w.heap[g]? = some (Cs cs t)) (hm : off + m * 11 ≤ cs.length) : ∃ zs : List Value, zs.length = m * 11 ∧
    (Builtin.clear_ #[25] 0 [Value.slice (some (Addr.mk g off none)) m c].toArray).run P w = .ok (.tuple [].toArray) (setCells w (Addr.mk g off none) 0 zs) := by
  cases m with
  | zero => exact ⟨[], rfl, by simp [Builtin.clear_, run_underlying Try.underlying25, setCells]⟩
  | succ m =>
    have hst := setCells_step (P := P) w (Addr.mk g off none) (Builtin.zeroCells #[.int .u32 0, I64 0, I64 0, .int .u32 0, .bool false, .bool false, I64 0, I64 0, .int .u32 0, .bool false, .bool false] (m + 1)).toList 0 (fun j v hv => by
      have hj : j < (m + 1) * 11 := by
        have := (List.getElem?_eq_some_iff.1 hv).1
        simpa [Builtin.zeroCells] using this
      rw [Nat.zero_add, add_lit']
      refine ⟨⟨_, by rw [cell_of h, List.getElem?_eq_getElem (by omega)]⟩, frozen_of h, ?_⟩
      obtain ⟨i, _, rfl⟩ := List.mem_map.1 (by simpa [Builtin.zeroCells] using List.mem_of_getElem? hv : v ∈ (List.range ((m + 1) * 11)).map _)
      have := zone i
      simpa using this)
    refine ⟨(Builtin.zeroCells #[.int .u32 0, I64 0, I64 0, .int .u32 0, .bool false, .bool false, I64 0, I64 0, .int .u32 0, .bool false, .bool false] (m + 1)).toList, by simp [Builtin.zeroCells], ?_⟩
    simp [Builtin.clear_, run_underlying Try.underlying25, Value.cells, hst, Result.andThen]
theorem racesCs_len (l : List Mo.Race) : (racesCs l).length = l.length * 11 := by
  induction l with
  | nil => rfl
  | cons x r ih =>
    have e : racesCs (x :: r) = Racecs x ++ racesCs r := rfl
    rw [e, List.length_append, ih, Racecs_len, List.length_cons]
    omega
theorem racesCs_take : ∀ (l : List Mo.Race) (i : Nat), racesCs (l.take i) = (racesCs l).take (i * 11)
  | [], i => by simp [racesCs]
  | x :: r, 0 => by simp [racesCs]
  | x :: r, i + 1 => by
    have e : racesCs (x :: r) = Racecs x ++ racesCs r := rfl
    have e2 : racesCs ((x :: r).take (i + 1)) = Racecs x ++ racesCs (r.take i) := rfl
    rw [e2, e, racesCs_take r i, show (i + 1) * 11 = (Racecs x).length + i * 11 by rw [Racecs_len]; omega, List.take_length_add_append]
theorem run_slice_to {p : Option Addr} {n c k : Nat} (hk : k ≤ c) (hz : p = none → k = 0) (wq : World) : (Instr.sliceAt 25 (Value.slice p n c) none (some (Value.int .i64 (k : Int))) none).run P wq = .ok (.slice p k c) wq := by
  rw [run_sliceAt_slice _ 25 _ _ _ _ (by kernel_rfl), run_slice_h _ 25 p n c (by kernel_rfl) .i64 (k : Int) (by omega) (by omega)]
  have : (sizeOf (P.elem 25)).run P wq = .ok 11 wq := by kernel_rfl
  rw [this]
  simp [Result.andThen, sliced]
  cases p <;> simp [Addr.add]
theorem run_slice_from {g n c k : Nat} (hk : k ≤ n) (hc : k < c) (wq : World) : (Instr.sliceAt 25 (Value.slice (some (Addr.mk g 0 none)) n c) (some (Value.int .i64 (k : Int))) none none).run P wq = .ok (.slice (some (Addr.mk g (k * 11) none)) (n - k) (c - k)) wq := by
  rw [run_sliceAt_slice _ 25 _ _ _ _ (by kernel_rfl), run_slice_l _ 25 (some (Addr.mk g 0 none)) n c (by kernel_rfl) .i64 (k : Int) (by omega) (by omega)]
  have : (sizeOf (P.elem 25)).run P wq = .ok 11 wq := by kernel_rfl
  rw [this]
  have hne : ¬ c = k := by omega
  simp [Result.andThen, sliced, hne]
/-- The late races are taken out of a slice. -/
theorem delete_ok {n3 : Nat} {cut : Int} {out : List Mo.Race} {ov : Value} {L : List (Nat × Obj)} (h : St w0 w (L ++ H)) (hn : (n3, Cs [I64 cut] 3) ∈ H) (hS : SlO 11 47 ov out.length (racesCs out) L) (hN : New w0 L) (hl63 : out.length < 9223372036854775807)
    (hK : ∀ a c L' w', SlO 11 47 (.slice a (out.filter (early cut)).length c) (out.filter (early cut)).length (racesCs (out.filter (early cut))) L' → New w0 L' → St w0 w' (L' ++ H) → K (.slice a (out.filter (early cut)).length c) w') : CallL P 38 [ov, lateF n3] w K := by
  obtain ⟨sa, sc, hov⟩ := hS.form
  rw [hov]
  refine f38_ok _ _ _ _ _ _ ?_
  rw [f38_eq, ← hov]
  refine index_ok (cut := cut) h (by simp [hn]) (fun w' h' => hS.row fun y hy => h'.has _ _ (by simp [hy])) hl63 (fun hall w1 h1 => ⟨-1, rfl, ?_⟩) (fun i0 hi0 hall hlate w1 h1 => ⟨i0, rfl, ?_⟩)
  · rw [show ((-1 : Int) == -1) = true by decide, BIf_true]
    have e : out.filter (early cut) = out := List.filter_eq_self.2 hall
    have := hK sa sc L w1
    rw [e] at this
    rw [← hov] at this
    exact this hS hN h1
  · rw [show ((i0 : Int) == -1) = false by simp, BIf_false, f38_s0_eq]
    rcases hS.2 with ⟨_, h0, _⟩ | ⟨g, cap, cur, hg, rfl, hcap, hmax, hcl, hct⟩
    · omega
    rw [hov] at hg
    obtain ⟨rfl, hsc⟩ : sa = some ⟨g, 0, none⟩ ∧ sc = cap := by simpa using hg
    have hsc := hsc.symm
    subst hsc
    have hF : ∀ j (hj : j < out.length), (out.take (j + 1)).filter (early cut) = (out.take j).filter (early cut) ++ (if early cut out[j] = true then [out[j]] else []) := fun j hj => by
      rw [List.take_add_one, List.getElem?_eq_getElem hj, List.filter_append]
      by_cases hb : early cut out[j] = true <;> simp [hb]
    have hFl : ∀ j, ((out.take j).filter (early cut)).length ≤ j := fun j => by have := List.length_filter_le (early cut) (out.take j); simp at this; omega
    have hF0 : (out.take (i0 + 1)).filter (early cut) = out.take i0 := by
      rw [hF i0 hi0, hlate]
      simp
      exact fun r hr => by have := hall r hr; simpa [early] using this
    have hat : ∀ j (hj : j < out.length), (cur.drop (j * 11)).take 11 = Racecs out[j] := fun j hj => by
      rw [← races_at hj, ← hct]
      rw [List.drop_take, List.take_take]
      congr 1
      have : j * 11 + 11 ≤ out.length * 11 := by omega
      omega
    refine ⟨fun m ee w => ∃ (j : Nat) (cu : List Value), i0 < j ∧ j ≤ out.length ∧ m = out.length - j ∧
      ee = Env.mk 42 [(6, (Value.int .i64 j)), (5, (Value.int .i64 ((out.take j).filter (early cut)).length)), (0, (Value.slice (some ⟨g, 0, none⟩) out.length cap)), (1, lateF n3), (4, nilS)] [] ∧
      ((out.take j).filter (early cut)).length < j ∧ cu.length = cap * 11 ∧ cu.take (((out.take j).filter (early cut)).length * 11) = racesCs ((out.take j).filter (early cut)) ∧ cu.drop (j * 11) = cur.drop (j * 11) ∧ St w0 w ((g, Cs cu 47) :: H),
      ⟨out.length - (i0 + 1), i0 + 1, cur, by omega, by omega, rfl, ?_, by rw [hF0]; simp; omega, hcl, ?_, rfl, h1⟩, ?_⟩
    · rw [hF0, wrap_i64 (by omega) (by omega)]
      simp [List.length_take, Nat.min_eq_left (Nat.le_of_lt hi0)]
    · rw [hF0]
      have e : (out.take i0).length * 11 = i0 * 11 := by simp; omega
      rw [e]
      rw [racesCs_take, ← hct, List.take_take]
      congr 1
      omega
    rintro m ee w2 ⟨j, cu, hij, hj, rfl, rfl, hFj, hcul, hcut, hcud, h2⟩
    show f38_lb1 _ _ _ _ _ _ _ _ _ _ _ _
    rw [f38_lb1_eq]
    refine ⟨out.length, fun wq _ => run_len_25 wq, ?_⟩
    rw [BIf_iff]
    constructor
    · intro hlt
      have hlt : j < out.length := by simpa using hlt
      rw [f38_s2_eq]
      refine ⟨by omega, by omega, ?_⟩
      rw [add_lit', Int.toNat_natCast, Nat.zero_add]
      refine h2.ldA (k := 0) (i := j * 11) rfl (by rw [hcul]; omega) ?_
      rw [hcud, hat j hlt, z47]
      refine h2.newC fun n5 w3 hn5 h3 => h3.stA (k := 0) rfl rfl (by simp) (by have := Racecs_one out[j]; simpa using this) fun w4 h4 => ?_
      have h4 : St w0 w4 ((n5, Cs (splice _ 0 (Racecs out[j])) 47) :: (g, Cs cu 47) :: H) := h4
      rw [splice_whole (by rw [Racecs_len]; rfl)] at h4
      refine h4.ldA (k := 0) (i := 0) rfl (by simp [Racecs_len]) ?_
      rw [List.drop_zero, show (Racecs out[j]).take 11 = Racecs out[j] from List.take_of_length_le (by rw [Racecs_len]; omega)]
      refine late_ok (cut := cut) h4 (by simp [hn]) out[j] fun w5 h5 => ⟨_, rfl, ?_⟩
      have s3 : ∀ w6 cu' (i' : Nat), i' = ((out.take (j + 1)).filter (early cut)).length → i' < j + 1 → cu'.length = cap * 11 → cu'.take (i' * 11) = racesCs ((out.take (j + 1)).filter (early cut)) → cu'.drop ((j + 1) * 11) = cur.drop ((j + 1) * 11) → St w0 w6 ((g, Cs cu' 47) :: H) →
          f38_s3 (i' : Int) (some ⟨g, 0, none⟩) out.length cap (lateF n3) none 0 0 j w6 K (fun e' w' => ∃ m, m < out.length - j ∧ ∃ (j : Nat) (cu : List Value), i0 < j ∧ j ≤ out.length ∧ m = out.length - j ∧
      e' = Env.mk 42 [(6, (Value.int .i64 j)), (5, (Value.int .i64 ((out.take j).filter (early cut)).length)), (0, (Value.slice (some ⟨g, 0, none⟩) out.length cap)), (1, lateF n3), (4, nilS)] [] ∧
      ((out.take j).filter (early cut)).length < j ∧ cu.length = cap * 11 ∧ cu.take (((out.take j).filter (early cut)).length * 11) = racesCs ((out.take j).filter (early cut)) ∧ cu.drop (j * 11) = cur.drop (j * 11) ∧ St w0 w' ((g, Cs cu 47) :: H)) := by
        rintro w6 cu' i' rfl k1 k2 k3 k4 k5
        rw [f38_s3_eq]
        refine ⟨out.length - (j + 1), by omega, j + 1, cu', by omega, by omega, rfl, ?_, k1, k2, k3, k4, k5⟩
        rw [wrap_i64 (by omega) (by omega)]; rfl
      rw [BIf_iff]
      constructor
      · intro hb
        refine h5.ldA (k := 0) (i := 0) rfl (by simp [Racecs_len]) ⟨by omega, by omega, ?_⟩
        rw [List.drop_zero, show (Racecs out[j]).take 11 = Racecs out[j] from List.take_of_length_le (by rw [Racecs_len]; omega), add_lit', Int.toNat_natCast, Nat.zero_add]
        have hb : early cut out[j] = true := hb
        have hl1 : ((out.take j).filter (early cut)).length * 11 + 11 ≤ cu.length := by rw [hcul]; omega
        refine h5.stA (k := 1) (i := ((out.take j).filter (early cut)).length * 11) rfl rfl hl1 (by have := Racecs_one out[j]; simpa using this) fun w6 h6 => ?_
        have h6 : St w0 w6 ((n5, Cs (Racecs out[j]) 47) :: (g, Cs (splice cu (((out.take j).filter (early cut)).length * 11) (Racecs out[j])) 47) :: H) := h6
        rw [wrap_i64 (by omega) (by omega)]
        have e := hF j hlt
        rw [if_pos hb] at e
        have hlt1 : (cu.take (((out.take j).filter (early cut)).length * 11)).length = ((out.take j).filter (early cut)).length * 11 := by rw [List.length_take]; omega
        refine s3 w6 (splice cu (((out.take j).filter (early cut)).length * 11) (Racecs out[j])) (((out.take j).filter (early cut)).length + 1) (by rw [e]; simp) (by omega) (by rw [splice_length]; exact hcul) ?_ ?_ (h6.tail hn5)
        · rw [splice_eq _ _ _ (by rw [Racecs_len]; exact hl1), e, racesCs_snoc, hcut, List.take_append_of_le_length (by rw [List.length_append, ← hcut, hlt1, Racecs_len]; omega), List.take_of_length_le (by rw [List.length_append, ← hcut, hlt1, Racecs_len]; omega)]
        · apply List.ext_getElem?
          intro q
          have h7 := congrArg (fun l => l[q + 11]?) hcud
          simp only [List.getElem?_drop] at h7 ⊢
          rw [splice_out _ _ _ _ (.inr (by rw [Racecs_len]; omega)), show (j + 1) * 11 + q = j * 11 + (q + 11) by omega, h7]
      · intro hb
        have hb : early cut out[j] = false := hb
        have e := hF j hlt
        rw [hb] at e
        have e : (out.take (j + 1)).filter (early cut) = (out.take j).filter (early cut) := by rw [e]; simp
        refine s3 w5 cu _ (by rw [e]) (by omega) hcul (by rw [e]; exact hcut) ?_ (h5.tail hn5)
        have := congrArg (fun l => l.drop 11) hcud
        simp only [List.drop_drop] at this
        rw [show (j + 1) * 11 = j * 11 + 11 by omega]
        exact this
    · intro hge
      have : j = out.length := by simp at hge; omega
      subst this
      rw [List.take_length] at hFj hcut
      rw [f38_s4_eq, List.take_length]
      refine ⟨_, _, _, fun wq => run_slice_from (by omega) (by omega) wq, ?_⟩
      obtain ⟨zs, hzl, hz⟩ := clear_run (w := w2) (g := g) (off := (out.filter (early cut)).length * 11) (m := out.length - (out.filter (early cut)).length) (c := cap - (out.filter (early cut)).length) (h2.has g (Cs cu 47) (by simp)) (by rw [hcul]; omega)
      refine ⟨_, hz, _, _, _, fun wq => run_slice_to (by omega) (fun h => by cases h) wq, ?_⟩
      rw [setCells_of zs (h2.has g (Cs cu 47) (by simp)), Nat.add_zero]
      have h3 := h2.put (k := 0) rfl (Cs (splice cu ((out.filter (early cut)).length * 11) zs) 47)
      refine hK _ _ [(g, Cs (splice cu ((out.filter (early cut)).length * 11) zs) 47)] _ ⟨by rw [racesCs_len], .inr ⟨g, cap, _, rfl, rfl, by omega, hmax, by rw [splice_length]; exact hcul, ?_⟩⟩ (by simpa [New] using hN) h3
      rw [splice_eq _ _ _ (by rw [hcul, hzl]; omega), List.append_assoc, List.take_append_of_le_length (by rw [List.length_take]; omega), List.take_of_length_le (by rw [List.length_take]; omega), hcut]
end Go.Fx.Try
namespace Go.Fx.Try
open Go Go.Fx Go.Fx.Mo
open Go.Proofs
variable {w0 w : World} {H : List (Nat × Obj)} {K : Value → World → Prop}
set_option maxRecDepth 20000
/-- What stands for races or an error. -/
def Res (r : List Mo.Race ⊕ Int) (a : Option Addr) (n c : Nat) (x : Int) (L : List (Nat × Obj)) : Prop :=
  (∃ out, r = .inl out ∧ out.length < 2000000000 ∧ n = out.length ∧ SlO 11 47 (.slice a n c) out.length (racesCs out) L ∧ x = 0) ∨ (r = .inr x ∧ x ≠ 0)
theorem races_res (hsort : SortOk w0 48) {l : List Ev} {ov : Value} (h : St w0 w H) (hrow : ∀ w', St w0 w' H → Row w' 6 ov l.length (evsCs l)) (hl63 : l.length < 9223372036854775808)
    (hK : ∀ a n c x L w', Res (races l) a n c x L → New w0 L → St w0 w' (L ++ H) → K (.tuple [.slice a n c, I64 x].toArray) w') : CallL P 16 [ov] w K := by
  refine races_ok hsort h hrow hl63 (fun x hx hx0 w' h' => hK none 0 0 x [] w' (.inr ⟨hx, hx0⟩) (New.nil w0) h') fun out hx hlen w' rv Lo hS hN h' => ?_
  obtain ⟨a, c, hv⟩ := hS.form
  subst hv
  exact hK a _ c 0 Lo w' (.inl ⟨out, hx, hlen, rfl, hS, rfl⟩) hN h'
theorem all_res {l : List Ev} {ov : Value} (b : Int) (h : St w0 w H) (hrow : ∀ w', St w0 w' H → Row w' 6 ov l.length (evsCs l)) (hl63 : l.length < 9223372036854775808)
    (hK : ∀ a n c x L w', Res (Mo.all l b) a n c x L → New w0 L → St w0 w' (L ++ H) → K (.tuple [.slice a n c, I64 x].toArray) w') : CallL P 32 [ov, .int .u32 b] w K := by
  refine all_ok h hrow hl63 b (fun x hx hx0 w' h' => hK none 0 0 x [] w' (.inr ⟨hx, hx0⟩) (New.nil w0) h') fun out hx hlen w' rv Lo hS hN h' => ?_
  obtain ⟨a, c, hv⟩ := hS.form
  subst hv
  exact hK a _ c 0 Lo w' (.inl ⟨out, hx, by omega, rfl, hS, rfl⟩) hN h'
theorem bs25 (w : World) : (Instr.buildSlice 25 0 ([] : List (Nat × Value)).toArray).run P w = .ok (.slice (some ⟨w.heap.size, 0, none⟩) 0 0) (w.alloc (.cells #[] 47 (0, 0))) := by kernel_rfl
/-- A copy of races. -/
theorem clone25_ok {out : List Mo.Race} {ov : Value} {L : List (Nat × Obj)} (h : St w0 w (L ++ H)) (hS : SlO 11 47 ov out.length (racesCs out) L) (hN : New w0 L) (hl : out.length < 2000000000)
    (hK : ∀ a c L' w', SlO 11 47 (.slice a out.length c) out.length (racesCs out) L' → New w0 L' → St w0 w' (L' ++ H) → K (.slice a out.length c) w') : CallL P 20 [ov] w K := by
  obtain ⟨sa, sc, hov⟩ := hS.form
  rw [hov]
  refine f20_ok _ _ _ _ _ ?_
  rw [f20_eq, BIf_iff]
  constructor
  · intro hn
    have hn : sa = none := by simpa using hn
    subst hn
    rcases hS.2 with ⟨h1, h2, h3⟩ | ⟨g, cap, cur, hg, _⟩
    · have hS' := hS
      rw [h1] at hS'
      have e0 : Value.slice none 0 0 = Value.slice none out.length 0 := by rw [h2]
      rw [e0] at hS' ⊢
      exact hK none 0 L w hS' hN h
    · rw [hov] at hg; simp at hg
  · intro _
    rw [f20_s0_eq, ← hov]
    refine ⟨_, _, _, _, bs25 w, ?_⟩
    have h3 := h.alloc (.cells #[] 47 (0, 0))
    have hn3 := h.le
    generalize w.heap.size = m at h3 hn3
    have h3 : St w0 (w.alloc (.cells #[] 47 (0, 0))) ([] ++ ([(m, Cs [] 47)] ++ (L ++ H))) := h3
    have hS0 : SlO 11 47 (.slice (some ⟨m, 0, none⟩) 0 0) ([] : List Mo.Race).length (racesCs []) [(m, Cs [] 47)] := ⟨rfl, .inr ⟨m, 0, [], rfl, rfl, by simp, by simp [maxLen], rfl, rfl⟩⟩
    obtain ⟨v', w', L', hr, hS', hs, hN'⟩ := St.appendN (P := P) 25 25 47 Try.t47 (.agg #[.int .u32 0, I64 0, I64 0, .int .u32 0, .bool false, .bool false, I64 0, I64 0, .int .u32 0, .bool false, .bool false]) 11 56 Try.underlying25 info47 rfl rfl rfl rfl (by omega)
      (A := []) (L := [(m, Cs [] 47)]) (H := L ++ H) (M := L) h3 hS0 (by simpa [New] using hn3) hS (fun y hy => h3.has _ _ (by simp [hy])) (racesCs_one _) (by simp [maxLen]; omega) (by simp; omega)
    have hS' : SlO 11 47 v' out.length (racesCs out) L' := by simpa [racesCs] using hS'
    have h' : St w0 w' (L' ++ H) := by
      refine St.sub (L := L) (hs.perm (perm_by fun c => ?_)) hN
      simp only [List.map_append, List.sum_append, List.nil_append]
      omega
    obtain ⟨a, c, hv⟩ := hS'.form
    subst hv
    exact ⟨a, _, c, w', hr, hK a c L' w' hS' hN' h'⟩
theorem run_slice22 {p : Option Addr} {n c k : Nat} (hk : k ≤ c) (wq : World) : (Instr.sliceAt 22 (Value.slice p n c) none (some (Value.int .i64 (k : Int))) none).run P wq = .ok (.slice p k c) wq := by
  rw [run_sliceAt_slice _ 22 _ _ _ _ (by kernel_rfl), run_slice_h _ 22 p n c (by kernel_rfl) .i64 (k : Int) (by omega) (by omega)]
  have : (sizeOf (P.elem 22)).run P wq = .ok 6 wq := by kernel_rfl
  rw [this]
  simp [Result.andThen, sliced]
  cases p <;> simp [Addr.add]
theorem evsCs_take : ∀ (l : List Ev) (i : Nat), evsCs (l.take i) = (evsCs l).take (i * 6)
  | [], i => by simp [evsCs]
  | x :: r, 0 => by simp [evsCs]
  | x :: r, i + 1 => by
    have e : evsCs (x :: r) = Evcs x ++ evsCs r := rfl
    have e2 : evsCs ((x :: r).take (i + 1)) = Evcs x ++ evsCs (r.take i) := rfl
    rw [e2, e, evsCs_take r i, show (i + 1) * 6 = (Evcs x).length + i * 6 by rw [Evcs_len]; omega, List.take_length_add_append]
theorem row_take {sa : Option Addr} {sc : Nat} {l : List Ev} {k : Nat} (hrow : Row w 6 (.slice sa l.length sc) l.length (evsCs l)) (hk : k ≤ l.length) : Row w 6 (.slice sa k sc) (l.take k).length (evsCs (l.take k)) := by
  have e : (l.take k).length = k := by simp; omega
  rw [e]
  refine ⟨by rw [evsCs_len, e], ?_⟩
  rcases hrow.2 with ⟨h1, h2⟩ | ⟨a, c, h1, h2⟩
  · left
    have : k = 0 := by omega
    subst this
    simp at h1
    exact ⟨by rw [h1.1, h1.2.2], rfl⟩
  · right
    obtain ⟨rfl, rfl⟩ : sa = some a ∧ sc = c := by simpa using h1
    refine ⟨a, sc, rfl, fun i hi => ?_⟩
    rw [h2 i (by omega), evsCs_take, List.getElem?_take, if_pos hi]
/-- A copy without the late races, compared with a beginning's. -/
theorem same_late {n3 : Nat} {cut : Int} {out : List Mo.Race} {ov : Value} {L : List (Nat × Obj)} (h : St w0 w (L ++ H)) (hn : (n3, Cs [I64 cut] 3) ∈ H) (hS : SlO 11 47 ov out.length (racesCs out) L) (hN : New w0 L) (hl : out.length < 2000000000)
    (K : Value → World → Prop) (hK : ∀ a c L' w', SlO 11 47 (.slice a (out.filter (early cut)).length c) (out.filter (early cut)).length (racesCs (out.filter (early cut))) L' → New w0 L' → St w0 w' (L' ++ H) → K (.slice a (out.filter (early cut)).length c) w') :
    CallL P 20 [ov] w (fun r w' => ∃ (s48a : Option Addr) (s48l s48c : Nat), r = (Value.slice s48a s48l s48c) ∧ CallL P 38 [(Value.slice s48a s48l s48c), lateF n3] w' K) := by
  refine clone25_ok h hS hN hl fun a c L' w' hS' hN' h' => ⟨a, _, c, rfl, ?_⟩
  exact delete_ok h' hn hS' hN' (by omega) hK
end Go.Fx.Try
namespace Go.Fx.Try
open Go Go.Fx Go.Fx.Mo
open Go.Proofs
variable {w0 w : World} {H : List (Nat × Obj)} {K : Value → World → Prop}
set_option maxRecDepth 20000
theorem filter_le' (p : Mo.Race → Bool) (l : List Mo.Race) : (l.filter p).length ≤ l.length := List.length_filter_le p l
theorem begin_s5 {n3 : Nat} {l : List Ev} {b : Int} {k : Nat} {s60a s63a : Option Addr} {s60l s60c s63l s63c : Nat} {x61 x64 : Int} {L3 L4 : List (Nat × Obj)} (hk : k ≤ l.length)
    (h : St w0 w (L4 ++ (L3 ++ ((n3, Cs [I64 (k : Int)] 3) :: H)))) (hn3 : w0.heap.size ≤ n3)
    (r3 : Res (Mo.all l b) s63a s63l s63c x64 L3) (r4 : Res (Mo.all (l.take k) b) s60a s60l s60c x61 L4) (hN3 : New w0 L3) (hN4 : New w0 L4)
    (hK : ∀ w', St w0 w' H → K (.bool true) w') : f11_s5 true s60a s60l s60c x61 (Addr.mk n3 0 none) s63a s63l s63c x64 w K := by
  have e0 : St w0 w H := ((h.sub hN4).sub hN3).tail hn3
  rw [f11_s5_eq, BIf_iff]
  refine ⟨fun _ => hK w e0, fun hx => ?_⟩
  have hx : x64 = 0 := by simpa using hx
  rcases r3 with ⟨out, ha, hlen, rfl, hS3, _⟩ | ⟨_, hx0⟩
  · have ht := all_take (l := l.take k) (m := l.drop k) (b := b) (x := out) (by rw [List.take_append_drop]; exact ha)
    have hkl : (l.take k).length = k := by simp; omega
    rw [hkl] at ht
    rcases r4 with ⟨out4, ha4, _, rfl, hS4, rfl⟩ | ⟨h4, _⟩
    · rw [ht] at ha4
      simp only [Sum.inl.injEq] at ha4
      have ha4 : out.filter (early k) = out4 := ha4
      subst ha4
      rw [f11_s6_eq]
      have h' : St w0 w (L3 ++ (L4 ++ ((n3, Cs [I64 (k : Int)] 3) :: H))) := h.perm (perm_by fun c => by simp only [List.map_append, List.map_cons, List.sum_append, List.sum_cons]; omega)
      refine same_late (cut := (k : Int)) h' (by simp) hS3 hN3 hlen _ fun a c L' w' hS' hN' hs => ⟨a, _, c, rfl, ?_⟩
      rw [show ((0 : Int) == 0) = true by decide, BIf_true]
      refine same_ok (l := out.filter (early k)) hs (fun w1 h1 => hS'.row fun y hy => h1.has _ _ (by simp [hy])) (fun w1 h1 => hS4.row fun y hy => h1.has _ _ (by simp [hy])) (by have := filter_le' (early k) out; omega) fun w1 h1 => ⟨true, rfl, ?_⟩
      rw [BIf_true, f11_s7_eq]
      exact hK w1 (((h1.sub hN').sub hN4).tail hn3)
    · rw [ht] at h4; cases h4
  · exact absurd hx hx0
theorem beginnings_ok {l : List Ev} {sa : Option Addr} {sc : Nat} (cut b : Int) (h : St w0 w H) (hsc : l.length ≤ sc) (hrow : ∀ w', St w0 w' H → Row w' 6 (.slice sa l.length sc) l.length (evsCs l))
    (hK : ∀ w', St w0 w' H → K (.bool true) w') : CallL P 11 [.slice sa l.length sc, .int .i64 cut, .int .u32 b] w K := by
  refine f11_ok _ _ _ _ _ _ _ ?_
  rw [f11_eq]
  refine h.newC fun n3 w1 hn3 h1 => ?_
  have h1 : St w0 w1 ((n3, Cs [I64 cut] 3) :: H) := h1
  have hrow1 : ∀ w', St w0 w' ((n3, Cs [I64 cut] 3) :: H) → Row w' 6 (.slice sa l.length sc) l.length (evsCs l) := fun w' h' => hrow w' (h'.tail hn3)
  refine sane_ok h1 fun w2 h2 => ⟨true, rfl, l.length, fun wq _ => run_len_22 wq, ?_⟩
  have s0 : ∀ b' w2, St w0 w2 ((n3, Cs [I64 cut] 3) :: H) → (b' = false → l.length ≤ 200 ∧ 0 ≤ cut ∧ cut ≤ l.length) → f11_s0 b' true (Addr.mk n3 0 none) b sa l.length sc w2 K := by
    intro b' w2 h2 hb
    rw [f11_s0_eq, BIf_iff]
    refine ⟨fun _ => hK w2 (h2.tail hn3), fun hbf => ?_⟩
    obtain ⟨hl, hc0, hcl⟩ := hb hbf
    obtain ⟨k, rfl⟩ := Int.eq_ofNat_of_zero_le hc0
    have hk : k ≤ l.length := by omega
    have hkl : (l.take k).length = k := by simp; omega
    rw [f11_s1_eq]
    refine races_res sort48 h2 hrow1 (by omega) fun a1 c1 d1 x1 L1 w3 r1 hN1 h3 => ⟨a1, c1, d1, x1, rfl, k, by rw [cell_of (h3.has n3 (Cs [I64 (k : Int)] 3) (by simp))]; rfl, _, _, _, fun wq => run_slice22 (by omega) wq, ?_⟩
    refine races_res (l := l.take k) sort48 h3 (fun w' h' => row_take (hrow1 w' (h'.sub hN1)) hk) (by omega) fun a2 c2 d2 x2 L2 w4 r2 hN2 h4 => ⟨a2, c2, d2, x2, rfl, ?_⟩
    have e4 : St w0 w4 H := ((h4.sub hN2).sub hN1).tail hn3
    rw [BIf_iff]
    constructor
    · intro hx
      have hx : x1 ≠ 0 := by simpa using hx
      rcases r1 with ⟨_, _, _, _, _, h0⟩ | ⟨hr1, _⟩
      · exact absurd h0 hx
      have fin : f11_s2 true w4 K := by rw [f11_s2_eq]; exact hK w4 e4
      rw [BIf_iff]
      refine ⟨fun _ => fin, fun h300 => ?_⟩
      have h300 : x2 = 300 := by simpa using h300
      rcases r2 with ⟨_, _, _, _, _, h0⟩ | ⟨hr2, _⟩
      · omega
      have := races_refused (l := l.take k) (m := l.drop k) (x := x1) (by rw [List.take_append_drop]; omega) (by rw [List.take_append_drop]; exact hr1) (by rw [hr2, h300])
      rw [show (x1 == 300) = true by simpa using this, BIf_true]
      exact fin
    · intro hx
      have hx : x1 = 0 := by simpa using hx
      rcases r1 with ⟨out, ha, hlen, rfl, hS1, _⟩ | ⟨_, hx0⟩
      · have ht := races_take (l := l.take k) (m := l.drop k) (x := out) (by rw [List.take_append_drop]; exact ha)
        rw [hkl] at ht
        rcases r2 with ⟨out2, ha2, _, rfl, hS2, rfl⟩ | ⟨hr2, _⟩
        · rw [ht] at ha2
          simp only [Sum.inl.injEq] at ha2
          have ha2 : out.filter (early k) = out2 := ha2
          subst ha2
          rw [f11_s3_eq]
          refine all_res b h4 (fun w' h' => hrow1 w' ((h'.sub hN2).sub hN1)) (by omega) fun a3 c3 d3 x3 L3 w5 r3 hN3 h5 => ⟨a3, c3, d3, x3, rfl, k, by rw [cell_of (h5.has n3 (Cs [I64 (k : Int)] 3) (by simp))]; rfl, _, _, _, fun wq => run_slice22 (by omega) wq, ?_⟩
          refine all_res (l := l.take k) b h5 (fun w' h' => row_take (hrow1 w' (((h'.sub hN3).sub hN2).sub hN1)) hk) (by omega) fun a4 c4 d4 x4 L4 w6 r4 hN4 h6 => ⟨a4, c4, d4, x4, rfl, ?_⟩
          have h6' : St w0 w6 (L1 ++ (L2 ++ (L4 ++ (L3 ++ ((n3, Cs [I64 (k : Int)] 3) :: H))))) := h6.perm (perm_by fun c => by simp only [List.map_append, List.map_cons, List.sum_append, List.sum_cons]; omega)
          refine same_late (cut := (k : Int)) h6' (by simp) hS1 hN1 hlen _ fun a c L' w7 hS' hN' h7 => ⟨a, _, c, rfl, ?_⟩
          rw [show ((0 : Int) != 0) = false by decide, BIf_false]
          refine same_ok (l := out.filter (early k)) h7 (fun w1 h1 => hS'.row fun y hy => h1.has _ _ (by simp [hy])) (fun w1 h1 => hS2.row fun y hy => h1.has _ _ (by simp [hy])) (by have := filter_le' (early k) out; omega) fun w8 h8 => ⟨true, rfl, ?_⟩
          rw [f11_s4_eq, Bool.not_true, BIf_false]
          exact begin_s5 hk ((h8.sub hN').sub hN2) hn3 r3 r4 hN3 hN4 hK
        · rw [ht] at hr2; cases hr2
      · exact absurd hx hx0
  rw [BIf_iff]
  refine ⟨fun _ => s0 true w2 h2 (by intro hh; cases hh), fun hle => ?_⟩
  have hle : l.length ≤ 200 := by simp at hle; omega
  refine bytesOf_ok h2 hrow1 (by omega) fun x w3 h3 => ⟨x, rfl, ?_⟩
  have hcell : w3.cell? (Addr.mk n3 0 none) = some (Value.int .i64 cut) := by rw [cell_of (h3.has n3 (Cs [I64 cut] 3) (by simp))]; rfl
  rw [BIf_iff]
  refine ⟨fun _ => s0 true w3 h3 (by intro hh; cases hh), fun _ => ⟨cut, hcell, ?_⟩⟩
  rw [BIf_iff]
  refine ⟨fun _ => s0 true w3 h3 (by intro hh; cases hh), fun hc => ⟨cut, hcell, l.length, fun wq _ => run_len_22 wq, s0 _ w3 h3 fun hc2 => ?_⟩⟩
  simp at hc hc2
  omega
end Go.Fx.Try
namespace Go.Fx.Try
open Go Go.Fx Go.Fx.Mo
open Go.Proofs
variable {H : Type} {enc : TypeId × Value → H} {W : World}
theorem open_events2 {base : Nat} {spare : Nat → Bool} {held : Bool} {v : Value} {d : DataW H} {p : List MemPlace} (hv : ∃ a len cap, v = .slice a len cap) (h : DataW.Trod enc P W base spare held 22 v d p) :
    ∃ (l : List Ev) (sa : Option Addr) (sc : Nat), v = .slice sa l.length sc ∧ l.length ≤ sc ∧ Row W 6 v l.length (evsCs l) ∧ l.length ≤ maxLen := by
  obtain ⟨l, hrow, hl⟩ := open_events hv h
  obtain ⟨fuel, hf⟩ := h
  rcases Deep.open_slice Try.underlying22 hf with ⟨hc, _⟩ | ⟨a, len, cap, m, n, D, Pl, hc, _, hle, hcm, hm, _, hall⟩
  · obtain ⟨a0, len0, cap0, rfl⟩ := hv
    have hv : Value.slice a0 len0 cap0 = .slice none 0 0 := by simpa [Value.cells] using hc
    obtain ⟨sa, sc, e⟩ := hrow.form
    rw [e] at hv
    simp only [Value.slice.injEq] at hv
    exact ⟨l, sa, sc, e, by omega, hrow, hl⟩
  · obtain ⟨a0, len0, cap0, rfl⟩ := hv
    have hv : Value.slice a0 len0 cap0 = .slice (some a) len cap := by simpa [Value.cells] using hc
    obtain ⟨sa, sc, e⟩ := hrow.form
    rw [e] at hv
    simp only [Value.slice.injEq] at hv
    exact ⟨l, sa, sc, e, by omega, hrow, hl⟩
end Go.Fx.Try
namespace Go.Proofs.Ytamciedmojpjaaa
open Go Go.Fx Go.Fx.Try Go.Fx.Mo
open Go.ChangeShapes Go.WideShapes Go.ChangeAt Go.RowKit
set_option maxRecDepth 100000
theorem raceBeginnings_lifted (os : Os) (started : os.Started) (H : Type) (enc : TypeId × Value → H) :
    ReturnsInHanded {} Try.checked os 11 .any (Rows.raceBeginningsSpec.pre6 enc Try.prog Try.f11 Rows.raceBeginningsRow.domain false) (Rows.raceBeginningsSpec.post enc Try.prog Try.f11 false true false false) := by
  refine returnsInHanded_of_change (C := Try.checked) own started (by kernel_rfl) Try.func11
    (ChangeSpec.witness6 (enc := enc) (C := Try.checked) false ⟨#[], #[.slice none 0 0, .int .i64 0, .int .u32 0], []⟩ 8 (by kernel_rfl) (by kernel_rfl) (by kernel_rfl) (by kernel_rfl)) ?_
  intro W base args ds gs before hval0 hW _ _
  have hval : ∀ (j : Nat) t v, Try.f11.params[j]? = some t → args[j]? = some v → Value.okWide Try.prog W .any base t v := hval0
  have hW' := hW
  obtain ⟨p, q, hA0, hV, rfl, hfz, hnd⟩ := hW
  have hA : DataW.TrodAll enc Try.prog W 0 (fun _ => true) true Try.f11.params.toList args.toList ds p := hA0
  rw [Try.params11] at hA hval
  obtain ⟨v0, v1, v2, d0, d1, d2, p0, p1, p2, rfl, rfl, rfl, h0, h1, h2⟩ := trodAll_three hA
  obtain ⟨rfl, rfl⟩ := trodVars_none hV
  obtain ⟨l, sa, sc, hv0, hsc, hrow, _⟩ := open_events2 (okWide_slice Try.underlying22 (hval 0 22 v0 rfl rfl)) h0
  obtain ⟨cut, rfl, rfl, rfl, hwf⟩ := open_int Try.underlying3 (hval 1 3 v1 rfl rfl) h1
  obtain ⟨b, rfl, rfl, rfl, hwf2⟩ := open_int Try.underlying33 (hval 2 33 v2 rfl rfl) h2
  subst hv0
  have hcall := beginnings_ok (w0 := W) (H := []) (K := fun v w' => v = .bool true ∧ Below W.heap.size W w') cut b (St.refl W) hsc (fun w' h' => Row.old hrow (New.nil W) h') (fun w' h' => ⟨rfl, h'.below⟩)
  refine Calls.mono hcall fun e W' he => ?_
  unfold retK at he
  split at he
  · obtain ⟨rfl, hB⟩ := he
    have hlt : ∀ x ∈ p0, x.block < W.heap.size := fun x hx => hW'.lt x (by simp [hx])
    have h0' := Below.trod laidOut readable22 types22 h0 hB hlt
    exact ⟨_, rfl, _, _, _, [], p0 ++ ([] ++ []), [], hW', trodAll_mk1 (shut_bool Try.underlying4 _), trodAll_mk3 h0' (shut_int Try.underlying3 hwf) (shut_int Try.underlying33 hwf2), rfl, hB.frame _, fun h => by cases h⟩
  · exact he.elim
theorem raceBeginnings_holds : Rows.RaceBeginningsSaid :=
  OpenClaim.holds_of_wide 11 Try.f11 rfl rfl rfl rfl rfl rfl rfl ⟨rfl, rfl, rfl, rfl, rfl⟩ rfl rfl rfl rfl rfl (by kernel_rfl) Try.func11 (by kernel_rfl)
    (of_decide_eq_true (by kernel_rfl)) (by unfold Func.isWrapper; first | (rw [if_pos (by decide +kernel)]; kernel_rfl) | (rw [if_neg (by decide +kernel)]; exact ⟨rfl, rfl⟩))
    (fun os started H enc _ => raceBeginnings_lifted os started H enc)
#print axioms raceBeginnings_holds
end Go.Proofs.Ytamciedmojpjaaa
