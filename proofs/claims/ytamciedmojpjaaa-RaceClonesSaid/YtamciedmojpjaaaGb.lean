/- Functions of package race, as formulas (printed by a tool of this work). -/
import Derived.Test.YtamciedmojpjaaaProg
import Derived.Test.YtamciedmojpjaaaGa
import Derived.KernelRfl
namespace Go.Fx.Try
open Go
noncomputable abbrev P:Program := Go.Proofs.Try.prog
end Go.Fx.Try
namespace Go.Fx.Try
set_option maxRecDepth 100000
open Go Go.Fx
/-! 59 candling.race.conflict -/
noncomputable def c59:Code := match Go.Proofs.Try.f59.body with
  | some c => c
  | none => .skip
noncomputable def rs59:List ResultVar := Go.Proofs.Try.f59.results.toList
abbrev f59_kb (K:KT):Exit → YT := bodyK P rs59 K
def f59 (a b:Array Value) (w:World) (K:KT):Prop := CS P c59 none [4] [4] (f59_kb K) (env0 27 [(Value.agg a),(Value.agg b)]) w
abbrev f59_k0 (K:KT):Exit → YT := kseq P (codeAt c59 [0]) (codeAt c59 [1]) none [4] [4] (f59_kb K)
abbrev f59_k1 (K:KT):Exit → YT := kseq P (codeAt c59 [1,0]) (codeAt c59 [1,1]) none [4] [4] (f59_kb K)
def f59_s0 (a:Bool) (w:World) (K:KT):Prop := Join (fun e w => CS P (codeAt c59 [1,1]) none [4] [4] (f59_kb K) e w) (Env.mk 27 [(4,(VB a))] []) w
theorem f59_s0_eq (a:Bool) (w:World) (K:KT):f59_s0 a w K = (K (Value.bool a) w) := by kernel_rfl
theorem f59_eq (d e:Array Value) (w:World) (K:KT):f59 d e w K = (NewC d 45 w (fun b n => NewC e 45 n (fun c a => ∃ f:Int,a.cell? ((Addr.mk b 0 none).add 1) = some (Value.int .i64 f) ∧ ∃ g:Int,a.cell? ((Addr.mk c 0 none).add 1) = some (Value.int .i64 g) ∧ BIf ((f:Int) != g) (∃ h:Bool,a.cell? ((Addr.mk b 0 none).add 3) = some (Value.bool h) ∧ BIf h (∃ i:Bool,a.cell? ((Addr.mk b 0 none).add 4) = some (Value.bool i) ∧ BIf i (∃ j:Bool,a.cell? ((Addr.mk c 0 none).add 4) = some (Value.bool j) ∧ f59_s0 (!j) a K) (f59_s0 true a K)) (∃ k:Bool,a.cell? ((Addr.mk c 0 none).add 3) = some (Value.bool k) ∧ BIf k (∃ l:Bool,a.cell? ((Addr.mk b 0 none).add 4) = some (Value.bool l) ∧ BIf l (∃ m:Bool,a.cell? ((Addr.mk c 0 none).add 4) = some (Value.bool m) ∧ f59_s0 (!m) a K) (f59_s0 true a K)) (f59_s0 false a K))) (f59_s0 false a K)))) := by kernel_rfl
theorem c59_eq:Go.Proofs.Try.f59.body = some c59 := by kernel_rfl
theorem f59_un (a b:Array Value) (w:World) (K:KT):f59 a b w K = CS P c59 none (resT Go.Proofs.Try.f59.results.toList) (resT Go.Proofs.Try.f59.results.toList) (bodyK P Go.Proofs.Try.f59.results.toList K) (env0 Go.Proofs.Try.f59.ntmps [(Value.agg a),(Value.agg b)]) w := by kernel_rfl
theorem f59_ok (a b:Array Value) (w:World) (K:KT) (h:f59 a b w K):CallL P 59 [(Value.agg a),(Value.agg b)] w K := calls_of_CS Go.Proofs.Try.func59 c59_eq (Eq.mp (f59_un a b w K) h)
/-! 96 candling.race.kind -/
noncomputable def c96:Code := match Go.Proofs.Try.f96.body with
  | some c => c
  | none => .skip
noncomputable def rs96:List ResultVar := Go.Proofs.Try.f96.results.toList
abbrev f96_kb (K:KT):Exit → YT := bodyK P rs96 K
def f96 (a:Array Value) (w:World) (K:KT):Prop := CS P c96 none [2] [2] (f96_kb K) (env0 9 [(Value.agg a)]) w
abbrev f96_k0 (K:KT):Exit → YT := kseq P (codeAt c96 [0]) (codeAt c96 [1]) none [2] [2] (f96_kb K)
abbrev f96_k1 (K:KT):Exit → YT := kseq P (codeAt c96 [1,0]) (codeAt c96 [1,1]) none [2] [2] (f96_kb K)
abbrev f96_k2 (K:KT):Exit → YT := kblock 0 (f96_k1 K)
abbrev f96_k3 (K:KT):Exit → YT := kseq P (codeAt c96 [1,0,0,0]) (codeAt c96 [1,0,0,1]) none [] [2] (f96_k2 K)
abbrev f96_k4 (K:KT):Exit → YT := kseq P (codeAt c96 [1,0,0,1,0,0]) (codeAt c96 [1,0,0,1,0,1]) none [] [2] (f96_k2 K)
abbrev f96_k5 (K:KT):Exit → YT := kseq P (codeAt c96 [1,0,0,1,1,0]) (codeAt c96 [1,0,0,1,1,1]) none [] [2] (f96_k2 K)
abbrev f96_k6 (K:KT):Exit → YT := kseq P (codeAt c96 [1,0,0,1,1,1,0,0]) (codeAt c96 [1,0,0,1,1,1,0,1]) none [] [2] (f96_k2 K)
def f96_s0 (w:World) (K:KT):Prop := Join (fun e w => CS P (codeAt c96 [1,1]) none [2] [2] (f96_kb K) e w) (Env.mk 9 [] []) w
abbrev f96_k7 (K:KT):Exit → YT := kseq P (codeAt c96 [1,1,0]) (codeAt c96 [1,1,1]) none [2] [2] (f96_kb K)
theorem f96_s0_eq (w:World) (K:KT):f96_s0 w K = (K (Value.int .i64 0) w) := by kernel_rfl
theorem f96_eq (b:Array Value) (w:World) (K:KT):f96 b w K = (NewC b 45 w (fun c a => ∃ d:Bool,a.cell? ((Addr.mk c 0 none).add 4) = some (Value.bool d) ∧ BIf d (K (Value.int .i64 2) a) (∃ e:Bool,a.cell? ((Addr.mk c 0 none).add 3) = some (Value.bool e) ∧ BIf e (K (Value.int .i64 1) a) (f96_s0 a K)))) := by kernel_rfl
theorem c96_eq:Go.Proofs.Try.f96.body = some c96 := by kernel_rfl
theorem f96_un (a:Array Value) (w:World) (K:KT):f96 a w K = CS P c96 none (resT Go.Proofs.Try.f96.results.toList) (resT Go.Proofs.Try.f96.results.toList) (bodyK P Go.Proofs.Try.f96.results.toList K) (env0 Go.Proofs.Try.f96.ntmps [(Value.agg a)]) w := by kernel_rfl
theorem f96_ok (a:Array Value) (w:World) (K:KT) (h:f96 a w K):CallL P 96 [(Value.agg a)] w K := calls_of_CS Go.Proofs.Try.func96 c96_eq (Eq.mp (f96_un a w K) h)
/-! 64 candling.race.accesses -/
noncomputable def c64:Code := match Go.Proofs.Try.f64.body with
  | some c => c
  | none => .skip
noncomputable def rs64:List ResultVar := Go.Proofs.Try.f64.results.toList
abbrev f64_kb (K:KT):Exit → YT := bodyK P rs64 K
def f64 (a:Array Value) (w:World) (K:KT):Prop := CS P c64 none [2,3,4] [2,3,4] (f64_kb K) (env0 15 [(Value.agg a)]) w
abbrev f64_k0 (K:KT):Exit → YT := kseq P (codeAt c64 [0]) (codeAt c64 [1]) none [2,3,4] [2,3,4] (f64_kb K)
abbrev f64_k1 (K:KT):Exit → YT := kseq P (codeAt c64 [1,0]) (codeAt c64 [1,1]) none [2,3,4] [2,3,4] (f64_kb K)
abbrev f64_k2 (K:KT):Exit → YT := kseq P (codeAt c64 [1,0,0]) (codeAt c64 [1,0,1]) none [] [2,3,4] (f64_k1 K)
abbrev f64_k3 (K:KT):Exit → YT := kblock 0 (f64_k1 K)
abbrev f64_k4 (K:KT):Exit → YT := kseq P (codeAt c64 [1,0,1,0,0]) (codeAt c64 [1,0,1,0,1]) none [] [2,3,4] (f64_k3 K)
abbrev f64_k5 (K:KT):Exit → YT := kseq P (codeAt c64 [1,0,1,0,0,0]) (codeAt c64 [1,0,1,0,0,1]) none [7,6] [2,3,4] (f64_k4 K)
def f64_s0 (a:Bool) (b:Int) (w:World) (K:KT):Prop := Join (fun e w => CS P (codeAt c64 [1,0,1,0,1]) none [] [2,3,4] (f64_k3 K) e w) (Env.mk 15 [(7,(VB a)),(6,(VI b))] []) w
abbrev f64_k6 (K:KT):Exit → YT := kseq P (codeAt c64 [1,0,1,0,1,0,0]) (codeAt c64 [1,0,1,0,1,0,1]) none [] [2,3,4] (f64_k3 K)
abbrev f64_k7 (K:KT):Exit → YT := kseq P (codeAt c64 [1,0,1,0,1,1,0]) (codeAt c64 [1,0,1,0,1,1,1]) none [] [2,3,4] (f64_k3 K)
abbrev f64_k8 (K:KT):Exit → YT := kseq P (codeAt c64 [1,0,1,0,1,1,0,0]) (codeAt c64 [1,0,1,0,1,1,0,1]) none [10,6] [2,3,4] (f64_k7 K)
def f64_s1 (a:Bool) (b:Int) (w:World) (K:KT):Prop := Join (fun e w => CS P (codeAt c64 [1,0,1,0,1,1,1]) none [] [2,3,4] (f64_k3 K) e w) (Env.mk 15 [(10,(VB a)),(6,(VI b))] []) w
abbrev f64_k9 (K:KT):Exit → YT := kseq P (codeAt c64 [1,0,1,0,1,1,1,0,0]) (codeAt c64 [1,0,1,0,1,1,1,0,1]) none [] [2,3,4] (f64_k3 K)
abbrev f64_k10 (K:KT):Exit → YT := kseq P (codeAt c64 [1,0,1,0,1,1,1,1,0]) (codeAt c64 [1,0,1,0,1,1,1,1,1]) none [] [2,3,4] (f64_k3 K)
abbrev f64_k11 (K:KT):Exit → YT := kseq P (codeAt c64 [1,0,1,0,1,1,1,1,1,0,0]) (codeAt c64 [1,0,1,0,1,1,1,1,1,0,1]) none [] [2,3,4] (f64_k3 K)
def f64_s2 (w:World) (K:KT):Prop := Join (fun e w => CS P (codeAt c64 [1,1]) none [2,3,4] [2,3,4] (f64_kb K) e w) (Env.mk 15 [] []) w
abbrev f64_k12 (K:KT):Exit → YT := kseq P (codeAt c64 [1,1,0]) (codeAt c64 [1,1,1]) none [2,3,4] [2,3,4] (f64_kb K)
theorem f64_s2_eq (w:World) (K:KT):f64_s2 w K = (K (Value.tuple [(Value.bool false),(Value.bool false),(Value.bool false)].toArray) w) := by kernel_rfl
theorem f64_s1_eq (a:Bool) (b:Int) (w:World) (K:KT):f64_s1 a b w K = (BIf a (K (Value.tuple [(Value.bool true),(Value.bool false),(Value.bool true)].toArray) w) (BIf ((b:Int) == 4) (K (Value.tuple [(Value.bool true),(Value.bool true),(Value.bool true)].toArray) w) (f64_s2 w K))) := by kernel_rfl
theorem f64_s0_eq (b:Bool) (a:Int) (w:World) (K:KT):f64_s0 b a w K = (BIf b (K (Value.tuple [(Value.bool false),(Value.bool false),(Value.bool true)].toArray) w) (BIf ((a:Int) == 3) (f64_s1 true a w K) (f64_s1 ((a:Int) == 22) a w K))) := by kernel_rfl
theorem f64_eq (c:Array Value) (w:World) (K:KT):f64 c w K = (NewC c 35 w (fun d b => ∃ a:Int,b.cell? (Addr.mk d 0 none) = some (Value.int .i64 a) ∧ BIf ((a:Int) == 2) (f64_s0 true a b K) (f64_s0 ((a:Int) == 23) a b K))) := by kernel_rfl
theorem c64_eq:Go.Proofs.Try.f64.body = some c64 := by kernel_rfl
theorem f64_un (a:Array Value) (w:World) (K:KT):f64 a w K = CS P c64 none (resT Go.Proofs.Try.f64.results.toList) (resT Go.Proofs.Try.f64.results.toList) (bodyK P Go.Proofs.Try.f64.results.toList K) (env0 Go.Proofs.Try.f64.ntmps [(Value.agg a)]) w := by kernel_rfl
theorem f64_ok (a:Array Value) (w:World) (K:KT) (h:f64 a w K):CallL P 64 [(Value.agg a)] w K := calls_of_CS Go.Proofs.Try.func64 c64_eq (Eq.mp (f64_un a w K) h)
/-! 65 candling.race.bytes -/
noncomputable def c65:Code := match Go.Proofs.Try.f65.body with
  | some c => c
  | none => .skip
noncomputable def rs65:List ResultVar := Go.Proofs.Try.f65.results.toList
abbrev f65_kb (K:KT):Exit → YT := bodyK P rs65 K
def f65 (a b:Int) (w:World) (K:KT):Prop := CS P c65 none [4] [4] (f65_kb K) (env0 6 [(Value.int .u32 a),(VI b)]) w
abbrev f65_k0 (K:KT):Exit → YT := kseq P (codeAt c65 [0]) (codeAt c65 [1]) none [4] [4] (f65_kb K)
abbrev f65_k1 (K:KT):Exit → YT := kseq P (codeAt c65 [1,0]) (codeAt c65 [1,1]) none [4] [4] (f65_kb K)
theorem f65_eq (a b:Int) (w:World) (K:KT):f65 a b w K = (NewC #[(Value.int .u32 a)] 33 w (fun c d => NewC #[(Value.int .i64 b)] 3 d (fun e f => K (Value.func (.func 95) #[] #[(Value.pointer (some (Addr.mk e 0 none))),(Value.pointer (some (Addr.mk c 0 none)))]) f))) := by kernel_rfl
theorem c65_eq:Go.Proofs.Try.f65.body = some c65 := by kernel_rfl
theorem f65_un (a b:Int) (w:World) (K:KT):f65 a b w K = CS P c65 none (resT Go.Proofs.Try.f65.results.toList) (resT Go.Proofs.Try.f65.results.toList) (bodyK P Go.Proofs.Try.f65.results.toList K) (env0 Go.Proofs.Try.f65.ntmps [(Value.int .u32 a),(Value.int .i64 b)]) w := by kernel_rfl
theorem f65_ok (a b:Int) (w:World) (K:KT) (h:f65 a b w K):CallL P 65 [(Value.int .u32 a),(Value.int .i64 b)] w K := calls_of_CS Go.Proofs.Try.func65 c65_eq (Eq.mp (f65_un a b w K) h)
/-! 95 candling.race.bytes$1 -/
noncomputable def c95:Code := match Go.Proofs.Try.f95.body with
  | some c => c
  | none => .skip
noncomputable def rs95:List ResultVar := Go.Proofs.Try.f95.results.toList
abbrev f95_kb (K:KT):Exit → YT := bodyK P rs95 K
def f95 (a:Value) (b c:Addr) (w:World) (K:KT):Prop := CS P c95 none [] [] (f95_kb K) (env0 17 [a,(VP (some b)),(VP (some c))]) w
abbrev f95_k0 (K:KT):Exit → YT := kseq P (codeAt c95 [0]) (codeAt c95 [1]) none [] [] (f95_kb K)
abbrev f95_k1 (K:KT):Exit → YT := kblock 0 (f95_kb K)
def f95_lp0 (K:KT) (Y0:YT) (e:Env) (w:World):Prop := Join (fun e w => CS P (codeAt c95 [1,0,0]) none [6,2,0,5] [] (kloop [6,2,0,5] Y0 (f95_k1 K)) e w) e w
abbrev f95_kl0 (K:KT) (Y0:YT):Exit → YT := kloop [6,2,0,5] Y0 (f95_k1 K)
def f95_lb0 (a:Int) (b:Addr) (c:Value) (d:Int) (w:World) (K:KT) (Y0:YT):Prop := Join (fun e w => CS P (codeAt c95 [1,0,0]) none [6,2,0,5] [] (f95_kl0 K Y0) e w) (Env.mk 17 [(6,(VI a)),(2,(VP (some b))),(0,c),(5,(VI d))] []) w
abbrev f95_k2 (K:KT) (Y0:YT):Exit → YT := kseq P (codeAt c95 [1,0,0,0]) (codeAt c95 [1,0,0,1]) none [6,2,0,5] [] (f95_kl0 K Y0)
abbrev f95_k3 (K:KT) (Y0:YT):Exit → YT := kseq P (codeAt c95 [1,0,0,1,0]) (codeAt c95 [1,0,0,1,1]) none [6,2,0,5] [] (f95_kl0 K Y0)
def f95_s1 (a:Addr) (b:Value) (c d:Int) (w:World) (K:KT) (Y0:YT):Prop := Join (fun e w => CS P (codeAt c95 [1,0,0,1,1]) none [6,2,0,5] [] (f95_kl0 K Y0) e w) (Env.mk 17 [(2,(VP (some a))),(0,b),(5,(VI c)),(6,(VI d))] []) w
abbrev f95_k4 (K:KT) (Y0:YT):Exit → YT := kseq P (codeAt c95 [1,0,0,1,1,0]) (codeAt c95 [1,0,0,1,1,1]) none [6,2,0,5] [] (f95_kl0 K Y0)
abbrev f95_k5 (K:KT) (Y0:YT):Exit → YT := kblock 1 (f95_k4 K Y0)
abbrev f95_k6 (K:KT) (Y0:YT):Exit → YT := kseq P (codeAt c95 [1,0,0,1,1,0,0,0]) (codeAt c95 [1,0,0,1,1,0,0,1]) none [2,0,5,6] [2,0,5,6] (f95_k5 K Y0)
abbrev f95_k7 (K:KT) (Y0:YT):Exit → YT := kseq P (codeAt c95 [1,0,0,1,1,0,0,1,0]) (codeAt c95 [1,0,0,1,1,0,0,1,1]) none [2,0,5,6] [2,0,5,6] (f95_k5 K Y0)
def f95_s2 (a:Addr) (b:Value) (c d:Int) (w:World) (K:KT) (Y0:YT):Prop := Join (fun e w => CS P (codeAt c95 [1,0,0,1,1,1]) none [6,2,0,5] [] (f95_kl0 K Y0) e w) (Env.mk 17 [(2,(VP (some a))),(0,b),(5,(VI c)),(6,(VI d))] []) w
theorem f95_s2_eq (a:Addr) (b:Value) (c d:Int) (w:World) (K:KT) (Y0:YT):f95_s2 a b c d w K Y0 = (Y0 (Env.mk 17 [(6,(Value.int .i64 (IntKind.wrap .i64 ((d:Int) + 1)))),(2,(Value.pointer (some a))),(0,b),(5,(Value.int .i64 c))] []) w) := by kernel_rfl
theorem f95_s1_eq (a:Addr) (b:Value) (d c:Int) (w:World) (K:KT) (Y0:YT):f95_s1 a b d c w K Y0 = (∃ e:Int,w.cell? a = some (Value.int .u32 e) ∧ CallF P b [(Value.int .u32 (IntKind.wrap .u32 ((e:Int) + (IntKind.wrap .u32 c))))] w (fun h f => ∃ g:Bool,h = (Value.bool g) ∧ BIf (!g) (K (Value.tuple [].toArray) f) (f95_s2 a b d c f K Y0))) := by kernel_rfl
theorem f95_lb0_eq (a:Int) (c:Addr) (d:Value) (b:Int) (w:World) (K:KT) (Y0:YT):f95_lb0 a c d b w K Y0 = (BIf (decide ((a:Int) < b)) (f95_s1 c d b a w K Y0) (K (Value.tuple [].toArray) w)) := by kernel_rfl
theorem f95_eq (a:Value) (b c:Addr) (w:World) (K:KT):f95 a b c w K = (∃ d:Int,w.cell? b = some (Value.int .i64 d) ∧ LoopE (f95_lp0 K) (Env.mk 17 [(6,(Value.int .i64 0)),(2,(Value.pointer (some c))),(0,a),(5,(Value.int .i64 d))] []) w) := by kernel_rfl
theorem c95_eq:Go.Proofs.Try.f95.body = some c95 := by kernel_rfl
theorem f95_un (a:Value) (b c:Addr) (w:World) (K:KT):f95 a b c w K = CS P c95 none (resT Go.Proofs.Try.f95.results.toList) (resT Go.Proofs.Try.f95.results.toList) (bodyK P Go.Proofs.Try.f95.results.toList K) (env0 Go.Proofs.Try.f95.ntmps [a,(Value.pointer (some b)),(Value.pointer (some c))]) w := by kernel_rfl
theorem f95_ok (a:Value) (b c:Addr) (w:World) (K:KT) (h:f95 a b c w K):CallL P 95 [a,(Value.pointer (some b)),(Value.pointer (some c))] w K := calls_of_CS Go.Proofs.Try.func95 c95_eq (Eq.mp (f95_un a b c w K) h)
/-! 97 (*candling.race.clock).join -/
noncomputable def c97:Code := match Go.Proofs.Try.f97.body with
  | some c => c
  | none => .skip
noncomputable def rs97:List ResultVar := Go.Proofs.Try.f97.results.toList
abbrev f97_kb (K:KT):Exit → YT := bodyK P rs97 K
def f97 (a:Option Addr) (b:Array Value) (w:World) (K:KT):Prop := CS P c97 none [] [] (f97_kb K) (env0 22 [(VP a),(Value.agg b)]) w
abbrev f97_k0 (K:KT):Exit → YT := kseq P (codeAt c97 [0]) (codeAt c97 [1]) none [] [] (f97_kb K)
abbrev f97_k1 (K:KT):Exit → YT := kseq P (codeAt c97 [1,0]) (codeAt c97 [1,1]) none [] [] (f97_kb K)
abbrev f97_k2 (K:KT):Exit → YT := kblock 0 (f97_kb K)
def f97_lp0 (K:KT) (Y0:YT) (e:Env) (w:World):Prop := Join (fun e w => CS P (codeAt c97 [1,1,0,0]) none [5,3,0] [] (kloop [5,3,0] Y0 (f97_k2 K)) e w) e w
abbrev f97_kl0 (K:KT) (Y0:YT):Exit → YT := kloop [5,3,0] Y0 (f97_k2 K)
def f97_lb0 (a:Int) (b:Addr) (c:Option Addr) (w:World) (K:KT) (Y0:YT):Prop := Join (fun e w => CS P (codeAt c97 [1,1,0,0]) none [5,3,0] [] (f97_kl0 K Y0) e w) (Env.mk 22 [(5,(VI a)),(3,(VP (some b))),(0,(VP c))] []) w
abbrev f97_k3 (K:KT) (Y0:YT):Exit → YT := kseq P (codeAt c97 [1,1,0,0,0]) (codeAt c97 [1,1,0,0,1]) none [5,3,0] [] (f97_kl0 K Y0)
abbrev f97_k4 (K:KT) (Y0:YT):Exit → YT := kseq P (codeAt c97 [1,1,0,0,1,0]) (codeAt c97 [1,1,0,0,1,1]) none [5,3,0] [] (f97_kl0 K Y0)
def f97_s1 (a:Addr) (b:Option Addr) (c:Int) (w:World) (K:KT) (Y0:YT):Prop := Join (fun e w => CS P (codeAt c97 [1,1,0,0,1,1]) none [5,3,0] [] (f97_kl0 K Y0) e w) (Env.mk 22 [(3,(VP (some a))),(0,(VP b)),(5,(VI c))] []) w
abbrev f97_k5 (K:KT) (Y0:YT):Exit → YT := kseq P (codeAt c97 [1,1,0,0,1,1,0]) (codeAt c97 [1,1,0,0,1,1,1]) none [5,3,0] [] (f97_kl0 K Y0)
abbrev f97_k6 (K:KT) (Y0:YT):Exit → YT := kblock 1 (f97_k5 K Y0)
abbrev f97_k7 (K:KT) (Y0:YT):Exit → YT := kseq P (codeAt c97 [1,1,0,0,1,1,0,0,0]) (codeAt c97 [1,1,0,0,1,1,0,0,1]) none [3,0,5] [3,0,5] (f97_k6 K Y0)
def f97_s2 (a:Addr) (b:Option Addr) (c:Int) (w:World) (K:KT) (Y0:YT):Prop := Join (fun e w => CS P (codeAt c97 [1,1,0,0,1,1,1]) none [5,3,0] [] (f97_kl0 K Y0) e w) (Env.mk 22 [(3,(VP (some a))),(0,(VP b)),(5,(VI c))] []) w
theorem f97_s2_eq (a:Addr) (b:Option Addr) (c:Int) (w:World) (K:KT) (Y0:YT):f97_s2 a b c w K Y0 = (Y0 (Env.mk 22 [(5,(Value.int .i64 (IntKind.wrap .i64 ((c:Int) + 1)))),(3,(Value.pointer (some a))),(0,(Value.pointer b))] []) w) := by kernel_rfl
theorem f97_s1_eq (c:Addr) (b:Option Addr) (a:Int) (w:World) (K:KT) (Y0:YT):f97_s1 c b a w K Y0 = (optS b (fun h => 0 ≤ (a:Int) ∧ (a:Int) < (8:Nat) ∧ 0 ≤ (a:Int) ∧ (a:Int) < (8:Nat) ∧ optS b (fun i => ∃ d:Int,w.drew.cell? (h.add (Int.toNat a * 1)) = some (Value.int .i64 d) ∧ ∃ e:Int,w.drew.cell? (c.add (Int.toNat a * 1)) = some (Value.int .i64 e) ∧ ∃ f:Int,∃ g:World,(Builtin.max_ #[3,3] 3 [(Value.int .i64 d),(Value.int .i64 e)].toArray).run P w.drew = .ok (Value.int .i64 f) g ∧ 0 ≤ (a:Int) ∧ (a:Int) < (8:Nat) ∧ St1 (i.add (Int.toNat a * 1)) (Value.int .i64 f) g (fun j => f97_s2 c b a j K Y0)))) := by kernel_rfl
theorem f97_lb0_eq (a:Int) (b:Addr) (c:Option Addr) (w:World) (K:KT) (Y0:YT):f97_lb0 a b c w K Y0 = (BIf (decide ((a:Int) < 8)) (f97_s1 b c a w K Y0) (K (Value.tuple [].toArray) w)) := by kernel_rfl
theorem f97_eq (a:Option Addr) (b:Array Value) (w:World) (K:KT):f97 a b w K = (NewC b 116 w (fun c d => LoopE (f97_lp0 K) (Env.mk 22 [(5,(Value.int .i64 0)),(3,(Value.pointer (some (Addr.mk c 0 none)))),(0,(Value.pointer a))] []) d)) := by kernel_rfl
theorem c97_eq:Go.Proofs.Try.f97.body = some c97 := by kernel_rfl
theorem f97_un (a:Option Addr) (b:Array Value) (w:World) (K:KT):f97 a b w K = CS P c97 none (resT Go.Proofs.Try.f97.results.toList) (resT Go.Proofs.Try.f97.results.toList) (bodyK P Go.Proofs.Try.f97.results.toList K) (env0 Go.Proofs.Try.f97.ntmps [(Value.pointer a),(Value.agg b)]) w := by kernel_rfl
theorem f97_ok (a:Option Addr) (b:Array Value) (w:World) (K:KT) (h:f97 a b w K):CallL P 97 [(Value.pointer a),(Value.agg b)] w K := calls_of_CS Go.Proofs.Try.func97 c97_eq (Eq.mp (f97_un a b w K) h)
/-! 58 candling.race.access -/
noncomputable def c58:Code := match Go.Proofs.Try.f58.body with
  | some c => c
  | none => .skip
noncomputable def rs58:List ResultVar := Go.Proofs.Try.f58.results.toList
abbrev f58_kb (K:KT):Exit → YT := bodyK P rs58 K
def f58 (a:Option Addr) (b c:Nat) (d e:Int) (w:World) (K:KT):Prop := CS P c58 none [6,7] [6,7] (f58_kb K) (env0 54 [(VS a b c),(VI d),(Value.int .u32 e)]) w
abbrev f58_k0 (K:KT):Exit → YT := kseq P (codeAt c58 [0]) (codeAt c58 [1]) none [6,7] [6,7] (f58_kb K)
abbrev f58_k1 (K:KT):Exit → YT := kseq P (codeAt c58 [1,0]) (codeAt c58 [1,1]) none [6,7] [6,7] (f58_kb K)
abbrev f58_k2 (K:KT):Exit → YT := kseq P (codeAt c58 [1,1,0]) (codeAt c58 [1,1,1]) none [6,7] [6,7] (f58_kb K)
abbrev f58_k3 (K:KT):Exit → YT := kseq P (codeAt c58 [1,1,0,0]) (codeAt c58 [1,1,0,1]) none [6,9,8,1,0] [6,7] (f58_k2 K)
def f58_s0 (a:Bool) (b:Addr) (c d:Bool) (f:Int) (g:Option Addr) (h i:Nat) (w:World) (K:KT):Prop := Join (fun e w => CS P (codeAt c58 [1,1,0,1]) none [6,9,8,1,0] [6,7] (f58_k2 K) e w) (Env.mk 54 [(38,(VB a)),(6,(VP (some b))),(9,(VB c)),(8,(VB d)),(1,(VI f)),(0,(VS g h i))] []) w
abbrev f58_k4 (K:KT):Exit → YT := kseq P (codeAt c58 [1,1,0,1,0,0]) (codeAt c58 [1,1,0,1,0,1]) none [6,9,8,1,0] [6,7] (f58_k2 K)
def f58_s1 (a:Addr) (b c:Bool) (d:Int) (f:Option Addr) (g h:Nat) (w:World) (K:KT):Prop := Join (fun e w => CS P (codeAt c58 [1,1,1]) none [6,7] [6,7] (f58_kb K) e w) (Env.mk 54 [(6,(VP (some a))),(9,(VB b)),(8,(VB c)),(1,(VI d)),(0,(VS f g h))] []) w
abbrev f58_k5 (K:KT):Exit → YT := kseq P (codeAt c58 [1,1,1,0]) (codeAt c58 [1,1,1,1]) none [6,7] [6,7] (f58_kb K)
def f58_s2 (a:Addr) (b:Bool) (w:World) (K:KT):Prop := Join (fun e w => CS P (codeAt c58 [1,1,1,1]) none [6,7] [6,7] (f58_kb K) e w) (Env.mk 54 [(6,(VP (some a))),(7,(VB b))] []) w
theorem f58_s2_eq (a:Addr) (b:Bool) (w:World) (K:KT):f58_s2 a b w K = (LdA 5 a w (fun c => K (Value.tuple [(Value.agg c),(Value.bool b)].toArray) w)) := by kernel_rfl
theorem f58_s1_eq (b:Addr) (e f:Bool) (a:Int) (c:Option Addr) (d j:Nat) (w:World) (K:KT):f58_s1 b e f a c d j w K = (optS c (fun k => 0 ≤ (a:Int) ∧ (a:Int) < (d:Nat) ∧ optS c (fun l => 0 ≤ (a:Int) ∧ (a:Int) < (d:Nat) ∧ ∃ g:Int,w.drew.cell? ((k.add (Int.toNat a * 6)).add 1) = some (Value.int .i64 g) ∧ ∃ h:Int,w.drew.cell? ((l.add (Int.toNat a * 6)).add 2) = some (Value.int .u32 h) ∧ ∃ i:Array Value,(∀ wq,(Instr.build 45 [(0,(Value.int .i64 a)),(1,(Value.int .i64 g)),(2,(Value.int .u32 h)),(3,(Value.bool f)),(4,(Value.bool e))].toArray).run P wq = .ok (Value.agg i) wq) ∧ StA 5 b i w.drew (fun m => f58_s2 b true m K)))) := by kernel_rfl
theorem f58_s0_eq (b:Bool) (a:Addr) (c d:Bool) (e:Int) (f:Option Addr) (g h:Nat) (w:World) (K:KT):f58_s0 b a c d e f g h w K = (BIf b (∃ i:Array Value,(∀ wq,(Instr.build 45 [].toArray).run P wq = .ok (Value.agg i) wq) ∧ StA 5 a i w (fun j => LdA 5 a j (fun k => K (Value.tuple [(Value.agg k),(Value.bool false)].toArray) j))) (f58_s1 a c d e f g h w K)) := by kernel_rfl
theorem f58_eq (b:Option Addr) (c e:Nat) (a h:Int) (w:World) (K:KT):f58 b c e a h w K = (NewC (zcells P 45) 45 w (fun i j => optS b (fun n => 0 ≤ (a:Int) ∧ (a:Int) < (c:Nat) ∧ LdA 6 (n.add (Int.toNat a * 6)) j (fun o => CallL P 64 [(Value.agg o)] j (fun p d => ∃ f:Bool,∃ g:Bool,∃ k:Bool,p = (Value.tuple [(Value.bool f),(Value.bool g),(Value.bool k)].toArray) ∧ BIf (!k) (f58_s0 true (Addr.mk i 0 none) g f a b c e d.drew K) (optS b (fun q => 0 ≤ (a:Int) ∧ (a:Int) < (c:Nat) ∧ optS b (fun r => 0 ≤ (a:Int) ∧ (a:Int) < (c:Nat) ∧ ∃ l:Int,d.drew.cell? ((q.add (Int.toNat a * 6)).add 3) = some (Value.int .u32 l) ∧ ∃ m:Int,d.drew.cell? ((r.add (Int.toNat a * 6)).add 5) = some (Value.int .i64 m) ∧ f58_s0 (decide (((IntKind.wrap .u64 (IntKind.wrap .u32 ((h:Int) - l))):Int) ≥ (IntKind.wrap .u64 m))) (Addr.mk i 0 none) g f a b c e d.drew K)))))))) := by kernel_rfl
theorem c58_eq:Go.Proofs.Try.f58.body = some c58 := by kernel_rfl
theorem f58_un (a:Option Addr) (b c:Nat) (d e:Int) (w:World) (K:KT):f58 a b c d e w K = CS P c58 none (resT Go.Proofs.Try.f58.results.toList) (resT Go.Proofs.Try.f58.results.toList) (bodyK P Go.Proofs.Try.f58.results.toList K) (env0 Go.Proofs.Try.f58.ntmps [(Value.slice a b c),(Value.int .i64 d),(Value.int .u32 e)]) w := by kernel_rfl
theorem f58_ok (a:Option Addr) (b c:Nat) (d e:Int) (w:World) (K:KT) (h:f58 a b c d e w K):CallL P 58 [(Value.slice a b c),(Value.int .i64 d),(Value.int .u32 e)] w K := calls_of_CS Go.Proofs.Try.func58 c58_eq (Eq.mp (f58_un a b c d e w K) h)
/-! 131 (*candling.race.plan).other -/
noncomputable def c131:Code := match Go.Proofs.Try.f131.body with
  | some c => c
  | none => .skip
noncomputable def rs131:List ResultVar := Go.Proofs.Try.f131.results.toList
abbrev f131_kb (K:KT):Exit → YT := bodyK P rs131 K
def f131 (a:Option Addr) (w:World) (K:KT):Prop := CS P c131 none [2,3] [2,3] (f131_kb K) (env0 17 [(VP a)]) w
abbrev f131_k0 (K:KT):Exit → YT := kseq P (codeAt c131 [0]) (codeAt c131 [1]) none [2,3] [2,3] (f131_kb K)
abbrev f131_k1 (K:KT):Exit → YT := kseq P (codeAt c131 [1,0]) (codeAt c131 [1,1]) none [2,3] [2,3] (f131_kb K)
abbrev f131_k2 (K:KT):Exit → YT := kseq P (codeAt c131 [1,1,0]) (codeAt c131 [1,1,1]) none [2,3] [2,3] (f131_kb K)
def f131_s0 (a:Int) (b:Bool) (w:World) (K:KT):Prop := Join (fun e w => CS P (codeAt c131 [1,1,1]) none [2,3] [2,3] (f131_kb K) e w) (Env.mk 17 [(2,(VI a)),(3,(VB b))] []) w
theorem f131_s0_eq (a:Int) (b:Bool) (w:World) (K:KT):f131_s0 a b w K = (K (Value.tuple [(Value.int .i64 a),(Value.bool b)].toArray) w) := by kernel_rfl
theorem f131_eq (b:Option Addr) (w:World) (K:KT):f131 b w K = (optS b (fun c => ∃ a:Int,w.cell? ((c.add 1).add 5) = some (Value.int .i64 a) ∧ BIf (decide ((a:Int) ≥ 0)) (f131_s0 a (decide ((a:Int) < 8)) w K) (f131_s0 a false w K))) := by kernel_rfl
theorem c131_eq:Go.Proofs.Try.f131.body = some c131 := by kernel_rfl
theorem f131_un (a:Option Addr) (w:World) (K:KT):f131 a w K = CS P c131 none (resT Go.Proofs.Try.f131.results.toList) (resT Go.Proofs.Try.f131.results.toList) (bodyK P Go.Proofs.Try.f131.results.toList K) (env0 Go.Proofs.Try.f131.ntmps [(Value.pointer a)]) w := by kernel_rfl
theorem f131_ok (a:Option Addr) (w:World) (K:KT) (h:f131 a w K):CallL P 131 [(Value.pointer a)] w K := calls_of_CS Go.Proofs.Try.func131 c131_eq (Eq.mp (f131_un a w K) h)
end Go.Fx.Try
namespace Go.Fx.Try
set_option maxRecDepth 100000
open Go Go.Fx
/-! 39 candling.race.New -/
noncomputable def c39:Code := match Go.Proofs.Try.f39.body with
  | some c => c
  | none => .skip
noncomputable def rs39:List ResultVar := Go.Proofs.Try.f39.results.toList
abbrev f39_kb (K:KT):Exit → YT := bodyK P rs39 K
def f39 (w:World) (K:KT):Prop := CS P c39 none [0] [0] (f39_kb K) (env0 6 []) w
abbrev f39_k0 (K:KT):Exit → YT := kseq P (codeAt c39 [0]) (codeAt c39 [1]) none [0] [0] (f39_kb K)
abbrev f39_k1 (K:KT):Exit → YT := kseq P (codeAt c39 [1,0]) (codeAt c39 [1,1]) none [0] [0] (f39_kb K)
theorem f39_eq (w:World) (K:KT):f39 w K = (CallL P 62 [] w (fun c d => ∃ a:Array Value,c = (Value.agg a) ∧ NewO (.map #[] 0) d (fun e f => NewO (.map #[] 0) f (fun g h => ∃ b:Array Value,(∀ wq,(Instr.build 126 [(0,(Value.agg a)),(1,(Value.bool true)),(3,(Value.map (some e))),(4,(Value.map (some g)))].toArray).run P wq = .ok (Value.agg b) wq) ∧ NewC b 126 h (fun i j => K (Value.pointer (some (Addr.mk i 0 none))) j))))) := by kernel_rfl
theorem c39_eq:Go.Proofs.Try.f39.body = some c39 := by kernel_rfl
theorem f39_un (w:World) (K:KT):f39 w K = CS P c39 none (resT Go.Proofs.Try.f39.results.toList) (resT Go.Proofs.Try.f39.results.toList) (bodyK P Go.Proofs.Try.f39.results.toList K) (env0 Go.Proofs.Try.f39.ntmps []) w := by kernel_rfl
theorem f39_ok (w:World) (K:KT) (h:f39 w K):CallL P 39 [] w K := calls_of_CS Go.Proofs.Try.func39 c39_eq (Eq.mp (f39_un w K) h)
/-! 62 candling.race.begin -/
noncomputable def c62:Code := match Go.Proofs.Try.f62.body with
  | some c => c
  | none => .skip
noncomputable def rs62:List ResultVar := Go.Proofs.Try.f62.results.toList
abbrev f62_kb (K:KT):Exit → YT := bodyK P rs62 K
def f62 (w:World) (K:KT):Prop := CS P c62 none [0] [0] (f62_kb K) (env0 8 []) w
abbrev f62_k0 (K:KT):Exit → YT := kseq P (codeAt c62 [0]) (codeAt c62 [1]) none [0] [0] (f62_kb K)
abbrev f62_k1 (K:KT):Exit → YT := kseq P (codeAt c62 [1,0]) (codeAt c62 [1,1]) none [0] [0] (f62_kb K)
abbrev f62_k2 (K:KT):Exit → YT := kseq P (codeAt c62 [1,1,0]) (codeAt c62 [1,1,1]) none [0] [0] (f62_kb K)
abbrev f62_k3 (K:KT):Exit → YT := kseq P (codeAt c62 [1,1,1,0]) (codeAt c62 [1,1,1,1]) none [0] [0] (f62_kb K)
theorem f62_eq (w:World) (K:KT):f62 w K = (NewC (zcells P 121) 121 w (fun b f => NewO (.map #[] 0) f (fun g h => NewO (.map #[] 0) h (fun i j => ∃ c:Array Value,(∀ wq,(Instr.build 121 [(4,(Value.map (some g))),(5,(Value.map (some i)))].toArray).run P wq = .ok (Value.agg c) wq) ∧ NewC (zcells P 121) 121 j (fun a k => StA 90 (Addr.mk a 0 none) c k (fun l => 0 ≤ (0:Int) ∧ (0:Int) < (8:Nat) ∧ St1 (((Addr.mk a 0 none).add 64).add (Int.toNat 0 * 1)) (Value.bool true) l (fun d => LdA 90 (Addr.mk a 0 none) d (fun m => StA 90 (Addr.mk b 0 none) m d (fun e => LdA 90 (Addr.mk b 0 none) e (fun n => K (Value.agg n) e)))))))))) := by kernel_rfl
theorem c62_eq:Go.Proofs.Try.f62.body = some c62 := by kernel_rfl
theorem f62_un (w:World) (K:KT):f62 w K = CS P c62 none (resT Go.Proofs.Try.f62.results.toList) (resT Go.Proofs.Try.f62.results.toList) (bodyK P Go.Proofs.Try.f62.results.toList K) (env0 Go.Proofs.Try.f62.ntmps []) w := by kernel_rfl
theorem f62_ok (w:World) (K:KT) (h:f62 w K):CallL P 62 [] w K := calls_of_CS Go.Proofs.Try.func62 c62_eq (Eq.mp (f62_un w K) h)
/-! 127 (*candling.race.plan).tick -/
noncomputable def c127:Code := match Go.Proofs.Try.f127.body with
  | some c => c
  | none => .skip
noncomputable def rs127:List ResultVar := Go.Proofs.Try.f127.results.toList
abbrev f127_kb (K:KT):Exit → YT := bodyK P rs127 K
def f127 (a:Option Addr) (b:Array Value) (w:World) (K:KT):Prop := CS P c127 none [] [] (f127_kb K) (env0 46 [(VP a),(Value.agg b)]) w
abbrev f127_k0 (K:KT):Exit → YT := kseq P (codeAt c127 [0]) (codeAt c127 [1]) none [] [] (f127_kb K)
abbrev f127_k1 (K:KT):Exit → YT := kseq P (codeAt c127 [1,0]) (codeAt c127 [1,1]) none [] [] (f127_kb K)
abbrev f127_k2 (K:KT):Exit → YT := kseq P (codeAt c127 [1,1,0]) (codeAt c127 [1,1,1]) none [] [] (f127_kb K)
def f127_s0 (a:Addr) (b:Option Addr) (w:World) (K:KT):Prop := Join (fun e w => CS P (codeAt c127 [1,1,1]) none [] [] (f127_kb K) e w) (Env.mk 46 [(3,(VP (some a))),(0,(VP b))] []) w
abbrev f127_k3 (K:KT):Exit → YT := kseq P (codeAt c127 [1,1,1,0]) (codeAt c127 [1,1,1,1]) none [] [] (f127_kb K)
def f127_s1 (a:Addr) (b:Option Addr) (w:World) (K:KT):Prop := Join (fun e w => CS P (codeAt c127 [1,1,1,1]) none [] [] (f127_kb K) e w) (Env.mk 46 [(3,(VP (some a))),(0,(VP b))] []) w
abbrev f127_k4 (K:KT):Exit → YT := kseq P (codeAt c127 [1,1,1,1,0]) (codeAt c127 [1,1,1,1,1]) none [] [] (f127_kb K)
theorem f127_s1_eq (c:Addr) (a:Option Addr) (w:World) (K:KT):f127_s1 c a w K = (optS a (fun f => ∃ d:Int,w.cell? (f.add 16) = some (Value.int .i64 d) ∧ BIf ((d:Int) == 0) (optS a (fun g => ∃ b:Int,w.drew.cell? (c.add 1) = some (Value.int .i64 b) ∧ 0 ≤ (b:Int) ∧ (b:Int) < (8:Nat) ∧ ∃ e:Int,w.drew.cell? ((g.add 8).add (Int.toNat b * 1)) = some (Value.int .i64 e) ∧ optS a (fun h => St1 (h.add 16) (Value.int .i64 e) w.drew (fun i => K (Value.tuple [].toArray) i)))) (K (Value.tuple [].toArray) w))) := by kernel_rfl
theorem f127_s0_eq (c:Addr) (b:Option Addr) (w:World) (K:KT):f127_s0 c b w K = (optS b (fun e => optS b (fun f => ∃ a:Int,w.drew.cell? (c.add 1) = some (Value.int .i64 a) ∧ 0 ≤ (a:Int) ∧ (a:Int) < (8:Nat) ∧ ∃ d:Int,w.drew.cell? ((e.add 8).add (Int.toNat a * 1)) = some (Value.int .i64 d) ∧ 0 ≤ (a:Int) ∧ (a:Int) < (8:Nat) ∧ St1 ((f.add 8).add (Int.toNat a * 1)) (Value.int .i64 (IntKind.wrap .i64 ((d:Int) + 1))) w.drew (fun g => f127_s1 c b g K)))) := by kernel_rfl
theorem f127_eq (a:Option Addr) (e:Array Value) (w:World) (K:KT):f127 a e w K = (NewC e 99 w (fun b f => optS a (fun z => ∃ g:Int,f.cell? ((z.add 1).add 1) = some (Value.int .i64 g) ∧ St1 ((Addr.mk b 0 none).add 1) (Value.int .i64 g) f (fun c => optS a (fun h => LdA 4 (Addr.mk b 0 none) c.drew (fun d => (∃ (i:Option Addr) (j k:Nat),c.drew.cell? (h.add 7) = some (Value.slice i j k) ∧ sizesAre 4 [(Value.agg d)] ∧ NewC (([(Value.agg d)].map fun (v:Value) => v.cells.toList).flatten.toArray) 99 c.drew (fun a0 b0 => ∃ (l:Option Addr) (m n:Nat),∃ o:World,(Builtin.append_ #[57,57] 57 [(Value.slice i j k),(Value.slice (some (Addr.mk a0 0 none)) 1 1)].toArray).run P b0 = .ok (Value.slice l m n) o ∧ optS a (fun c0 => St1 (c0.add 7) (Value.slice l m n) o (fun d0 => f127_s0 (Addr.mk b 0 none) a d0 K)))) ∧ (sizesAre 4 [(Value.agg d)] ∧ NewC (([(Value.agg d)].map fun (v:Value) => v.cells.toList).flatten.toArray) 99 c.drew (fun e0 p => ∃ (q:Option Addr) (r s:Nat),p.cell? (h.add 7) = some (Value.slice q r s) ∧ ∃ (t:Option Addr) (u x:Nat),∃ y:World,(Builtin.append_ #[57,57] 57 [(Value.slice q r s),(Value.slice (some (Addr.mk e0 0 none)) 1 1)].toArray).run P p = .ok (Value.slice t u x) y ∧ optS a (fun f0 => St1 (f0.add 7) (Value.slice t u x) y (fun g0 => f127_s0 (Addr.mk b 0 none) a g0 K)))))))))) := by kernel_rfl
theorem c127_eq:Go.Proofs.Try.f127.body = some c127 := by kernel_rfl
theorem f127_un (a:Option Addr) (b:Array Value) (w:World) (K:KT):f127 a b w K = CS P c127 none (resT Go.Proofs.Try.f127.results.toList) (resT Go.Proofs.Try.f127.results.toList) (bodyK P Go.Proofs.Try.f127.results.toList K) (env0 Go.Proofs.Try.f127.ntmps [(Value.pointer a),(Value.agg b)]) w := by kernel_rfl
theorem f127_ok (a:Option Addr) (b:Array Value) (w:World) (K:KT) (h:f127 a b w K):CallL P 127 [(Value.pointer a),(Value.agg b)] w K := calls_of_CS Go.Proofs.Try.func127 c127_eq (Eq.mp (f127_un a b w K) h)
/-! 128 (*candling.race.plan).number -/
noncomputable def c128:Code := match Go.Proofs.Try.f128.body with
  | some c => c
  | none => .skip
noncomputable def rs128:List ResultVar := Go.Proofs.Try.f128.results.toList
abbrev f128_kb (K:KT):Exit → YT := bodyK P rs128 K
def f128 (a:Option Addr) (b:Array Value) (w:World) (K:KT):Prop := CS P c128 none [4] [4] (f128_kb K) (env0 66 [(VP a),(Value.agg b)]) w
abbrev f128_k0 (K:KT):Exit → YT := kseq P (codeAt c128 [0]) (codeAt c128 [1]) none [4] [4] (f128_kb K)
abbrev f128_k1 (K:KT):Exit → YT := kseq P (codeAt c128 [1,0]) (codeAt c128 [1,1]) none [4] [4] (f128_kb K)
abbrev f128_k2 (K:KT):Exit → YT := kseq P (codeAt c128 [1,0,0]) (codeAt c128 [1,0,1]) none [0,3] [4] (f128_k1 K)
abbrev f128_k3 (K:KT):Exit → YT := kseq P (codeAt c128 [1,0,1,0]) (codeAt c128 [1,0,1,1]) none [0,3] [4] (f128_k1 K)
abbrev f128_k4 (K:KT):Exit → YT := kseq P (codeAt c128 [1,0,1,1,0,0]) (codeAt c128 [1,0,1,1,0,1]) none [0,3] [4] (f128_k1 K)
def f128_s0 (a:Option Addr) (b:Addr) (w:World) (K:KT):Prop := Join (fun e w => CS P (codeAt c128 [1,1]) none [4] [4] (f128_kb K) e w) (Env.mk 66 [(0,(VP a)),(3,(VP (some b)))] []) w
abbrev f128_k5 (K:KT):Exit → YT := kseq P (codeAt c128 [1,1,0]) (codeAt c128 [1,1,1]) none [4] [4] (f128_kb K)
abbrev f128_k6 (K:KT):Exit → YT := kseq P (codeAt c128 [1,1,1,0]) (codeAt c128 [1,1,1,1]) none [4] [4] (f128_kb K)
abbrev f128_k7 (K:KT):Exit → YT := kseq P (codeAt c128 [1,1,1,0,0]) (codeAt c128 [1,1,1,0,1]) none [7] [4] (f128_k6 K)
abbrev f128_k8 (K:KT):Exit → YT := kseq P (codeAt c128 [1,1,1,0,1,0,0]) (codeAt c128 [1,1,1,0,1,0,1]) none [7] [4] (f128_k6 K)
abbrev f128_k9 (K:KT):Exit → YT := kseq P (codeAt c128 [1,1,1,0,1,0,1,0]) (codeAt c128 [1,1,1,0,1,0,1,1]) none [7] [4] (f128_k6 K)
def f128_s1 (a:Int) (b:Option Addr) (w:World) (K:KT):Prop := Join (fun e w => CS P (codeAt c128 [1,1,1,0,1,0,1,1]) none [7] [4] (f128_k6 K) e w) (Env.mk 66 [(7,(VI a)),(0,(VP b))] []) w
def f128_s2 (a:Int) (w:World) (K:KT):Prop := Join (fun e w => CS P (codeAt c128 [1,1,1,1]) none [4] [4] (f128_kb K) e w) (Env.mk 66 [(7,(VI a))] []) w
abbrev f128_k10 (K:KT):Exit → YT := kseq P (codeAt c128 [1,1,1,1,0]) (codeAt c128 [1,1,1,1,1]) none [4] [4] (f128_kb K)
theorem f128_s2_eq (a:Int) (w:World) (K:KT):f128_s2 a w K = (K (Value.int .i64 a) w) := by kernel_rfl
theorem f128_s1_eq (a:Int) (b:Option Addr) (w:World) (K:KT):f128_s1 a b w K = (optS b (fun d => ∃ c:Bool,w.cell? (d.add 22) = some (Value.bool c) ∧ BIf c (optS b (fun e => St1 (e.add 22) (Value.bool true) w (fun f => f128_s2 a f K))) (optS b (fun g => St1 (g.add 22) (Value.bool (decide ((a:Int) ≥ 65536))) w (fun h => f128_s2 a h K))))) := by kernel_rfl
theorem f128_s0_eq (a:Option Addr) (b:Addr) (w:World) (K:KT):f128_s0 a b w K = (optS a (fun m => ∃ e:Option Nat,w.drew.cell? (m.add 18) = some (Value.map e) ∧ LdA 2 b w.drew (fun n => ∃ f:Int,∃ g:Bool,(∀ wq,Ext w.drew wq → (Instr.lookup 119 (Value.map e) (Value.agg n) true).run P wq = .ok (Value.tuple [(Value.int .i64 f),(Value.bool g)].toArray) wq) ∧ BIf (!g) (optS a (fun o => optS a (fun p => ∃ h:Option Addr,w.drew.drew.cell? o = some (Value.pointer h) ∧ optS h (fun q => ∃ i:Option Nat,w.drew.drew.cell? (q.add 89) = some (Value.map i) ∧ ∃ c:Int,(∀ wq,Ext w.drew.drew wq → (Builtin.len_ #[119] 3 [(Value.map i)].toArray).run P wq = .ok (Value.int .i64 c) wq) ∧ ∃ j:Option Nat,w.drew.drew.cell? (p.add 18) = some (Value.map j) ∧ ∃ d:Int,(∀ wq,Ext w.drew.drew wq → (Builtin.len_ #[119] 3 [(Value.map j)].toArray).run P wq = .ok (Value.int .i64 d) wq) ∧ optS a (fun r => ∃ k:Option Nat,w.drew.drew.drew.cell? (r.add 18) = some (Value.map k) ∧ LdA 2 b w.drew.drew.drew (fun s => ∃ l:World,(Instr.mapUpdate 119 (Value.map k) (Value.agg s) (Value.int .i64 (IntKind.wrap .i64 ((c:Int) + d)))).run P w.drew.drew.drew = .ok () l ∧ f128_s1 (IntKind.wrap .i64 ((c:Int) + d)) a l K)))))) (f128_s2 f w.drew K)))) := by kernel_rfl
theorem f128_eq (b:Option Addr) (c:Array Value) (w:World) (K:KT):f128 b c w K = (NewC c 147 w (fun d a => optS b (fun i => ∃ e:Option Addr,a.drew.cell? i = some (Value.pointer e) ∧ optS e (fun j => ∃ f:Option Nat,a.drew.cell? (j.add 89) = some (Value.map f) ∧ LdA 2 (Addr.mk d 0 none) a.drew (fun k => ∃ g:Int,∃ h:Bool,(∀ wq,Ext a.drew wq → (Instr.lookup 119 (Value.map f) (Value.agg k) true).run P wq = .ok (Value.tuple [(Value.int .i64 g),(Value.bool h)].toArray) wq) ∧ BIf h (K (Value.int .i64 g) a.drew) (f128_s0 b (Addr.mk d 0 none) a.drew K)))))) := by kernel_rfl
theorem c128_eq:Go.Proofs.Try.f128.body = some c128 := by kernel_rfl
theorem f128_un (a:Option Addr) (b:Array Value) (w:World) (K:KT):f128 a b w K = CS P c128 none (resT Go.Proofs.Try.f128.results.toList) (resT Go.Proofs.Try.f128.results.toList) (bodyK P Go.Proofs.Try.f128.results.toList K) (env0 Go.Proofs.Try.f128.ntmps [(Value.pointer a),(Value.agg b)]) w := by kernel_rfl
theorem f128_ok (a:Option Addr) (b:Array Value) (w:World) (K:KT) (h:f128 a b w K):CallL P 128 [(Value.pointer a),(Value.agg b)] w K := calls_of_CS Go.Proofs.Try.func128 c128_eq (Eq.mp (f128_un a b w K) h)
/-! 129 (*candling.race.plan).acquire -/
noncomputable def c129:Code := match Go.Proofs.Try.f129.body with
  | some c => c
  | none => .skip
noncomputable def rs129:List ResultVar := Go.Proofs.Try.f129.results.toList
abbrev f129_kb (K:KT):Exit → YT := bodyK P rs129 K
def f129 (a:Option Addr) (b:Array Value) (w:World) (K:KT):Prop := CS P c129 none [] [] (f129_kb K) (env0 31 [(VP a),(Value.agg b)]) w
abbrev f129_k0 (K:KT):Exit → YT := kseq P (codeAt c129 [0]) (codeAt c129 [1]) none [] [] (f129_kb K)
abbrev f129_k1 (K:KT):Exit → YT := kseq P (codeAt c129 [1,0]) (codeAt c129 [1,1]) none [] [] (f129_kb K)
def f129_s0 (a:Addr) (b:Option Addr) (c:Addr) (d:Bool) (w:World) (K:KT):Prop := Join (fun e w => CS P (codeAt c129 [1,1]) none [] [] (f129_kb K) e w) (Env.mk 31 [(4,(VP (some a))),(0,(VP b)),(3,(VP (some c))),(5,(VB d))] []) w
abbrev f129_k2 (K:KT):Exit → YT := kseq P (codeAt c129 [1,1,0]) (codeAt c129 [1,1,1]) none [] [] (f129_kb K)
abbrev f129_k3 (K:KT):Exit → YT := kseq P (codeAt c129 [1,1,0,0]) (codeAt c129 [1,1,0,1]) none [4,0] [] (f129_k2 K)
def f129_s1 (a:Addr) (b:Option Addr) (w:World) (K:KT):Prop := Join (fun e w => CS P (codeAt c129 [1,1,1]) none [] [] (f129_kb K) e w) (Env.mk 31 [(4,(VP (some a))),(0,(VP b))] []) w
theorem f129_s1_eq (a:Addr) (b:Option Addr) (w:World) (K:KT):f129_s1 a b w K = (optS b (fun c => LdA 8 a w.drew (fun d => CallL P 97 [(Value.pointer (some (c.add 8))),(Value.agg d)] w.drew (fun e f => e = (Value.tuple [].toArray) ∧ K (Value.tuple [].toArray) f)))) := by kernel_rfl
theorem f129_s0_eq (a:Addr) (b:Option Addr) (c:Addr) (d:Bool) (w:World) (K:KT):f129_s0 a b c d w K = (BIf (!d) (optS b (fun h => ∃ e:Option Addr,w.drew.cell? h = some (Value.pointer e) ∧ optS e (fun i => ∃ f:Option Nat,w.drew.cell? (i.add 88) = some (Value.map f) ∧ LdA 2 c w.drew (fun j => ∃ g:Array Value,(∀ wq,Ext w.drew wq → (Instr.lookup 118 (Value.map f) (Value.agg j) false).run P wq = .ok (Value.agg g) wq) ∧ StA 8 a g w.drew (fun k => f129_s1 a b k K))))) (f129_s1 a b w K)) := by kernel_rfl
theorem f129_eq (b:Option Addr) (c:Array Value) (w:World) (K:KT):f129 b c w K = (NewC c 147 w (fun d a => optS b (fun i => ∃ e:Option Nat,a.drew.cell? (i.add 17) = some (Value.map e) ∧ LdA 2 (Addr.mk d 0 none) a.drew (fun j => ∃ f:Array Value,∃ g:Bool,(∀ wq,Ext a.drew wq → (Instr.lookup 118 (Value.map e) (Value.agg j) true).run P wq = .ok (Value.tuple [(Value.agg f),(Value.bool g)].toArray) wq) ∧ NewC (zcells P 116) 116 a.drew (fun h k => StA 8 (Addr.mk h 0 none) f k (fun l => f129_s0 (Addr.mk h 0 none) b (Addr.mk d 0 none) g l K)))))) := by kernel_rfl
theorem c129_eq:Go.Proofs.Try.f129.body = some c129 := by kernel_rfl
theorem f129_un (a:Option Addr) (b:Array Value) (w:World) (K:KT):f129 a b w K = CS P c129 none (resT Go.Proofs.Try.f129.results.toList) (resT Go.Proofs.Try.f129.results.toList) (bodyK P Go.Proofs.Try.f129.results.toList K) (env0 Go.Proofs.Try.f129.ntmps [(Value.pointer a),(Value.agg b)]) w := by kernel_rfl
theorem f129_ok (a:Option Addr) (b:Array Value) (w:World) (K:KT) (h:f129 a b w K):CallL P 129 [(Value.pointer a),(Value.agg b)] w K := calls_of_CS Go.Proofs.Try.func129 c129_eq (Eq.mp (f129_un a b w K) h)
/-! 130 (*candling.race.plan).release -/
noncomputable def c130:Code := match Go.Proofs.Try.f130.body with
  | some c => c
  | none => .skip
noncomputable def rs130:List ResultVar := Go.Proofs.Try.f130.results.toList
abbrev f130_kb (K:KT):Exit → YT := bodyK P rs130 K
def f130 (a:Option Addr) (b:Array Value) (w:World) (K:KT):Prop := CS P c130 none [] [] (f130_kb K) (env0 40 [(VP a),(Value.agg b)]) w
abbrev f130_k0 (K:KT):Exit → YT := kseq P (codeAt c130 [0]) (codeAt c130 [1]) none [] [] (f130_kb K)
abbrev f130_k1 (K:KT):Exit → YT := kseq P (codeAt c130 [1,0]) (codeAt c130 [1,1]) none [] [] (f130_kb K)
def f130_s0 (a:Option Addr) (b c:Addr) (d:Bool) (w:World) (K:KT):Prop := Join (fun e w => CS P (codeAt c130 [1,1]) none [] [] (f130_kb K) e w) (Env.mk 40 [(0,(VP a)),(4,(VP (some b))),(3,(VP (some c))),(5,(VB d))] []) w
abbrev f130_k2 (K:KT):Exit → YT := kseq P (codeAt c130 [1,1,0]) (codeAt c130 [1,1,1]) none [] [] (f130_kb K)
abbrev f130_k3 (K:KT):Exit → YT := kseq P (codeAt c130 [1,1,0,0]) (codeAt c130 [1,1,0,1]) none [0,4,3] [] (f130_k2 K)
def f130_s1 (a:Option Addr) (b c:Addr) (w:World) (K:KT):Prop := Join (fun e w => CS P (codeAt c130 [1,1,1]) none [] [] (f130_kb K) e w) (Env.mk 40 [(0,(VP a)),(4,(VP (some b))),(3,(VP (some c)))] []) w
abbrev f130_k4 (K:KT):Exit → YT := kseq P (codeAt c130 [1,1,1,0]) (codeAt c130 [1,1,1,1]) none [] [] (f130_kb K)
abbrev f130_k5 (K:KT):Exit → YT := kseq P (codeAt c130 [1,1,1,1,0]) (codeAt c130 [1,1,1,1,1]) none [] [] (f130_kb K)
def f130_s2 (a:Option Addr) (w:World) (K:KT):Prop := Join (fun e w => CS P (codeAt c130 [1,1,1,1,1]) none [] [] (f130_kb K) e w) (Env.mk 40 [(0,(VP a))] []) w
theorem f130_s2_eq (a:Option Addr) (w:World) (K:KT):f130_s2 a w K = (optS a (fun b => St1 (b.add 21) (Value.bool true) w (fun c => K (Value.tuple [].toArray) c))) := by kernel_rfl
theorem f130_s1_eq (a:Option Addr) (c d:Addr) (w:World) (K:KT):f130_s1 a c d w K = (optS a (fun g => LdA 8 (g.add 8) w (fun h => CallL P 97 [(Value.pointer (some c)),(Value.agg h)] w (fun i b => i = (Value.tuple [].toArray) ∧ optS a (fun j => ∃ e:Option Nat,b.drew.cell? (j.add 17) = some (Value.map e) ∧ LdA 2 d b.drew (fun k => LdA 8 c b.drew (fun l => ∃ f:World,(Instr.mapUpdate 118 (Value.map e) (Value.agg k) (Value.agg l)).run P b.drew = .ok () f ∧ f130_s2 a f K))))))) := by kernel_rfl
theorem f130_s0_eq (a:Option Addr) (b c:Addr) (d:Bool) (w:World) (K:KT):f130_s0 a b c d w K = (BIf (!d) (optS a (fun h => ∃ e:Option Addr,w.drew.cell? h = some (Value.pointer e) ∧ optS e (fun i => ∃ f:Option Nat,w.drew.cell? (i.add 88) = some (Value.map f) ∧ LdA 2 c w.drew (fun j => ∃ g:Array Value,(∀ wq,Ext w.drew wq → (Instr.lookup 118 (Value.map f) (Value.agg j) false).run P wq = .ok (Value.agg g) wq) ∧ StA 8 b g w.drew (fun k => f130_s1 a b c k K))))) (f130_s1 a b c w K)) := by kernel_rfl
theorem f130_eq (b:Option Addr) (c:Array Value) (w:World) (K:KT):f130 b c w K = (NewC c 147 w (fun d a => optS b (fun i => ∃ e:Option Nat,a.drew.cell? (i.add 17) = some (Value.map e) ∧ LdA 2 (Addr.mk d 0 none) a.drew (fun j => ∃ f:Array Value,∃ g:Bool,(∀ wq,Ext a.drew wq → (Instr.lookup 118 (Value.map e) (Value.agg j) true).run P wq = .ok (Value.tuple [(Value.agg f),(Value.bool g)].toArray) wq) ∧ NewC (zcells P 116) 116 a.drew (fun h k => StA 8 (Addr.mk h 0 none) f k (fun l => f130_s0 b (Addr.mk h 0 none) (Addr.mk d 0 none) g l K)))))) := by kernel_rfl
theorem c130_eq:Go.Proofs.Try.f130.body = some c130 := by kernel_rfl
theorem f130_un (a:Option Addr) (b:Array Value) (w:World) (K:KT):f130 a b w K = CS P c130 none (resT Go.Proofs.Try.f130.results.toList) (resT Go.Proofs.Try.f130.results.toList) (bodyK P Go.Proofs.Try.f130.results.toList K) (env0 Go.Proofs.Try.f130.ntmps [(Value.pointer a),(Value.agg b)]) w := by kernel_rfl
theorem f130_ok (a:Option Addr) (b:Array Value) (w:World) (K:KT) (h:f130 a b w K):CallL P 130 [(Value.pointer a),(Value.agg b)] w K := calls_of_CS Go.Proofs.Try.func130 c130_eq (Eq.mp (f130_un a b w K) h)
/-! 114 (*candling.race.plan).step -/
noncomputable def c114:Code := match Go.Proofs.Try.f114.body with
  | some c => c
  | none => .skip
noncomputable def rs114:List ResultVar := Go.Proofs.Try.f114.results.toList
abbrev f114_kb (K:KT):Exit → YT := bodyK P rs114 K
def f114 (a:Option Addr) (w:World) (K:KT):Prop := CS P c114 none [] [] (f114_kb K) (env0 5 [(VP a)]) w
theorem f114_eq (a:Option Addr) (w:World) (K:KT):f114 a w K = (∃ b:Array Value,(∀ wq,(Instr.build 99 [(0,(Value.int .i64 1))].toArray).run P wq = .ok (Value.agg b) wq) ∧ CallL P 127 [(Value.pointer a),(Value.agg b)] w (fun c d => c = (Value.tuple [].toArray) ∧ K (Value.tuple [].toArray) d)) := by kernel_rfl
theorem c114_eq:Go.Proofs.Try.f114.body = some c114 := by kernel_rfl
theorem f114_un (a:Option Addr) (w:World) (K:KT):f114 a w K = CS P c114 none (resT Go.Proofs.Try.f114.results.toList) (resT Go.Proofs.Try.f114.results.toList) (bodyK P Go.Proofs.Try.f114.results.toList K) (env0 Go.Proofs.Try.f114.ntmps [(Value.pointer a)]) w := by kernel_rfl
theorem f114_ok (a:Option Addr) (w:World) (K:KT) (h:f114 a w K):CallL P 114 [(Value.pointer a)] w K := calls_of_CS Go.Proofs.Try.func114 c114_eq (Eq.mp (f114_un a w K) h)
/-! 115 (*candling.race.plan).atomic -/
noncomputable def c115:Code := match Go.Proofs.Try.f115.body with
  | some c => c
  | none => .skip
noncomputable def rs115:List ResultVar := Go.Proofs.Try.f115.results.toList
abbrev f115_kb (K:KT):Exit → YT := bodyK P rs115 K
def f115 (a:Option Addr) (w:World) (K:KT):Prop := CS P c115 none [] [] (f115_kb K) (env0 39 [(VP a)]) w
abbrev f115_k0 (K:KT):Exit → YT := kseq P (codeAt c115 [0]) (codeAt c115 [1]) none [] [] (f115_kb K)
abbrev f115_k1 (K:KT):Exit → YT := kseq P (codeAt c115 [1,0]) (codeAt c115 [1,1]) none [] [] (f115_kb K)
abbrev f115_k2 (K:KT):Exit → YT := kseq P (codeAt c115 [1,1,0]) (codeAt c115 [1,1,1]) none [] [] (f115_kb K)
def f115_s0 (a:Value) (b c:Addr) (w:World) (K:KT):Prop := Join (fun e w => CS P (codeAt c115 [1,1,1]) none [] [] (f115_kb K) e w) (Env.mk 39 [(17,a),(1,(VP (some b))),(2,(VP (some c)))] []) w
abbrev f115_k3 (K:KT):Exit → YT := kblock 0 (f115_kb K)
def f115_rd1 (a b:Addr) (l:Nat) (R:LoopState → Option Code → Loop) (post:Option Code → World → Prop) (args:List Value) (W:World):Prop := args.length = 1 ∧ CS P (codeAt c115 [1,1,1,0,0]) (some l) [1,2,3] [] (kround P (codeAt c115 [1,1,1,0,1]) l R post) { putParams (Env.mk 39 [(1,(VP (some a))),(2,(VP (some b)))] []) [18] args with d := [] } W
abbrev f115_ka1 (l:Nat) (R:LoopState → Option Code → Loop) (post:Option Code → World → Prop):Exit → YT := kround P (codeAt c115 [1,1,1,0,1]) l R post
def f115_ra1 (a b:Addr) (c:Int) (w:World) (l:Nat) (R:LoopState → Option Code → Loop) (post:Option Code → World → Prop):Prop := CS P (codeAt c115 [1,1,1,0,0]) (some l) [1,2,3] [] (f115_ka1 l R post) (Env.mk 39 [(18,(Value.int .u32 c)),(1,(VP (some a))),(2,(VP (some b)))] []) w
def f115_s2 (a b:Addr) (c:Int) (w:World) (l:Nat) (R:LoopState → Option Code → Loop) (post:Option Code → World → Prop):Prop := Join (fun e w => CS P (codeAt c115 [1,1,1,0,1]) (some l) [] [] (endS l R post) e w) (Env.mk 39 [(1,(VP (some a))),(2,(VP (some b))),(3,(Value.int .u32 c))] []) w
abbrev f115_k4 (l:Nat) (R:LoopState → Option Code → Loop) (post:Option Code → World → Prop):Exit → YT := kblock 1 (endS l R post)
abbrev f115_k5 (l:Nat) (R:LoopState → Option Code → Loop) (post:Option Code → World → Prop):Exit → YT := kseq P (codeAt c115 [1,1,1,0,1,0,0]) (codeAt c115 [1,1,1,0,1,0,1]) (some l) [] [] (f115_k4 l R post)
abbrev f115_k6 (l:Nat) (R:LoopState → Option Code → Loop) (post:Option Code → World → Prop):Exit → YT := kseq P (codeAt c115 [1,1,1,0,1,0,1,0]) (codeAt c115 [1,1,1,0,1,0,1,1]) (some l) [] [] (f115_k4 l R post)
abbrev f115_k7 (l:Nat) (R:LoopState → Option Code → Loop) (post:Option Code → World → Prop):Exit → YT := kseq P (codeAt c115 [1,1,1,0,1,0,1,0,0]) (codeAt c115 [1,1,1,0,1,0,1,0,1]) (some l) [4,1,2] [] (f115_k6 l R post)
def f115_s3 (a b c:Addr) (w:World) (l:Nat) (R:LoopState → Option Code → Loop) (post:Option Code → World → Prop):Prop := Join (fun e w => CS P (codeAt c115 [1,1,1,0,1,0,1,1]) (some l) [] [] (f115_k4 l R post) e w) (Env.mk 39 [(4,(VP (some a))),(1,(VP (some b))),(2,(VP (some c)))] []) w
abbrev f115_k8 (l:Nat) (R:LoopState → Option Code → Loop) (post:Option Code → World → Prop):Exit → YT := kseq P (codeAt c115 [1,1,1,0,1,0,1,1,0]) (codeAt c115 [1,1,1,0,1,0,1,1,1]) (some l) [] [] (f115_k4 l R post)
abbrev f115_k9 (l:Nat) (R:LoopState → Option Code → Loop) (post:Option Code → World → Prop):Exit → YT := kseq P (codeAt c115 [1,1,1,0,1,0,1,1,1,0]) (codeAt c115 [1,1,1,0,1,0,1,1,1,1]) (some l) [] [] (f115_k4 l R post)
abbrev f115_k10 (l:Nat) (R:LoopState → Option Code → Loop) (post:Option Code → World → Prop):Exit → YT := kseq P (codeAt c115 [1,1,1,0,1,0,1,1,1,1,0]) (codeAt c115 [1,1,1,0,1,0,1,1,1,1,1]) (some l) [] [] (f115_k4 l R post)
abbrev f115_k11 (l:Nat) (R:LoopState → Option Code → Loop) (post:Option Code → World → Prop):Exit → YT := kseq P (codeAt c115 [1,1,1,0,1,0,1,1,1,1,1,0]) (codeAt c115 [1,1,1,0,1,0,1,1,1,1,1,1]) (some l) [] [] (f115_k4 l R post)
theorem f115_s3_eq (a b f:Addr) (w:World) (l:Nat) (R:LoopState → Option Code → Loop) (post:Option Code → World → Prop):f115_s3 a b f w l R post = (LdA 2 a w (fun p => StA 2 f p w (fun c => ∃ g:Option Addr,c.cell? b = some (Value.pointer g) ∧ LdA 2 a c (fun q => CallL P 128 [(Value.pointer g),(Value.agg q)] c (fun r d => ∃ h:Int,r = (Value.int .i64 h) ∧ ∃ i:Option Addr,d.cell? b = some (Value.pointer i) ∧ LdA 2 a d (fun s => CallL P 129 [(Value.pointer i),(Value.agg s)] d (fun t j => t = (Value.tuple [].toArray) ∧ ∃ k:Option Addr,j.cell? b = some (Value.pointer k) ∧ ∃ m:Array Value,(∀ wq,(Instr.build 99 [(0,(Value.int .i64 4)),(3,(Value.int .i64 h))].toArray).run P wq = .ok (Value.agg m) wq) ∧ CallL P 127 [(Value.pointer k),(Value.agg m)] j (fun u e => u = (Value.tuple [].toArray) ∧ ∃ n:Option Addr,e.cell? b = some (Value.pointer n) ∧ LdA 2 a e (fun v => CallL P 130 [(Value.pointer n),(Value.agg v)] e (fun x o => x = (Value.tuple [].toArray) ∧ o.heap[l]? = some (.loop (R .busy none)) ∧ post none (o.putObj l (.loop (R .ready none))))))))))))) := by kernel_rfl
theorem f115_s2_eq (d b:Addr) (e:Int) (w:World) (l:Nat) (R:LoopState → Option Code → Loop) (post:Option Code → World → Prop):f115_s2 d b e w l R post = ((4:Int) ≠ 0 ∧ ∃ f:Array Value,(∀ wq,(Instr.build 147 [(0,(Value.bool true)),(1,(Value.int .u32 (IntKind.wrap .u32 ((e:Int).tdiv 4))))].toArray).run P wq = .ok (Value.agg f) wq) ∧ NewC (zcells P 147) 147 w (fun c j => StA 2 (Addr.mk c 0 none) f j (fun a => LdA 2 (Addr.mk c 0 none) a (fun g => LdA 2 b a (fun h => ∃ i:Bool,(∀ wq,(do eqGuard .eql 147 (.tmp 22) (.tmp 23) (Value.agg g) (Value.agg h); binOp .eql 147 (Value.agg g) (Value.agg h):Sem Value).run P wq = .ok (Value.bool i) wq) ∧ BIf i (a.heap[l]? = some (.loop (R .busy none)) ∧ post none (a.putObj l (.loop (R .ready none)))) (f115_s3 (Addr.mk c 0 none) d b a l R post)))))) := by kernel_rfl
theorem f115_ra1_eq (a b:Addr) (c:Int) (w:World) (l:Nat) (R:LoopState → Option Code → Loop) (post:Option Code → World → Prop):f115_ra1 a b c w l R post = (w.heap[l]? = some (.loop (R .ready none)) ∧ f115_s2 a b c (w.putObj l (.loop (R .busy none))) l R post) := by kernel_rfl
theorem f115_rd1_eq (b c:Addr) (a:Int) (w:World) (l:Nat) (R:LoopState → Option Code → Loop) (post:Option Code → World → Prop):f115_rd1 b c l R post [(Value.int .u32 a)] w = ([(Value.int .u32 a)].length = 1 ∧ f115_ra1 b c a w l R post) := by kernel_rfl
def f115_rn1 (a b:Addr) (d:List Deferred) (w:World) (K:KT):Prop := (f115_k3 K) .normal (Env.mk 39 [(1,(VP (some a))),(2,(VP (some b)))] d) w
theorem f115_rn1_eq (a b:Addr) (d:List Deferred) (w:World) (K:KT):f115_rn1 a b d w K = (LeaveS P rs115 (Env.mk 39 [(1,(Value.pointer (some a))),(2,(Value.pointer (some b)))] d) K d w) := by kernel_rfl
def f115_rr1 (a b:Addr) (d:List Deferred) (w:World) (K:KT):Prop := (f115_k3 K) .ret (Env.mk 39 [(1,(VP (some a))),(2,(VP (some b)))] d) w
theorem f115_rr1_eq (a b:Addr) (d:List Deferred) (w:World) (K:KT):f115_rr1 a b d w K = (LeaveS P rs115 (Env.mk 39 [(1,(Value.pointer (some a))),(2,(Value.pointer (some b)))] d) K d w) := by kernel_rfl
theorem f115_s0_eq (c:Value) (a b:Addr) (w:World) (K:KT):f115_s0 c a b w K = (RangeC P (f115_k3 K) (Env.mk 39 [(1,(Value.pointer (some a))),(2,(Value.pointer (some b)))] []) w c (f115_rd1 a b)) := by kernel_rfl
theorem f115_eq (c:Option Addr) (w:World) (K:KT):f115 c w K = (NewC #[(Value.pointer c)] 127 w (fun b k => ∃ d:Array Value,(∀ wq,(Instr.build 147 [].toArray).run P wq = .ok (Value.agg d) wq) ∧ NewC (zcells P 147) 147 k (fun e l => StA 2 (Addr.mk e 0 none) d l (fun a => ∃ f:Option Addr,a.drew.cell? (Addr.mk b 0 none) = some (Value.pointer f) ∧ optS f (fun m => ∃ g:Int,a.drew.cell? ((m.add 1).add 3) = some (Value.int .u32 g) ∧ ∃ h:Option Addr,a.drew.cell? (Addr.mk b 0 none) = some (Value.pointer h) ∧ optS h (fun n => ∃ i:Int,a.drew.cell? ((n.add 1).add 5) = some (Value.int .i64 i) ∧ CallL P 65 [(Value.int .u32 g),(Value.int .i64 i)] a.drew (fun o p => ∃ j:Value,o = j ∧ f115_s0 j (Addr.mk b 0 none) (Addr.mk e 0 none) p K))))))) := by kernel_rfl
theorem c115_eq:Go.Proofs.Try.f115.body = some c115 := by kernel_rfl
theorem f115_un (a:Option Addr) (w:World) (K:KT):f115 a w K = CS P c115 none (resT Go.Proofs.Try.f115.results.toList) (resT Go.Proofs.Try.f115.results.toList) (bodyK P Go.Proofs.Try.f115.results.toList K) (env0 Go.Proofs.Try.f115.ntmps [(Value.pointer a)]) w := by kernel_rfl
theorem f115_ok (a:Option Addr) (w:World) (K:KT) (h:f115 a w K):CallL P 115 [(Value.pointer a)] w K := calls_of_CS Go.Proofs.Try.func115 c115_eq (Eq.mp (f115_un a w K) h)
/-! 116 (*candling.race.plan).spawn -/
noncomputable def c116:Code := match Go.Proofs.Try.f116.body with
  | some c => c
  | none => .skip
noncomputable def rs116:List ResultVar := Go.Proofs.Try.f116.results.toList
abbrev f116_kb (K:KT):Exit → YT := bodyK P rs116 K
def f116 (a:Option Addr) (w:World) (K:KT):Prop := CS P c116 none [] [] (f116_kb K) (env0 36 [(VP a)]) w
abbrev f116_k0 (K:KT):Exit → YT := kseq P (codeAt c116 [0]) (codeAt c116 [1]) none [] [] (f116_kb K)
abbrev f116_k1 (K:KT):Exit → YT := kseq P (codeAt c116 [1,0]) (codeAt c116 [1,1]) none [] [] (f116_kb K)
abbrev f116_k2 (K:KT):Exit → YT := kseq P (codeAt c116 [1,0,0]) (codeAt c116 [1,0,1]) none [2,0] [] (f116_k1 K)
def f116_s0 (a:Bool) (b:Option Addr) (c:Int) (w:World) (K:KT):Prop := Join (fun e w => CS P (codeAt c116 [1,0,1]) none [2,0] [] (f116_k1 K) e w) (Env.mk 36 [(21,(VB a)),(0,(VP b)),(2,(VI c))] []) w
abbrev f116_k3 (K:KT):Exit → YT := kseq P (codeAt c116 [1,0,1,0,0]) (codeAt c116 [1,0,1,0,1]) none [2,0] [] (f116_k1 K)
def f116_s1 (a:Int) (b:Option Addr) (w:World) (K:KT):Prop := Join (fun e w => CS P (codeAt c116 [1,1]) none [] [] (f116_kb K) e w) (Env.mk 36 [(2,(VI a)),(0,(VP b))] []) w
abbrev f116_k4 (K:KT):Exit → YT := kseq P (codeAt c116 [1,1,0]) (codeAt c116 [1,1,1]) none [] [] (f116_kb K)
theorem f116_s1_eq (b:Int) (a:Option Addr) (w:World) (K:KT):f116_s1 b a w K = (∃ c:Array Value,(∀ wq,(Instr.build 99 [(0,(Value.int .i64 5)),(2,(Value.int .i64 b))].toArray).run P wq = .ok (Value.agg c) wq) ∧ CallL P 127 [(Value.pointer a),(Value.agg c)] w (fun d e => d = (Value.tuple [].toArray) ∧ optS a (fun f => St1 (f.add 19) (Value.int .i64 b) e (fun g => optS a (fun h => St1 (h.add 21) (Value.bool true) g (fun i => K (Value.tuple [].toArray) i)))))) := by kernel_rfl
theorem f116_s0_eq (b:Bool) (a:Option Addr) (c:Int) (w:World) (K:KT):f116_s0 b a c w K = (BIf b (optS a (fun d => St1 (d.add 22) (Value.bool true) w (fun e => K (Value.tuple [].toArray) e))) (f116_s1 c a w K)) := by kernel_rfl
theorem f116_eq (b:Option Addr) (w:World) (K:KT):f116 b w K = (CallL P 131 [(Value.pointer b)] w (fun g c => ∃ a:Int,∃ d:Bool,g = (Value.tuple [(Value.int .i64 a),(Value.bool d)].toArray) ∧ BIf (!d) (f116_s0 true b a c K) (optS b (fun h => ∃ e:Option Addr,c.cell? h = some (Value.pointer e) ∧ optS e (fun i => 0 ≤ (a:Int) ∧ (a:Int) < (8:Nat) ∧ ∃ f:Bool,c.cell? ((i.add 64).add (Int.toNat a * 1)) = some (Value.bool f) ∧ f116_s0 f b a c K))))) := by kernel_rfl
theorem c116_eq:Go.Proofs.Try.f116.body = some c116 := by kernel_rfl
theorem f116_un (a:Option Addr) (w:World) (K:KT):f116 a w K = CS P c116 none (resT Go.Proofs.Try.f116.results.toList) (resT Go.Proofs.Try.f116.results.toList) (bodyK P Go.Proofs.Try.f116.results.toList K) (env0 Go.Proofs.Try.f116.ntmps [(Value.pointer a)]) w := by kernel_rfl
theorem f116_ok (a:Option Addr) (w:World) (K:KT) (h:f116 a w K):CallL P 116 [(Value.pointer a)] w K := calls_of_CS Go.Proofs.Try.func116 c116_eq (Eq.mp (f116_un a w K) h)
/-! 117 (*candling.race.plan).join -/
noncomputable def c117:Code := match Go.Proofs.Try.f117.body with
  | some c => c
  | none => .skip
noncomputable def rs117:List ResultVar := Go.Proofs.Try.f117.results.toList
abbrev f117_kb (K:KT):Exit → YT := bodyK P rs117 K
def f117 (a:Option Addr) (w:World) (K:KT):Prop := CS P c117 none [] [] (f117_kb K) (env0 67 [(VP a)]) w
abbrev f117_k0 (K:KT):Exit → YT := kseq P (codeAt c117 [0]) (codeAt c117 [1]) none [] [] (f117_kb K)
abbrev f117_k1 (K:KT):Exit → YT := kseq P (codeAt c117 [1,0]) (codeAt c117 [1,1]) none [] [] (f117_kb K)
abbrev f117_k2 (K:KT):Exit → YT := kseq P (codeAt c117 [1,0,0]) (codeAt c117 [1,0,1]) none [2,0] [] (f117_k1 K)
def f117_s0 (a:Bool) (b:Option Addr) (c:Int) (w:World) (K:KT):Prop := Join (fun e w => CS P (codeAt c117 [1,0,1]) none [2,0] [] (f117_k1 K) e w) (Env.mk 67 [(42,(VB a)),(0,(VP b)),(2,(VI c))] []) w
abbrev f117_k3 (K:KT):Exit → YT := kseq P (codeAt c117 [1,0,1,0,0]) (codeAt c117 [1,0,1,0,1]) none [2,0] [] (f117_k1 K)
def f117_s1 (a:Int) (b:Option Addr) (w:World) (K:KT):Prop := Join (fun e w => CS P (codeAt c117 [1,1]) none [] [] (f117_kb K) e w) (Env.mk 67 [(2,(VI a)),(0,(VP b))] []) w
abbrev f117_k4 (K:KT):Exit → YT := kseq P (codeAt c117 [1,1,0]) (codeAt c117 [1,1,1]) none [] [] (f117_kb K)
def f117_s2 (a:Int) (b:Option Addr) (w:World) (K:KT):Prop := Join (fun e w => CS P (codeAt c117 [1,1,1]) none [] [] (f117_kb K) e w) (Env.mk 67 [(2,(VI a)),(0,(VP b))] []) w
abbrev f117_k5 (K:KT):Exit → YT := kseq P (codeAt c117 [1,1,1,0]) (codeAt c117 [1,1,1,1]) none [] [] (f117_kb K)
theorem f117_s2_eq (a:Int) (b:Option Addr) (w:World) (K:KT):f117_s2 a b w K = (∃ c:Array Value,(∀ wq,(Instr.build 99 [(0,(Value.int .i64 6)),(2,(Value.int .i64 a))].toArray).run P wq = .ok (Value.agg c) wq) ∧ CallL P 127 [(Value.pointer b),(Value.agg c)] w (fun d e => d = (Value.tuple [].toArray) ∧ optS b (fun f => St1 (f.add 20) (Value.int .i64 a) e (fun g => K (Value.tuple [].toArray) g)))) := by kernel_rfl
theorem f117_s1_eq (a:Int) (b:Option Addr) (w:World) (K:KT):f117_s1 a b w K = (optS b (fun d => optS b (fun e => ∃ c:Option Addr,w.drew.cell? e = some (Value.pointer c) ∧ optS c (fun f => 0 ≤ (a:Int) ∧ (a:Int) < (8:Nat) ∧ LdA 8 (f.add (Int.toNat a * 8)) w.drew (fun g => CallL P 97 [(Value.pointer (some (d.add 8))),(Value.agg g)] w.drew (fun h i => h = (Value.tuple [].toArray) ∧ f117_s2 a b i K)))))) := by kernel_rfl
theorem f117_s0_eq (b:Bool) (a:Option Addr) (c:Int) (w:World) (K:KT):f117_s0 b a c w K = (BIf b (optS a (fun d => St1 (d.add 22) (Value.bool true) w (fun e => K (Value.tuple [].toArray) e))) (f117_s1 c a w K)) := by kernel_rfl
theorem f117_eq (b:Option Addr) (w:World) (K:KT):f117 b w K = (CallL P 131 [(Value.pointer b)] w (fun j c => ∃ a:Int,∃ d:Bool,j = (Value.tuple [(Value.int .i64 a),(Value.bool d)].toArray) ∧ BIf (!d) (f117_s0 true b a c K) (optS b (fun k => ∃ e:Option Addr,c.cell? k = some (Value.pointer e) ∧ optS e (fun l => 0 ≤ (a:Int) ∧ (a:Int) < (8:Nat) ∧ ∃ f:Bool,c.cell? ((l.add 64).add (Int.toNat a * 1)) = some (Value.bool f) ∧ BIf (!f) (f117_s0 true b a c K) (optS b (fun m => ∃ g:Option Addr,c.cell? m = some (Value.pointer g) ∧ optS g (fun n => 0 ≤ (a:Int) ∧ (a:Int) < (8:Nat) ∧ ∃ h:Bool,c.cell? ((n.add 72).add (Int.toNat a * 1)) = some (Value.bool h) ∧ BIf h (f117_s0 true b a c K) (optS b (fun o => ∃ i:Int,c.cell? ((o.add 1).add 1) = some (Value.int .i64 i) ∧ f117_s0 ((a:Int) == i) b a c K)))))))))) := by kernel_rfl
theorem c117_eq:Go.Proofs.Try.f117.body = some c117 := by kernel_rfl
theorem f117_un (a:Option Addr) (w:World) (K:KT):f117 a w K = CS P c117 none (resT Go.Proofs.Try.f117.results.toList) (resT Go.Proofs.Try.f117.results.toList) (bodyK P Go.Proofs.Try.f117.results.toList K) (env0 Go.Proofs.Try.f117.ntmps [(Value.pointer a)]) w := by kernel_rfl
theorem f117_ok (a:Option Addr) (w:World) (K:KT) (h:f117 a w K):CallL P 117 [(Value.pointer a)] w K := calls_of_CS Go.Proofs.Try.func117 c117_eq (Eq.mp (f117_un a w K) h)
/-! 118 (*candling.race.plan).lock -/
noncomputable def c118:Code := match Go.Proofs.Try.f118.body with
  | some c => c
  | none => .skip
noncomputable def rs118:List ResultVar := Go.Proofs.Try.f118.results.toList
abbrev f118_kb (K:KT):Exit → YT := bodyK P rs118 K
def f118 (a:Option Addr) (w:World) (K:KT):Prop := CS P c118 none [] [] (f118_kb K) (env0 20 [(VP a)]) w
abbrev f118_k0 (K:KT):Exit → YT := kseq P (codeAt c118 [0]) (codeAt c118 [1]) none [] [] (f118_kb K)
abbrev f118_k1 (K:KT):Exit → YT := kseq P (codeAt c118 [1,0]) (codeAt c118 [1,1]) none [] [] (f118_kb K)
abbrev f118_k2 (K:KT):Exit → YT := kseq P (codeAt c118 [1,1,0]) (codeAt c118 [1,1,1]) none [] [] (f118_kb K)
theorem f118_eq (a:Option Addr) (w:World) (K:KT):f118 a w K = (optS a (fun i => ∃ c:Int,w.cell? ((i.add 1).add 3) = some (Value.int .u32 c) ∧ ∃ d:Array Value,(∀ wq,(Instr.build 147 [(1,(Value.int .u32 c))].toArray).run P wq = .ok (Value.agg d) wq) ∧ NewC (zcells P 147) 147 w (fun b j => StA 2 (Addr.mk b 0 none) d j (fun e => LdA 2 (Addr.mk b 0 none) e (fun k => CallL P 128 [(Value.pointer a),(Value.agg k)] e (fun l f => ∃ g:Int,l = (Value.int .i64 g) ∧ LdA 2 (Addr.mk b 0 none) f (fun m => CallL P 129 [(Value.pointer a),(Value.agg m)] f (fun n o => n = (Value.tuple [].toArray) ∧ ∃ h:Array Value,(∀ wq,(Instr.build 99 [(0,(Value.int .i64 3)),(3,(Value.int .i64 g))].toArray).run P wq = .ok (Value.agg h) wq) ∧ CallL P 127 [(Value.pointer a),(Value.agg h)] o (fun p q => p = (Value.tuple [].toArray) ∧ K (Value.tuple [].toArray) q))))))))) := by kernel_rfl
theorem c118_eq:Go.Proofs.Try.f118.body = some c118 := by kernel_rfl
theorem f118_un (a:Option Addr) (w:World) (K:KT):f118 a w K = CS P c118 none (resT Go.Proofs.Try.f118.results.toList) (resT Go.Proofs.Try.f118.results.toList) (bodyK P Go.Proofs.Try.f118.results.toList K) (env0 Go.Proofs.Try.f118.ntmps [(Value.pointer a)]) w := by kernel_rfl
theorem f118_ok (a:Option Addr) (w:World) (K:KT) (h:f118 a w K):CallL P 118 [(Value.pointer a)] w K := calls_of_CS Go.Proofs.Try.func118 c118_eq (Eq.mp (f118_un a w K) h)
/-! 119 (*candling.race.plan).unlock -/
noncomputable def c119:Code := match Go.Proofs.Try.f119.body with
  | some c => c
  | none => .skip
noncomputable def rs119:List ResultVar := Go.Proofs.Try.f119.results.toList
abbrev f119_kb (K:KT):Exit → YT := bodyK P rs119 K
def f119 (a:Option Addr) (w:World) (K:KT):Prop := CS P c119 none [] [] (f119_kb K) (env0 18 [(VP a)]) w
abbrev f119_k0 (K:KT):Exit → YT := kseq P (codeAt c119 [0]) (codeAt c119 [1]) none [] [] (f119_kb K)
abbrev f119_k1 (K:KT):Exit → YT := kseq P (codeAt c119 [1,0]) (codeAt c119 [1,1]) none [] [] (f119_kb K)
theorem f119_eq (a:Option Addr) (w:World) (K:KT):f119 a w K = (optS a (fun i => ∃ c:Int,w.cell? ((i.add 1).add 3) = some (Value.int .u32 c) ∧ ∃ d:Array Value,(∀ wq,(Instr.build 147 [(1,(Value.int .u32 c))].toArray).run P wq = .ok (Value.agg d) wq) ∧ NewC (zcells P 147) 147 w (fun b j => StA 2 (Addr.mk b 0 none) d j (fun e => LdA 2 (Addr.mk b 0 none) e (fun k => CallL P 128 [(Value.pointer a),(Value.agg k)] e (fun l m => ∃ f:Int,l = (Value.int .i64 f) ∧ ∃ g:Array Value,(∀ wq,(Instr.build 99 [(0,(Value.int .i64 2)),(3,(Value.int .i64 f))].toArray).run P wq = .ok (Value.agg g) wq) ∧ CallL P 127 [(Value.pointer a),(Value.agg g)] m (fun n h => n = (Value.tuple [].toArray) ∧ LdA 2 (Addr.mk b 0 none) h (fun o => CallL P 130 [(Value.pointer a),(Value.agg o)] h (fun p q => p = (Value.tuple [].toArray) ∧ K (Value.tuple [].toArray) q))))))))) := by kernel_rfl
theorem c119_eq:Go.Proofs.Try.f119.body = some c119 := by kernel_rfl
theorem f119_un (a:Option Addr) (w:World) (K:KT):f119 a w K = CS P c119 none (resT Go.Proofs.Try.f119.results.toList) (resT Go.Proofs.Try.f119.results.toList) (bodyK P Go.Proofs.Try.f119.results.toList K) (env0 Go.Proofs.Try.f119.ntmps [(Value.pointer a)]) w := by kernel_rfl
theorem f119_ok (a:Option Addr) (w:World) (K:KT) (h:f119 a w K):CallL P 119 [(Value.pointer a)] w K := calls_of_CS Go.Proofs.Try.func119 c119_eq (Eq.mp (f119_un a w K) h)
/-! 94 candling.race.kinds -/
noncomputable def c94:Code := match Go.Proofs.Try.f94.body with
  | some c => c
  | none => .skip
noncomputable def rs94:List ResultVar := Go.Proofs.Try.f94.results.toList
abbrev f94_kb (K:KT):Exit → YT := bodyK P rs94 K
def f94 (w:World) (K:KT):Prop := CS P c94 none [0] [0] (f94_kb K) (env0 15 []) w
abbrev f94_k0 (K:KT):Exit → YT := kseq P (codeAt c94 [0]) (codeAt c94 [1]) none [0] [0] (f94_kb K)
abbrev f94_k1 (K:KT):Exit → YT := kseq P (codeAt c94 [1,0]) (codeAt c94 [1,1]) none [0] [0] (f94_kb K)
abbrev f94_k2 (K:KT):Exit → YT := kseq P (codeAt c94 [1,1,0]) (codeAt c94 [1,1,1]) none [0] [0] (f94_kb K)
abbrev f94_k3 (K:KT):Exit → YT := kseq P (codeAt c94 [1,1,0,0]) (codeAt c94 [1,1,0,1]) none [0,1] [0] (f94_k2 K)
abbrev f94_k4 (K:KT):Exit → YT := kblock 0 (f94_k2 K)
def f94_lp0 (K:KT) (Y0:YT) (e:Env) (w:World):Prop := Join (fun e w => CS P (codeAt c94 [1,1,0,1,0,0]) none [3,1,0] [0,1] (kloop [3,1,0] Y0 (f94_k4 K)) e w) e w
abbrev f94_kl0 (K:KT) (Y0:YT):Exit → YT := kloop [3,1,0] Y0 (f94_k4 K)
def f94_lb0 (a:Int) (b c:Addr) (w:World) (K:KT) (Y0:YT):Prop := Join (fun e w => CS P (codeAt c94 [1,1,0,1,0,0]) none [3,1,0] [0,1] (f94_kl0 K Y0) e w) (Env.mk 15 [(3,(VI a)),(1,(VP (some b))),(0,(VP (some c)))] []) w
abbrev f94_k5 (K:KT) (Y0:YT):Exit → YT := kseq P (codeAt c94 [1,1,0,1,0,0,0]) (codeAt c94 [1,1,0,1,0,0,1]) none [3,1,0] [0,1] (f94_kl0 K Y0)
abbrev f94_k6 (K:KT) (Y0:YT):Exit → YT := kseq P (codeAt c94 [1,1,0,1,0,0,1,0]) (codeAt c94 [1,1,0,1,0,0,1,1]) none [3,1,0] [0,1] (f94_kl0 K Y0)
def f94_s1 (a b:Addr) (c:Int) (w:World) (K:KT) (Y0:YT):Prop := Join (fun e w => CS P (codeAt c94 [1,1,0,1,0,0,1,1]) none [3,1,0] [0,1] (f94_kl0 K Y0) e w) (Env.mk 15 [(1,(VP (some a))),(0,(VP (some b))),(3,(VI c))] []) w
abbrev f94_k7 (K:KT) (Y0:YT):Exit → YT := kseq P (codeAt c94 [1,1,0,1,0,0,1,1,0]) (codeAt c94 [1,1,0,1,0,0,1,1,1]) none [3,1,0] [0,1] (f94_kl0 K Y0)
abbrev f94_k8 (K:KT) (Y0:YT):Exit → YT := kblock 1 (f94_k7 K Y0)
abbrev f94_k9 (K:KT) (Y0:YT):Exit → YT := kseq P (codeAt c94 [1,1,0,1,0,0,1,1,0,0,0]) (codeAt c94 [1,1,0,1,0,0,1,1,0,0,1]) none [1,0,3] [0,1,3] (f94_k8 K Y0)
def f94_s2 (a b:Addr) (c:Int) (w:World) (K:KT) (Y0:YT):Prop := Join (fun e w => CS P (codeAt c94 [1,1,0,1,0,0,1,1,1]) none [3,1,0] [0,1] (f94_kl0 K Y0) e w) (Env.mk 15 [(1,(VP (some a))),(0,(VP (some b))),(3,(VI c))] []) w
theorem f94_s2_eq (a b:Addr) (c:Int) (w:World) (K:KT) (Y0:YT):f94_s2 a b c w K Y0 = (Y0 (Env.mk 15 [(3,(Value.int .i64 (IntKind.wrap .i64 ((c:Int) + 1)))),(1,(Value.pointer (some a))),(0,(Value.pointer (some b)))] []) w) := by kernel_rfl
theorem f94_s1_eq (b c:Addr) (a:Int) (w:World) (K:KT) (Y0:YT):f94_s1 b c a w K Y0 = (0 ≤ (a:Int) ∧ (a:Int) < (25:Nat) ∧ St1 (b.add (Int.toNat a * 1)) (Value.func (.func 114) #[] #[]) w (fun d => f94_s2 b c a d K Y0)) := by kernel_rfl
def f94_s3 (a b:Addr) (w:World) (K:KT):Prop := Join (fun e w => CS P (codeAt c94 [1,1,1]) none [0] [0] (f94_kb K) e w) (Env.mk 15 [(0,(VP (some a))),(1,(VP (some b)))] []) w
abbrev f94_k10 (K:KT):Exit → YT := kseq P (codeAt c94 [1,1,1,0]) (codeAt c94 [1,1,1,1]) none [0] [0] (f94_kb K)
abbrev f94_k11 (K:KT):Exit → YT := kseq P (codeAt c94 [1,1,1,1,0]) (codeAt c94 [1,1,1,1,1]) none [0] [0] (f94_kb K)
theorem f94_s3_eq (b a:Addr) (w:World) (K:KT):f94_s3 b a w K = (0 ≤ (4:Int) ∧ (4:Int) < (25:Nat) ∧ St1 (a.add (Int.toNat 4 * 1)) (Value.func (.func 115) #[] #[]) w (fun e => 0 ≤ (11:Int) ∧ (11:Int) < (25:Nat) ∧ St1 (a.add (Int.toNat 11 * 1)) (Value.func (.func 116) #[] #[]) e (fun f => 0 ≤ (13:Int) ∧ (13:Int) < (25:Nat) ∧ St1 (a.add (Int.toNat 13 * 1)) (Value.func (.func 117) #[] #[]) f (fun g => 0 ≤ (14:Int) ∧ (14:Int) < (25:Nat) ∧ St1 (a.add (Int.toNat 14 * 1)) (Value.func (.func 118) #[] #[]) g (fun h => 0 ≤ (15:Int) ∧ (15:Int) < (25:Nat) ∧ St1 (a.add (Int.toNat 15 * 1)) (Value.func (.func 119) #[] #[]) h (fun c => LdA 25 a c (fun i => StA 25 b i c (fun d => LdA 25 b d (fun j => K (Value.agg j) d))))))))) := by kernel_rfl
theorem f94_lb0_eq (a:Int) (b c:Addr) (w:World) (K:KT) (Y0:YT):f94_lb0 a b c w K Y0 = (BIf (decide ((a:Int) < 25)) (f94_s1 b c a w K Y0) (f94_s3 c b w K)) := by kernel_rfl
theorem f94_eq (w:World) (K:KT):f94 w K = (NewC (zcells P 180) 180 w (fun a b => NewC (zcells P 180) 180 b (fun c d => LoopE (f94_lp0 K) (Env.mk 15 [(3,(Value.int .i64 0)),(1,(Value.pointer (some (Addr.mk c 0 none)))),(0,(Value.pointer (some (Addr.mk a 0 none))))] []) d))) := by kernel_rfl
theorem c94_eq:Go.Proofs.Try.f94.body = some c94 := by kernel_rfl
theorem f94_un (w:World) (K:KT):f94 w K = CS P c94 none (resT Go.Proofs.Try.f94.results.toList) (resT Go.Proofs.Try.f94.results.toList) (bodyK P Go.Proofs.Try.f94.results.toList K) (env0 Go.Proofs.Try.f94.ntmps []) w := by kernel_rfl
theorem f94_ok (w:World) (K:KT) (h:f94 w K):CallL P 94 [] w K := calls_of_CS Go.Proofs.Try.func94 c94_eq (Eq.mp (f94_un w K) h)
end Go.Fx.Try
namespace Go.Fx.Try
set_option maxRecDepth 100000
open Go Go.Fx
/-! 63 (*candling.race.threads).plan -/
noncomputable def c63:Code := match Go.Proofs.Try.f63.body with
  | some c => c
  | none => .skip
noncomputable def rs63:List ResultVar := Go.Proofs.Try.f63.results.toList
abbrev f63_kb (K:KT):Exit → YT := bodyK P rs63 K
def f63 (a:Option Addr) (b:Array Value) (w:World) (K:KT):Prop := CS P c63 none [4,5] [4,5] (f63_kb K) (env0 100 [(VP a),(Value.agg b)]) w
abbrev f63_k0 (K:KT):Exit → YT := kseq P (codeAt c63 [0]) (codeAt c63 [1]) none [4,5] [4,5] (f63_kb K)
abbrev f63_k1 (K:KT):Exit → YT := kseq P (codeAt c63 [1,0]) (codeAt c63 [1,1]) none [4,5] [4,5] (f63_kb K)
abbrev f63_k2 (K:KT):Exit → YT := kseq P (codeAt c63 [1,1,0]) (codeAt c63 [1,1,1]) none [4,5] [4,5] (f63_kb K)
abbrev f63_k3 (K:KT):Exit → YT := kseq P (codeAt c63 [1,1,0,0]) (codeAt c63 [1,1,0,1]) none [3,6,0] [4,5] (f63_k2 K)
def f63_s0 (a:Bool) (b:Addr) (c:Int) (d:Option Addr) (w:World) (K:KT):Prop := Join (fun e w => CS P (codeAt c63 [1,1,0,1]) none [3,6,0] [4,5] (f63_k2 K) e w) (Env.mk 100 [(45,(VB a)),(3,(VP (some b))),(6,(VI c)),(0,(VP d))] []) w
abbrev f63_k4 (K:KT):Exit → YT := kseq P (codeAt c63 [1,1,0,1,0,0]) (codeAt c63 [1,1,0,1,0,1]) none [3,6,0] [4,5] (f63_k2 K)
def f63_s1 (a:Addr) (b:Int) (c:Option Addr) (w:World) (K:KT):Prop := Join (fun e w => CS P (codeAt c63 [1,1,1]) none [4,5] [4,5] (f63_kb K) e w) (Env.mk 100 [(3,(VP (some a))),(6,(VI b)),(0,(VP c))] []) w
abbrev f63_k5 (K:KT):Exit → YT := kseq P (codeAt c63 [1,1,1,0]) (codeAt c63 [1,1,1,1]) none [4,5] [4,5] (f63_kb K)
abbrev f63_k6 (K:KT):Exit → YT := kseq P (codeAt c63 [1,1,1,0,0]) (codeAt c63 [1,1,1,0,1]) none [3,6,0] [4,5] (f63_k5 K)
abbrev f63_k7 (K:KT):Exit → YT := kseq P (codeAt c63 [1,1,1,0,1,0]) (codeAt c63 [1,1,1,0,1,1]) none [3,6,0] [4,5] (f63_k5 K)
def f63_s2 (a:Bool) (b:Addr) (c:Int) (d:Option Addr) (w:World) (K:KT):Prop := Join (fun e w => CS P (codeAt c63 [1,1,1,0,1,1]) none [3,6,0] [4,5] (f63_k5 K) e w) (Env.mk 100 [(75,(VB a)),(3,(VP (some b))),(6,(VI c)),(0,(VP d))] []) w
abbrev f63_k8 (K:KT):Exit → YT := kseq P (codeAt c63 [1,1,1,0,1,1,0,0]) (codeAt c63 [1,1,1,0,1,1,0,1]) none [3,6,0] [4,5] (f63_k5 K)
def f63_s3 (a:Addr) (b:Int) (c:Option Addr) (w:World) (K:KT):Prop := Join (fun e w => CS P (codeAt c63 [1,1,1,1]) none [4,5] [4,5] (f63_kb K) e w) (Env.mk 100 [(3,(VP (some a))),(6,(VI b)),(0,(VP c))] []) w
abbrev f63_k9 (K:KT):Exit → YT := kseq P (codeAt c63 [1,1,1,1,0]) (codeAt c63 [1,1,1,1,1]) none [4,5] [4,5] (f63_kb K)
def f63_s4 (a b:Addr) (w:World) (K:KT):Prop := Join (fun e w => CS P (codeAt c63 [1,1,1,1,1]) none [4,5] [4,5] (f63_kb K) e w) (Env.mk 100 [(10,(VP (some a))),(3,(VP (some b)))] []) w
abbrev f63_k10 (K:KT):Exit → YT := kseq P (codeAt c63 [1,1,1,1,1,0]) (codeAt c63 [1,1,1,1,1,1]) none [4,5] [4,5] (f63_kb K)
def f63_s5 (a:Addr) (w:World) (K:KT):Prop := Join (fun e w => CS P (codeAt c63 [1,1,1,1,1,1]) none [4,5] [4,5] (f63_kb K) e w) (Env.mk 100 [(10,(VP (some a)))] []) w
abbrev f63_k11 (K:KT):Exit → YT := kseq P (codeAt c63 [1,1,1,1,1,1,0]) (codeAt c63 [1,1,1,1,1,1,1]) none [4,5] [4,5] (f63_kb K)
theorem f63_s5_eq (a:Addr) (w:World) (K:KT):f63_s5 a w K = (∃ b:Bool,w.drew.cell? (a.add 22) = some (Value.bool b) ∧ K (Value.tuple [(Value.pointer (some a)),(Value.bool (!b))].toArray) w.drew) := by kernel_rfl
theorem f63_s4_eq (a d:Addr) (w:World) (K:KT):f63_s4 a d w K = ((CallL P 94 [] w.drew (fun j e => ∃ f:Array Value,j = (Value.agg f) ∧ ∃ b:Int,e.cell? d = some (Value.int .i64 b) ∧ 0 ≤ (b:Int) ∧ (b:Int) < (25:Nat) ∧ ∃ g:Value,f[(Int.toNat b * 1)]? = some g ∧ CallF P g [(Value.pointer (some a))] e (fun k l => k = (Value.tuple [].toArray) ∧ f63_s5 a l K))) ∧ (∃ c:Int,w.drew.cell? d = some (Value.int .i64 c) ∧ CallL P 94 [] w.drew (fun m n => ∃ h:Array Value,m = (Value.agg h) ∧ 0 ≤ (c:Int) ∧ (c:Int) < (25:Nat) ∧ ∃ i:Value,h[(Int.toNat c * 1)]? = some i ∧ CallF P i [(Value.pointer (some a))] n (fun o p => o = (Value.tuple [].toArray) ∧ f63_s5 a p K)))) := by kernel_rfl
theorem f63_s3_eq (a:Addr) (b:Int) (c:Option Addr) (w:World) (K:KT):f63_s3 a b c w K = (optS c (fun h => 0 ≤ (b:Int) ∧ (b:Int) < (8:Nat) ∧ LdA 6 a w.drew (fun d => LdA 8 (h.add (Int.toNat b * 8)) w.drew (fun e => (NewO (.map #[] 0) w.drew (fun i j => NewO (.map #[] 0) j (fun k l => ∃ f:Array Value,(∀ wq,(Instr.build 138 [(0,(Value.pointer c)),(1,(Value.agg d)),(3,(Value.agg e)),(5,(Value.map (some i))),(6,(Value.map (some k))),(7,(Value.int .i64 (-1))),(8,(Value.int .i64 (-1)))].toArray).run P wq = .ok (Value.agg f) wq) ∧ NewC f 138 l (fun m n => f63_s4 (Addr.mk m 0 none) a n K)))) ∧ (NewO (.map #[] 0) w.drew (fun o p => NewO (.map #[] 0) p (fun q r => ∃ g:Array Value,(∀ wq,(Instr.build 138 [(0,(Value.pointer c)),(1,(Value.agg d)),(3,(Value.agg e)),(5,(Value.map (some q))),(6,(Value.map (some o))),(7,(Value.int .i64 (-1))),(8,(Value.int .i64 (-1)))].toArray).run P wq = .ok (Value.agg g) wq) ∧ NewC g 138 r (fun s t => f63_s4 (Addr.mk s 0 none) a t K)))))))) := by kernel_rfl
theorem f63_s2_eq (a:Bool) (b:Addr) (c:Int) (d:Option Addr) (w:World) (K:KT):f63_s2 a b c d w K = (BIf a (K (Value.tuple [(Value.pointer none),(Value.bool false)].toArray) w) (f63_s3 b c d w K)) := by kernel_rfl
theorem f63_s1_eq (a:Addr) (c:Int) (d:Option Addr) (w:World) (K:KT):f63_s1 a c d w K = (LdA 6 a w (fun m => CallL P 64 [(Value.agg m)] w (fun n b => ∃ o:Bool,∃ e:Bool,∃ f:Bool,n = (Value.tuple [(Value.bool o),(Value.bool e),(Value.bool f)].toArray) ∧ BIf f (∃ g:Int,b.cell? (a.add 5) = some (Value.int .i64 g) ∧ BIf (decide ((g:Int) < 0)) (f63_s2 true a c d b K) (∃ h:Int,b.cell? (a.add 5) = some (Value.int .i64 h) ∧ BIf (decide ((h:Int) > 65536)) (f63_s2 true a c d b K) (BIf e (∃ i:Int,b.cell? (a.add 5) = some (Value.int .i64 i) ∧ BIf (decide ((i:Int) < 1)) (f63_s2 true a c d b K) (∃ j:Int,b.cell? (a.add 5) = some (Value.int .i64 j) ∧ f63_s2 (decide ((j:Int) > 16)) a c d b K)) (f63_s2 false a c d b K)))) (BIf e (∃ k:Int,b.cell? (a.add 5) = some (Value.int .i64 k) ∧ BIf (decide ((k:Int) < 1)) (f63_s2 true a c d b K) (∃ l:Int,b.cell? (a.add 5) = some (Value.int .i64 l) ∧ f63_s2 (decide ((l:Int) > 16)) a c d b K)) (f63_s2 false a c d b K))))) := by kernel_rfl
theorem f63_s0_eq (a:Bool) (b:Addr) (c:Int) (d:Option Addr) (w:World) (K:KT):f63_s0 a b c d w K = (BIf a (K (Value.tuple [(Value.pointer none),(Value.bool false)].toArray) w) (f63_s1 b c d w K)) := by kernel_rfl
theorem f63_eq (c:Option Addr) (e:Array Value) (w:World) (K:KT):f63 c e w K = (NewC e 35 w (fun d b => ∃ a:Int,b.cell? ((Addr.mk d 0 none).add 1) = some (Value.int .i64 a) ∧ ∃ f:Int,b.cell? (Addr.mk d 0 none) = some (Value.int .i64 f) ∧ BIf (decide ((f:Int) < 1)) (f63_s0 true (Addr.mk d 0 none) a c b K) (∃ g:Int,b.cell? (Addr.mk d 0 none) = some (Value.int .i64 g) ∧ BIf (decide ((g:Int) > 24)) (f63_s0 true (Addr.mk d 0 none) a c b K) (BIf (decide ((a:Int) < 0)) (f63_s0 true (Addr.mk d 0 none) a c b K) (BIf (decide ((a:Int) ≥ 8)) (f63_s0 true (Addr.mk d 0 none) a c b K) (optS c (fun j => 0 ≤ (a:Int) ∧ (a:Int) < (8:Nat) ∧ ∃ h:Bool,b.cell? ((j.add 64).add (Int.toNat a * 1)) = some (Value.bool h) ∧ BIf (!h) (f63_s0 true (Addr.mk d 0 none) a c b K) (optS c (fun k => 0 ≤ (a:Int) ∧ (a:Int) < (8:Nat) ∧ ∃ i:Bool,b.cell? ((k.add 72).add (Int.toNat a * 1)) = some (Value.bool i) ∧ f63_s0 i (Addr.mk d 0 none) a c b K))))))))) := by kernel_rfl
theorem c63_eq:Go.Proofs.Try.f63.body = some c63 := by kernel_rfl
theorem f63_un (a:Option Addr) (b:Array Value) (w:World) (K:KT):f63 a b w K = CS P c63 none (resT Go.Proofs.Try.f63.results.toList) (resT Go.Proofs.Try.f63.results.toList) (bodyK P Go.Proofs.Try.f63.results.toList K) (env0 Go.Proofs.Try.f63.ntmps [(Value.pointer a),(Value.agg b)]) w := by kernel_rfl
theorem f63_ok (a:Option Addr) (b:Array Value) (w:World) (K:KT) (h:f63 a b w K):CallL P 63 [(Value.pointer a),(Value.agg b)] w K := calls_of_CS Go.Proofs.Try.func63 c63_eq (Eq.mp (f63_un a b w K) h)
/-! 68 (*candling.race.threads).perform -/
noncomputable def c68:Code := match Go.Proofs.Try.f68.body with
  | some c => c
  | none => .skip
noncomputable def rs68:List ResultVar := Go.Proofs.Try.f68.results.toList
abbrev f68_kb (K:KT):Exit → YT := bodyK P rs68 K
def f68 (a b:Option Addr) (w:World) (K:KT):Prop := CS P c68 none [] [] (f68_kb K) (env0 108 [(VP a),(VP b)]) w
abbrev f68_k0 (K:KT):Exit → YT := kseq P (codeAt c68 [0]) (codeAt c68 [1]) none [] [] (f68_kb K)
abbrev f68_k1 (K:KT):Exit → YT := kseq P (codeAt c68 [1,0]) (codeAt c68 [1,1]) none [] [] (f68_kb K)
def f68_s0 (a:Option Addr) (b:Int) (c:Option Addr) (w:World) (K:KT):Prop := Join (fun e w => CS P (codeAt c68 [1,1]) none [] [] (f68_kb K) e w) (Env.mk 108 [(0,(VP a)),(4,(VI b)),(1,(VP c))] []) w
abbrev f68_k2 (K:KT):Exit → YT := kseq P (codeAt c68 [1,1,0]) (codeAt c68 [1,1,1]) none [] [] (f68_kb K)
abbrev f68_k3 (K:KT):Exit → YT := kseq P (codeAt c68 [1,1,0,0]) (codeAt c68 [1,1,0,1]) none [0,4,1] [] (f68_k2 K)
abbrev f68_k4 (K:KT):Exit → YT := kblock 0 (f68_k2 K)
def f68_lp1 (K:KT) (Y1:YT) (e:Env) (w:World):Prop := Join (fun e w => CS P (codeAt c68 [1,1,0,1,0,0]) none [0,27,4,1] [0,4,1] (kloop [0,27,4,1] Y1 (f68_k4 K)) e w) e w
abbrev f68_kl1 (K:KT) (Y1:YT):Exit → YT := kloop [0,27,4,1] Y1 (f68_k4 K)
def f68_lb1 (a:Option Addr) (b:Addr) (c:Int) (d:Option Addr) (w:World) (K:KT) (Y1:YT):Prop := Join (fun e w => CS P (codeAt c68 [1,1,0,1,0,0]) none [0,27,4,1] [0,4,1] (f68_kl1 K Y1) e w) (Env.mk 108 [(0,(VP a)),(27,(VP (some b))),(4,(VI c)),(1,(VP d))] []) w
abbrev f68_k5 (K:KT) (Y1:YT):Exit → YT := kseq P (codeAt c68 [1,1,0,1,0,0,0]) (codeAt c68 [1,1,0,1,0,0,1]) none [0,27,4,1] [0,4,1] (f68_kl1 K Y1)
abbrev f68_k6 (K:KT) (Y1:YT):Exit → YT := kseq P (codeAt c68 [1,1,0,1,0,0,1,0]) (codeAt c68 [1,1,0,1,0,0,1,1]) none [0,27,4,1] [0,4,1] (f68_kl1 K Y1)
def f68_s2 (a:Option Addr) (b:Int) (c:Option Addr) (w:World) (K:KT):Prop := Join (fun e w => CS P (codeAt c68 [1,1,1]) none [] [] (f68_kb K) e w) (Env.mk 108 [(0,(VP a)),(4,(VI b)),(1,(VP c))] []) w
abbrev f68_k7 (K:KT):Exit → YT := kseq P (codeAt c68 [1,1,1,0]) (codeAt c68 [1,1,1,1]) none [] [] (f68_kb K)
abbrev f68_k8 (K:KT):Exit → YT := kseq P (codeAt c68 [1,1,1,0,0]) (codeAt c68 [1,1,1,0,1]) none [4,0,1] [] (f68_k7 K)
abbrev f68_k9 (K:KT):Exit → YT := kblock 2 (f68_k7 K)
def f68_lp3 (K:KT) (Y3:YT) (e:Env) (w:World):Prop := Join (fun e w => CS P (codeAt c68 [1,1,1,0,1,0,0]) none [0,43,4,1] [4,0,1] (kloop [0,43,4,1] Y3 (f68_k9 K)) e w) e w
abbrev f68_kl3 (K:KT) (Y3:YT):Exit → YT := kloop [0,43,4,1] Y3 (f68_k9 K)
def f68_lb3 (a:Option Addr) (b:Addr) (c:Int) (d:Option Addr) (w:World) (K:KT) (Y3:YT):Prop := Join (fun e w => CS P (codeAt c68 [1,1,1,0,1,0,0]) none [0,43,4,1] [4,0,1] (f68_kl3 K Y3) e w) (Env.mk 108 [(0,(VP a)),(43,(VP (some b))),(4,(VI c)),(1,(VP d))] []) w
abbrev f68_k10 (K:KT) (Y3:YT):Exit → YT := kseq P (codeAt c68 [1,1,1,0,1,0,0,0]) (codeAt c68 [1,1,1,0,1,0,0,1]) none [0,43,4,1] [4,0,1] (f68_kl3 K Y3)
abbrev f68_k11 (K:KT) (Y3:YT):Exit → YT := kseq P (codeAt c68 [1,1,1,0,1,0,0,1,0]) (codeAt c68 [1,1,1,0,1,0,0,1,1]) none [0,43,4,1] [4,0,1] (f68_kl3 K Y3)
def f68_s4 (a:Int) (b c:Option Addr) (w:World) (K:KT):Prop := Join (fun e w => CS P (codeAt c68 [1,1,1,1]) none [] [] (f68_kb K) e w) (Env.mk 108 [(4,(VI a)),(0,(VP b)),(1,(VP c))] []) w
abbrev f68_k12 (K:KT):Exit → YT := kseq P (codeAt c68 [1,1,1,1,0]) (codeAt c68 [1,1,1,1,1]) none [] [] (f68_kb K)
abbrev f68_k13 (K:KT):Exit → YT := kseq P (codeAt c68 [1,1,1,1,0,0]) (codeAt c68 [1,1,1,1,0,1]) none [4,0,1] [] (f68_k12 K)
abbrev f68_k14 (K:KT):Exit → YT := kseq P (codeAt c68 [1,1,1,1,0,1,0,0]) (codeAt c68 [1,1,1,1,0,1,0,1]) none [4,0,1] [] (f68_k12 K)
def f68_s5 (a:Int) (b c:Option Addr) (w:World) (K:KT):Prop := Join (fun e w => CS P (codeAt c68 [1,1,1,1,0,1,0,1]) none [4,0,1] [] (f68_k12 K) e w) (Env.mk 108 [(4,(VI a)),(0,(VP b)),(1,(VP c))] []) w
def f68_s6 (a:Int) (b c:Option Addr) (w:World) (K:KT):Prop := Join (fun e w => CS P (codeAt c68 [1,1,1,1,1]) none [] [] (f68_kb K) e w) (Env.mk 108 [(4,(VI a)),(0,(VP b)),(1,(VP c))] []) w
abbrev f68_k15 (K:KT):Exit → YT := kseq P (codeAt c68 [1,1,1,1,1,0]) (codeAt c68 [1,1,1,1,1,1]) none [] [] (f68_kb K)
abbrev f68_k16 (K:KT):Exit → YT := kseq P (codeAt c68 [1,1,1,1,1,0,0]) (codeAt c68 [1,1,1,1,1,0,1]) none [4,0,1] [] (f68_k15 K)
def f68_s7 (a:Int) (b c:Option Addr) (w:World) (K:KT):Prop := Join (fun e w => CS P (codeAt c68 [1,1,1,1,1,1]) none [] [] (f68_kb K) e w) (Env.mk 108 [(4,(VI a)),(0,(VP b)),(1,(VP c))] []) w
abbrev f68_k17 (K:KT):Exit → YT := kseq P (codeAt c68 [1,1,1,1,1,1,0]) (codeAt c68 [1,1,1,1,1,1,1]) none [] [] (f68_kb K)
theorem f68_s7_eq (a:Int) (b c:Option Addr) (w:World) (K:KT):f68_s7 a b c w K = (optS c (fun f => ∃ d:Bool,w.cell? (f.add 21) = some (Value.bool d) ∧ BIf d (optS b (fun g => 0 ≤ (a:Int) ∧ (a:Int) < (8:Nat) ∧ optS b (fun h => ∃ e:Int,w.drew.cell? ((g.add 80).add (Int.toNat a * 1)) = some (Value.int .i64 e) ∧ 0 ≤ (a:Int) ∧ (a:Int) < (8:Nat) ∧ St1 ((h.add 80).add (Int.toNat a * 1)) (Value.int .i64 (IntKind.wrap .i64 ((e:Int) + 1))) w.drew (fun i => K (Value.tuple [].toArray) i)))) (K (Value.tuple [].toArray) w))) := by kernel_rfl
theorem f68_s6_eq (d:Int) (b a:Option Addr) (w:World) (K:KT):f68_s6 d b a w K = (optS a (fun f => ∃ e:Int,w.cell? (f.add 20) = some (Value.int .i64 e) ∧ BIf (decide ((e:Int) ≥ 0)) (optS a (fun g => optS b (fun h => ∃ c:Int,w.drew.cell? (g.add 20) = some (Value.int .i64 c) ∧ 0 ≤ (c:Int) ∧ (c:Int) < (8:Nat) ∧ St1 ((h.add 72).add (Int.toNat c * 1)) (Value.bool true) w.drew (fun i => f68_s7 d b a i K)))) (f68_s7 d b a w K))) := by kernel_rfl
theorem f68_s5_eq (d:Int) (c a:Option Addr) (w:World) (K:KT):f68_s5 d c a w K = (optS a (fun e => optS c (fun f => optS a (fun g => ∃ b:Int,w.drew.cell? (e.add 19) = some (Value.int .i64 b) ∧ 0 ≤ (b:Int) ∧ (b:Int) < (8:Nat) ∧ LdA 8 (g.add 8) w.drew (fun h => CallL P 97 [(Value.pointer (some (f.add (Int.toNat b * 8)))),(Value.agg h)] w.drew (fun i j => i = (Value.tuple [].toArray) ∧ f68_s6 d c a j K)))))) := by kernel_rfl
theorem f68_s4_eq (d:Int) (b a:Option Addr) (w:World) (K:KT):f68_s4 d b a w K = (optS a (fun f => ∃ e:Int,w.cell? (f.add 19) = some (Value.int .i64 e) ∧ BIf (decide ((e:Int) ≥ 0)) (optS a (fun g => optS b (fun h => ∃ c:Int,w.drew.cell? (g.add 19) = some (Value.int .i64 c) ∧ 0 ≤ (c:Int) ∧ (c:Int) < (8:Nat) ∧ St1 ((h.add 64).add (Int.toNat c * 1)) (Value.bool true) w.drew (fun i => f68_s5 d b a i K)))) (f68_s6 d b a w K))) := by kernel_rfl
def f68_s8 (a:Option Addr) (b:Addr) (c:Int) (d:Option Addr) (w:World) (K:KT) (Y3:YT):Prop := Join (fun e w => CS P (codeAt c68 [1,1,1,0,1,0,0,1,1]) none [0,43,4,1] [4,0,1] (f68_kl3 K Y3) e w) (Env.mk 108 [(0,(VP a)),(43,(VP (some b))),(4,(VI c)),(1,(VP d))] []) w
abbrev f68_k18 (K:KT) (Y3:YT):Exit → YT := kblock 3 (f68_kl3 K Y3)
abbrev f68_k19 (K:KT) (Y3:YT):Exit → YT := kseq P (codeAt c68 [1,1,1,0,1,0,0,1,1,0,0]) (codeAt c68 [1,1,1,0,1,0,0,1,1,0,1]) none [0,43,4,1] [4,0,1,43] (f68_k18 K Y3)
theorem f68_s8_eq (a:Option Addr) (b:Addr) (d:Int) (e:Option Addr) (w:World) (K:KT) (Y3:YT):f68_s8 a b d e w K Y3 = (∃ (k80 f:Value) (g:World),(Instr.entry (Value.pointer (some b))).run P w = .ok (.tuple #[k80,f]) g ∧ ∃ h:Array Value,k80 = (Value.agg h) ∧ ∃ i:Int,f = (Value.int .i64 i) ∧ NewC (zcells P 147) 147 g (fun j m => StA 2 (Addr.mk j 0 none) h m (fun c => optS a (fun n => ∃ k:Option Nat,c.drew.cell? (n.add 89) = some (Value.map k) ∧ LdA 2 (Addr.mk j 0 none) c.drew (fun o => ∃ l:World,(Instr.mapUpdate 119 (Value.map k) (Value.agg o) (Value.int .i64 i)).run P c.drew = .ok () l ∧ Y3 (Env.mk 108 [(0,(Value.pointer a)),(43,(Value.pointer (some b))),(4,(Value.int .i64 d)),(1,(Value.pointer e))] []) l))))) := by kernel_rfl
theorem f68_lb3_eq (b:Option Addr) (a:Addr) (c:Int) (d:Option Addr) (w:World) (K:KT) (Y3:YT):f68_lb3 b a c d w K Y3 = ((∃ e:World,(Instr.next (Value.pointer (some a)) false 0).run P w = .ok (.tuple #[.bool false]) e ∧ f68_s4 c b d e K) ∨ ∃ (k36 g:Value) (f:World),(Instr.next (Value.pointer (some a)) false 0).run P w = .ok (.tuple #[.bool true,k36,g]) f ∧ f68_s8 b a c d f K Y3) := by kernel_rfl
theorem f68_s2_eq (b:Option Addr) (c:Int) (a:Option Addr) (w:World) (K:KT):f68_s2 b c a w K = (optS a (fun g => ∃ d:Option Nat,w.cell? (g.add 18) = some (Value.map d) ∧ ∃ (e:Nat) (f:World),(Instr.range 119 (Value.map d)).run P w = .ok (.pointer (some (Addr.mk e 0 none))) f ∧ LoopE (f68_lp3 K) (Env.mk 108 [(0,(Value.pointer b)),(43,(Value.pointer (some (Addr.mk e 0 none)))),(4,(Value.int .i64 c)),(1,(Value.pointer a))] []) f)) := by kernel_rfl
def f68_s9 (a:Option Addr) (b:Addr) (c:Int) (d:Option Addr) (w:World) (K:KT) (Y1:YT):Prop := Join (fun e w => CS P (codeAt c68 [1,1,0,1,0,0,1,1]) none [0,27,4,1] [0,4,1] (f68_kl1 K Y1) e w) (Env.mk 108 [(0,(VP a)),(27,(VP (some b))),(4,(VI c)),(1,(VP d))] []) w
abbrev f68_k20 (K:KT) (Y1:YT):Exit → YT := kblock 1 (f68_kl1 K Y1)
abbrev f68_k21 (K:KT) (Y1:YT):Exit → YT := kseq P (codeAt c68 [1,1,0,1,0,0,1,1,0,0]) (codeAt c68 [1,1,0,1,0,0,1,1,0,1]) none [0,27,4,1] [0,4,1,27] (f68_k20 K Y1)
theorem f68_s9_eq (b:Option Addr) (c:Addr) (d:Int) (e:Option Addr) (w:World) (K:KT) (Y1:YT):f68_s9 b c d e w K Y1 = (∃ (k96 f:Value) (g:World),(Instr.entry (Value.pointer (some c))).run P w = .ok (.tuple #[k96,f]) g ∧ ∃ h:Array Value,k96 = (Value.agg h) ∧ ∃ i:Array Value,f = (Value.agg i) ∧ NewC (zcells P 147) 147 g (fun j n => NewC (zcells P 116) 116 n (fun k o => StA 2 (Addr.mk j 0 none) h o (fun p => StA 8 (Addr.mk k 0 none) i p (fun a => optS b (fun q => ∃ l:Option Nat,a.drew.cell? (q.add 88) = some (Value.map l) ∧ LdA 2 (Addr.mk j 0 none) a.drew (fun r => LdA 8 (Addr.mk k 0 none) a.drew (fun s => ∃ m:World,(Instr.mapUpdate 118 (Value.map l) (Value.agg r) (Value.agg s)).run P a.drew = .ok () m ∧ Y1 (Env.mk 108 [(0,(Value.pointer b)),(27,(Value.pointer (some c))),(4,(Value.int .i64 d)),(1,(Value.pointer e))] []) m)))))))) := by kernel_rfl
theorem f68_lb1_eq (b:Option Addr) (a:Addr) (c:Int) (d:Option Addr) (w:World) (K:KT) (Y1:YT):f68_lb1 b a c d w K Y1 = ((∃ e:World,(Instr.next (Value.pointer (some a)) false 0).run P w = .ok (.tuple #[.bool false]) e ∧ f68_s2 b c d e K) ∨ ∃ (k21 g:Value) (f:World),(Instr.next (Value.pointer (some a)) false 0).run P w = .ok (.tuple #[.bool true,k21,g]) f ∧ f68_s9 b a c d f K Y1) := by kernel_rfl
theorem f68_s0_eq (b:Option Addr) (c:Int) (a:Option Addr) (w:World) (K:KT):f68_s0 b c a w K = (optS a (fun g => ∃ d:Option Nat,w.cell? (g.add 17) = some (Value.map d) ∧ ∃ (e:Nat) (f:World),(Instr.range 118 (Value.map d)).run P w = .ok (.pointer (some (Addr.mk e 0 none))) f ∧ LoopE (f68_lp1 K) (Env.mk 108 [(0,(Value.pointer b)),(27,(Value.pointer (some (Addr.mk e 0 none)))),(4,(Value.int .i64 c)),(1,(Value.pointer a))] []) f)) := by kernel_rfl
theorem f68_eq (c b:Option Addr) (w:World) (K:KT):f68 c b w K = (optS b (fun d => ∃ a:Int,w.cell? ((d.add 1).add 1) = some (Value.int .i64 a) ∧ optS b (fun e => optS c (fun f => LdA 8 (e.add 8) w.drew (fun g => 0 ≤ (a:Int) ∧ (a:Int) < (8:Nat) ∧ StA 8 (f.add (Int.toNat a * 8)) g w.drew (fun h => f68_s0 c a b h K)))))) := by kernel_rfl
theorem c68_eq:Go.Proofs.Try.f68.body = some c68 := by kernel_rfl
theorem f68_un (a b:Option Addr) (w:World) (K:KT):f68 a b w K = CS P c68 none (resT Go.Proofs.Try.f68.results.toList) (resT Go.Proofs.Try.f68.results.toList) (bodyK P Go.Proofs.Try.f68.results.toList K) (env0 Go.Proofs.Try.f68.ntmps [(Value.pointer a),(Value.pointer b)]) w := by kernel_rfl
theorem f68_ok (a b:Option Addr) (w:World) (K:KT) (h:f68 a b w K):CallL P 68 [(Value.pointer a),(Value.pointer b)] w K := calls_of_CS Go.Proofs.Try.func68 c68_eq (Eq.mp (f68_un a b w K) h)
/-! 66 (*candling.race.cell).race -/
noncomputable def c66:Code := match Go.Proofs.Try.f66.body with
  | some c => c
  | none => .skip
noncomputable def rs66:List ResultVar := Go.Proofs.Try.f66.results.toList
abbrev f66_kb (K:KT):Exit → YT := bodyK P rs66 K
def f66 (a:Option Addr) (b c:Array Value) (w:World) (K:KT):Prop := CS P c66 none [6,7] [6,7] (f66_kb K) (env0 37 [(VP a),(Value.agg b),(Value.agg c)]) w
abbrev f66_k0 (K:KT):Exit → YT := kseq P (codeAt c66 [0]) (codeAt c66 [1]) none [6,7] [6,7] (f66_kb K)
abbrev f66_k1 (K:KT):Exit → YT := kseq P (codeAt c66 [1,0]) (codeAt c66 [1,1]) none [6,7] [6,7] (f66_kb K)
abbrev f66_k2 (K:KT):Exit → YT := kseq P (codeAt c66 [1,0,0]) (codeAt c66 [1,0,1]) none [6] [6,7] (f66_k1 K)
abbrev f66_k3 (K:KT):Exit → YT := kblock 0 (f66_k1 K)
def f66_lp0 (K:KT) (Y0:YT) (e:Env) (w:World):Prop := Join (fun e w => CS P (codeAt c66 [1,0,1,0,0]) none [6,15,5,4,13,7,14] [6,7] (kloop [6,15,5,4,13,7,14] Y0 (f66_k3 K)) e w) e w
abbrev f66_kl0 (K:KT) (Y0:YT):Exit → YT := kloop [6,15,5,4,13,7,14] Y0 (f66_k3 K)
def f66_lb0 (a:Addr) (b:Int) (c d:Addr) (f:Option Addr) (g h:Nat) (i:Bool) (j:Int) (w:World) (K:KT) (Y0:YT):Prop := Join (fun e w => CS P (codeAt c66 [1,0,1,0,0]) none [6,15,5,4,13,7,14] [6,7] (f66_kl0 K Y0) e w) (Env.mk 37 [(6,(VP (some a))),(15,(VI b)),(5,(VP (some c))),(4,(VP (some d))),(13,(VS f g h)),(7,(VB i)),(14,(VI j))] []) w
abbrev f66_k4 (K:KT) (Y0:YT):Exit → YT := kseq P (codeAt c66 [1,0,1,0,0,0]) (codeAt c66 [1,0,1,0,0,1]) none [6,15,5,4,13,7,14] [6,7] (f66_kl0 K Y0)
abbrev f66_k5 (K:KT) (Y0:YT):Exit → YT := kseq P (codeAt c66 [1,0,1,0,0,1,0]) (codeAt c66 [1,0,1,0,0,1,1]) none [6,15,5,4,13,7,14] [6,7] (f66_kl0 K Y0)
def f66_s1 (a b c:Addr) (d:Option Addr) (f g:Nat) (h i:Int) (j:Bool) (w:World) (K:KT) (Y0:YT):Prop := Join (fun e w => CS P (codeAt c66 [1,0,1,0,0,1,1]) none [6,15,5,4,13,7,14] [6,7] (f66_kl0 K Y0) e w) (Env.mk 37 [(6,(VP (some a))),(5,(VP (some b))),(4,(VP (some c))),(13,(VS d f g)),(14,(VI h)),(15,(VI i)),(7,(VB j))] []) w
abbrev f66_k6 (K:KT) (Y0:YT):Exit → YT := kseq P (codeAt c66 [1,0,1,0,0,1,1,0]) (codeAt c66 [1,0,1,0,0,1,1,1]) none [6,15,5,4,13,7,14] [6,7] (f66_kl0 K Y0)
abbrev f66_k7 (K:KT) (Y0:YT):Exit → YT := kblock 1 (f66_k6 K Y0)
abbrev f66_k8 (K:KT) (Y0:YT):Exit → YT := kseq P (codeAt c66 [1,0,1,0,0,1,1,0,0,0]) (codeAt c66 [1,0,1,0,0,1,1,0,0,1]) none [6,5,4,13,7,14,15] [6,7,5,4,13,14,15] (f66_k7 K Y0)
abbrev f66_k9 (K:KT) (Y0:YT):Exit → YT := kseq P (codeAt c66 [1,0,1,0,0,1,1,0,0,1,0]) (codeAt c66 [1,0,1,0,0,1,1,0,0,1,1]) none [6,5,4,13,7,14,15] [6,7,5,4,13,14,15] (f66_k7 K Y0)
def f66_s2 (a:Bool) (b c d:Addr) (f:Option Addr) (g h:Nat) (i j:Int) (k:Addr) (l:Bool) (w:World) (K:KT) (Y0:YT):Prop := Join (fun e w => CS P (codeAt c66 [1,0,1,0,0,1,1,0,0,1,1]) none [6,5,4,13,7,14,15] [6,7,5,4,13,14,15] (f66_k7 K Y0) e w) (Env.mk 37 [(32,(VB a)),(6,(VP (some b))),(5,(VP (some c))),(4,(VP (some d))),(13,(VS f g h)),(14,(VI i)),(15,(VI j)),(9,(VP (some k))),(7,(VB l))] []) w
abbrev f66_k10 (K:KT) (Y0:YT):Exit → YT := kseq P (codeAt c66 [1,0,1,0,0,1,1,0,0,1,1,0,0]) (codeAt c66 [1,0,1,0,0,1,1,0,0,1,1,0,1]) none [6,5,4,13,7,14,15] [6,7,5,4,13,14,15] (f66_k7 K Y0)
def f66_s3 (a b c:Addr) (d:Option Addr) (f g:Nat) (h:Bool) (i j:Int) (w:World) (K:KT) (Y0:YT):Prop := Join (fun e w => CS P (codeAt c66 [1,0,1,0,0,1,1,1]) none [6,15,5,4,13,7,14] [6,7] (f66_kl0 K Y0) e w) (Env.mk 37 [(6,(VP (some a))),(5,(VP (some b))),(4,(VP (some c))),(13,(VS d f g)),(7,(VB h)),(14,(VI i)),(15,(VI j))] []) w
theorem f66_s3_eq (a b c:Addr) (d:Option Addr) (e f:Nat) (g:Bool) (h i:Int) (w:World) (K:KT) (Y0:YT):f66_s3 a b c d e f g h i w K Y0 = (Y0 (Env.mk 37 [(6,(Value.pointer (some a))),(15,(Value.int .i64 (IntKind.wrap .i64 ((i:Int) + 1)))),(5,(Value.pointer (some b))),(4,(Value.pointer (some c))),(13,(Value.slice d e f)),(7,(Value.bool g)),(14,(Value.int .i64 h))] []) w) := by kernel_rfl
theorem f66_s2_eq (b:Bool) (a c d:Addr) (e:Option Addr) (f g:Nat) (h i:Int) (j:Addr) (k:Bool) (w:World) (K:KT) (Y0:YT):f66_s2 b a c d e f g h i j k w K Y0 = (BIf b (LdA 5 j w (fun m => StA 5 a m w (fun l => LdA 5 a l (fun n => K (Value.tuple [(Value.agg n),(Value.bool true)].toArray) l)))) (f66_s3 a c d e f g k h i w K Y0)) := by kernel_rfl
theorem f66_s1_eq (i d e:Addr) (f:Option Addr) (g j:Nat) (k a:Int) (l:Bool) (w:World) (K:KT) (Y0:YT):f66_s1 i d e f g j k a l w K Y0 = (optS f (fun q => 0 ≤ (a:Int) ∧ (a:Int) < (g:Nat) ∧ LdA 6 (q.add (Int.toNat a * 6)) w (fun r => NewC (zcells P 152) 152 w (fun b s => StA 6 (Addr.mk b 0 none) r s (fun m => LdA 5 (Addr.mk b 0 none) m.drew (fun t => LdA 5 e m.drew (fun u => CallL P 59 [(Value.agg t),(Value.agg u)] m.drew (fun v c => ∃ n:Bool,v = (Value.bool n) ∧ BIf n (∃ h:Int,c.cell? ((Addr.mk b 0 none).add 1) = some (Value.int .i64 h) ∧ 0 ≤ (h:Int) ∧ (h:Int) < (8:Nat) ∧ ∃ o:Int,c.cell? (d.add (Int.toNat h * 1)) = some (Value.int .i64 o) ∧ ∃ p:Int,c.cell? ((Addr.mk b 0 none).add 5) = some (Value.int .i64 p) ∧ f66_s2 (decide ((o:Int) < p)) i d e f g j k a (Addr.mk b 0 none) l c K Y0) (f66_s2 false i d e f g j k a (Addr.mk b 0 none) l c K Y0))))))))) := by kernel_rfl
def f66_s4 (a:Addr) (w:World) (K:KT):Prop := Join (fun e w => CS P (codeAt c66 [1,1]) none [6,7] [6,7] (f66_kb K) e w) (Env.mk 37 [(6,(VP (some a)))] []) w
abbrev f66_k11 (K:KT):Exit → YT := kseq P (codeAt c66 [1,1,0]) (codeAt c66 [1,1,1]) none [6,7] [6,7] (f66_kb K)
theorem f66_s4_eq (a:Addr) (w:World) (K:KT):f66_s4 a w K = (∃ b:Array Value,(∀ wq,(Instr.build 45 [].toArray).run P wq = .ok (Value.agg b) wq) ∧ StA 5 a b w (fun c => LdA 5 a c (fun d => K (Value.tuple [(Value.agg d),(Value.bool false)].toArray) c))) := by kernel_rfl
theorem f66_lb0_eq (a:Addr) (b:Int) (d e:Addr) (f:Option Addr) (g h:Nat) (i:Bool) (c:Int) (w:World) (K:KT) (Y0:YT):f66_lb0 a b d e f g h i c w K Y0 = (BIf (decide ((b:Int) < c)) (f66_s1 a d e f g h c b i w K Y0) (f66_s4 a w K)) := by kernel_rfl
theorem f66_eq (e:Option Addr) (f g:Array Value) (w:World) (K:KT):f66 e f g w K = (NewC f 45 w (fun i j => NewC g 116 j (fun k l => NewC (zcells P 45) 45 l (fun m a => optS e (fun n => ∃ (b:Option Addr) (c d:Nat),a.cell? n = some (Value.slice b c d) ∧ ∃ h:Int,(∀ wq,Ext a wq → (Builtin.len_ #[139] 3 [(Value.slice b c d)].toArray).run P wq = .ok (Value.int .i64 h) wq) ∧ LoopE (f66_lp0 K) (Env.mk 37 [(6,(Value.pointer (some (Addr.mk m 0 none)))),(15,(Value.int .i64 0)),(5,(Value.pointer (some (Addr.mk k 0 none)))),(4,(Value.pointer (some (Addr.mk i 0 none)))),(13,(Value.slice b c d)),(7,(Value.bool false)),(14,(Value.int .i64 h))] []) a))))) := by kernel_rfl
theorem c66_eq:Go.Proofs.Try.f66.body = some c66 := by kernel_rfl
theorem f66_un (a:Option Addr) (b c:Array Value) (w:World) (K:KT):f66 a b c w K = CS P c66 none (resT Go.Proofs.Try.f66.results.toList) (resT Go.Proofs.Try.f66.results.toList) (bodyK P Go.Proofs.Try.f66.results.toList K) (env0 Go.Proofs.Try.f66.ntmps [(Value.pointer a),(Value.agg b),(Value.agg c)]) w := by kernel_rfl
theorem f66_ok (a:Option Addr) (b c:Array Value) (w:World) (K:KT) (h:f66 a b c w K):CallL P 66 [(Value.pointer a),(Value.agg b),(Value.agg c)] w K := calls_of_CS Go.Proofs.Try.func66 c66_eq (Eq.mp (f66_un a b c w K) h)
/-! 67 (*candling.race.cell).remember -/
noncomputable def c67:Code := match Go.Proofs.Try.f67.body with
  | some c => c
  | none => .skip
noncomputable def rs67:List ResultVar := Go.Proofs.Try.f67.results.toList
abbrev f67_kb (K:KT):Exit → YT := bodyK P rs67 K
def f67 (a:Option Addr) (b:Array Value) (c d:Int) (w:World) (K:KT):Prop := CS P c67 none [] [] (f67_kb K) (env0 40 [(VP a),(Value.agg b),(VI c),(VI d)]) w
abbrev f67_k0 (K:KT):Exit → YT := kseq P (codeAt c67 [0]) (codeAt c67 [1]) none [] [] (f67_kb K)
abbrev f67_k1 (K:KT):Exit → YT := kseq P (codeAt c67 [1,0]) (codeAt c67 [1,1]) none [] [] (f67_kb K)
def f67_s0 (a:Int) (b:Addr) (c:Option Addr) (d:Int) (f:Option Addr) (w:World) (K:KT):Prop := Join (fun e w => CS P (codeAt c67 [1,1]) none [] [] (f67_kb K) e w) (Env.mk 40 [(2,(VI a)),(5,(VP (some b))),(0,(VP c)),(3,(VI d)),(8,(VP f))] []) w
abbrev f67_k2 (K:KT):Exit → YT := kseq P (codeAt c67 [1,1,0]) (codeAt c67 [1,1,1]) none [] [] (f67_kb K)
abbrev f67_k3 (K:KT):Exit → YT := kseq P (codeAt c67 [1,1,0,0]) (codeAt c67 [1,1,0,1]) none [2,5,0,3,8] [] (f67_k2 K)
def f67_s1 (a:Int) (b:Addr) (c:Option Addr) (d:Int) (f:Option Addr) (w:World) (K:KT):Prop := Join (fun e w => CS P (codeAt c67 [1,1,1]) none [] [] (f67_kb K) e w) (Env.mk 40 [(2,(VI a)),(5,(VP (some b))),(0,(VP c)),(3,(VI d)),(8,(VP f))] []) w
abbrev f67_k4 (K:KT):Exit → YT := kseq P (codeAt c67 [1,1,1,0]) (codeAt c67 [1,1,1,1]) none [] [] (f67_kb K)
theorem f67_s1_eq (d:Int) (e:Addr) (b:Option Addr) (f:Int) (g:Option Addr) (w:World) (K:KT):f67_s1 d e b f g w K = (optS g (fun z => St1 z (Value.int .i64 (IntKind.wrap .i64 ((f:Int) + 1))) w (fun c => optS b (fun h => LdA 5 e c.drew (fun a0 => ∃ a:Array Value,(∀ wq,(Instr.build 152 [(0,(Value.agg a0)),(1,(Value.int .i64 d))].toArray).run P wq = .ok (Value.agg a) wq) ∧ (∃ (i:Option Addr) (j k:Nat),c.drew.cell? h = some (Value.slice i j k) ∧ sizesAre 6 [(Value.agg a)] ∧ NewC (([(Value.agg a)].map fun (v:Value) => v.cells.toList).flatten.toArray) 152 c.drew (fun b0 c0 => ∃ (l:Option Addr) (m n:Nat),∃ o:World,(Builtin.append_ #[139,139] 139 [(Value.slice i j k),(Value.slice (some (Addr.mk b0 0 none)) 1 1)].toArray).run P c0 = .ok (Value.slice l m n) o ∧ optS b (fun d0 => St1 d0 (Value.slice l m n) o (fun e0 => K (Value.tuple [].toArray) e0)))) ∧ (sizesAre 6 [(Value.agg a)] ∧ NewC (([(Value.agg a)].map fun (v:Value) => v.cells.toList).flatten.toArray) 152 c.drew (fun f0 p => ∃ (q:Option Addr) (r s:Nat),p.cell? h = some (Value.slice q r s) ∧ ∃ (t:Option Addr) (u x:Nat),∃ y:World,(Builtin.append_ #[139,139] 139 [(Value.slice q r s),(Value.slice (some (Addr.mk f0 0 none)) 1 1)].toArray).run P p = .ok (Value.slice t u x) y ∧ optS b (fun g0 => St1 g0 (Value.slice t u x) y (fun h0 => K (Value.tuple [].toArray) h0))))))))) := by kernel_rfl
theorem f67_s0_eq (c:Int) (d:Addr) (e:Option Addr) (a:Int) (b:Option Addr) (w:World) (K:KT):f67_s0 c d e a b w K = (optS b (fun g => ∃ f:Int,w.cell? g = some (Value.int .i64 f) ∧ BIf ((f:Int) == (IntKind.wrap .i64 ((a:Int) + 1))) (K (Value.tuple [].toArray) w) (f67_s1 c d e a b w K))) := by kernel_rfl
theorem f67_eq (b:Option Addr) (j:Array Value) (h i:Int) (w:World) (K:KT):f67 b j h i w K = (NewC j 45 w (fun a c => optS b (fun k => LdA 5 (Addr.mk a 0 none) c.drew (fun l => (∃ d:Int,c.drew.cell? ((Addr.mk a 0 none).add 1) = some (Value.int .i64 d) ∧ 0 ≤ (d:Int) ∧ (d:Int) < (8:Nat) ∧ CallL P 96 [(Value.agg l)] c.drew (fun n o => ∃ e:Int,n = (Value.int .i64 e) ∧ 0 ≤ (e:Int) ∧ (e:Int) < (3:Nat) ∧ f67_s0 h (Addr.mk a 0 none) b i (some (((k.add 1).add (Int.toNat d * 3)).add (Int.toNat e * 1))) o K)) ∧ (CallL P 96 [(Value.agg l)] c.drew (fun p m => ∃ f:Int,p = (Value.int .i64 f) ∧ ∃ g:Int,m.cell? ((Addr.mk a 0 none).add 1) = some (Value.int .i64 g) ∧ 0 ≤ (g:Int) ∧ (g:Int) < (8:Nat) ∧ 0 ≤ (f:Int) ∧ (f:Int) < (3:Nat) ∧ f67_s0 h (Addr.mk a 0 none) b i (some (((k.add 1).add (Int.toNat g * 3)).add (Int.toNat f * 1))) m K)))))) := by kernel_rfl
theorem c67_eq:Go.Proofs.Try.f67.body = some c67 := by kernel_rfl
theorem f67_un (a:Option Addr) (b:Array Value) (c d:Int) (w:World) (K:KT):f67 a b c d w K = CS P c67 none (resT Go.Proofs.Try.f67.results.toList) (resT Go.Proofs.Try.f67.results.toList) (bodyK P Go.Proofs.Try.f67.results.toList K) (env0 Go.Proofs.Try.f67.ntmps [(Value.pointer a),(Value.agg b),(Value.int .i64 c),(Value.int .i64 d)]) w := by kernel_rfl
theorem f67_ok (a:Option Addr) (b:Array Value) (c d:Int) (w:World) (K:KT) (h:f67 a b c d w K):CallL P 67 [(Value.pointer a),(Value.agg b),(Value.int .i64 c),(Value.int .i64 d)] w K := calls_of_CS Go.Proofs.Try.func67 c67_eq (Eq.mp (f67_un a b c d w K) h)
end Go.Fx.Try
namespace Go.Fx.Try
set_option maxRecDepth 100000
open Go Go.Fx
/-! 26 candling.candlinglaw30.ev -/
noncomputable def c26:Code := match Go.Proofs.Try.f26.body with
  | some c => c
  | none => .skip
noncomputable def rs26:List ResultVar := Go.Proofs.Try.f26.results.toList
abbrev f26_kb (K:KT):Exit → YT := bodyK P rs26 K
def f26 (a b c d:Int) (w:World) (K:KT):Prop := CS P c26 none [8] [8] (f26_kb K) (env0 14 [(VI a),(VI b),(Value.int .u32 c),(VI d)]) w
abbrev f26_k0 (K:KT):Exit → YT := kseq P (codeAt c26 [0]) (codeAt c26 [1]) none [8] [8] (f26_kb K)
abbrev f26_k1 (K:KT):Exit → YT := kseq P (codeAt c26 [1,0]) (codeAt c26 [1,1]) none [8] [8] (f26_kb K)
theorem f26_eq (a b c d:Int) (w:World) (K:KT):f26 a b c d w K = (NewC (zcells P 35) 35 w (fun e h => ∃ f:Array Value,(∀ wq,(Instr.build 35 [(0,(Value.int .i64 a)),(1,(Value.int .i64 b)),(3,(Value.int .u32 c)),(5,(Value.int .i64 d))].toArray).run P wq = .ok (Value.agg f) wq) ∧ StA 6 (Addr.mk e 0 none) f h (fun g => LdA 6 (Addr.mk e 0 none) g (fun i => K (Value.agg i) g)))) := by kernel_rfl
theorem c26_eq:Go.Proofs.Try.f26.body = some c26 := by kernel_rfl
theorem f26_un (a b c d:Int) (w:World) (K:KT):f26 a b c d w K = CS P c26 none (resT Go.Proofs.Try.f26.results.toList) (resT Go.Proofs.Try.f26.results.toList) (bodyK P Go.Proofs.Try.f26.results.toList K) (env0 Go.Proofs.Try.f26.ntmps [(Value.int .i64 a),(Value.int .i64 b),(Value.int .u32 c),(Value.int .i64 d)]) w := by kernel_rfl
theorem f26_ok (a b c d:Int) (w:World) (K:KT) (h:f26 a b c d w K):CallL P 26 [(Value.int .i64 a),(Value.int .i64 b),(Value.int .u32 c),(Value.int .i64 d)] w K := calls_of_CS Go.Proofs.Try.func26 c26_eq (Eq.mp (f26_un a b c d w K) h)
/-! 44 slices.Equal[[][3]int,[3]int] -/
noncomputable def c44:Code := match Go.Proofs.Try.f44.body with
  | some c => c
  | none => .skip
noncomputable def rs44:List ResultVar := Go.Proofs.Try.f44.results.toList
abbrev f44_kb (K:KT):Exit → YT := bodyK P rs44 K
def f44 (a:Option Addr) (b c:Nat) (d:Option Addr) (e f:Nat) (w:World) (K:KT):Prop := CS P c44 none [4] [4] (f44_kb K) (env0 26 [(VS a b c),(VS d e f)]) w
abbrev f44_k0 (K:KT):Exit → YT := kseq P (codeAt c44 [0]) (codeAt c44 [1]) none [4] [4] (f44_kb K)
abbrev f44_k1 (K:KT):Exit → YT := kseq P (codeAt c44 [1,0]) (codeAt c44 [1,1]) none [4] [4] (f44_kb K)
abbrev f44_k2 (K:KT):Exit → YT := kseq P (codeAt c44 [1,0,0]) (codeAt c44 [1,0,1]) none [1,0,4] [4] (f44_k1 K)
abbrev f44_k3 (K:KT):Exit → YT := kseq P (codeAt c44 [1,0,1,0,0]) (codeAt c44 [1,0,1,0,1]) none [1,0,4] [4] (f44_k1 K)
def f44_s0 (a:Option Addr) (b c:Nat) (d:Option Addr) (f g:Nat) (h:Bool) (w:World) (K:KT):Prop := Join (fun e w => CS P (codeAt c44 [1,1]) none [4] [4] (f44_kb K) e w) (Env.mk 26 [(1,(VS a b c)),(0,(VS d f g)),(4,(VB h))] []) w
abbrev f44_k4 (K:KT):Exit → YT := kseq P (codeAt c44 [1,1,0]) (codeAt c44 [1,1,1]) none [4] [4] (f44_kb K)
abbrev f44_k5 (K:KT):Exit → YT := kseq P (codeAt c44 [1,1,0,0]) (codeAt c44 [1,1,0,1]) none [] [4] (f44_k4 K)
abbrev f44_k6 (K:KT):Exit → YT := kblock 0 (f44_k4 K)
def f44_lp1 (K:KT) (Y1:YT) (e:Env) (w:World):Prop := Join (fun e w => CS P (codeAt c44 [1,1,0,1,0,0]) none [13,1,0,4,12] [4] (kloop [13,1,0,4,12] Y1 (f44_k6 K)) e w) e w
abbrev f44_kl1 (K:KT) (Y1:YT):Exit → YT := kloop [13,1,0,4,12] Y1 (f44_k6 K)
def f44_lb1 (a:Int) (b:Option Addr) (c d:Nat) (f:Option Addr) (g h:Nat) (i:Bool) (j:Int) (w:World) (K:KT) (Y1:YT):Prop := Join (fun e w => CS P (codeAt c44 [1,1,0,1,0,0]) none [13,1,0,4,12] [4] (f44_kl1 K Y1) e w) (Env.mk 26 [(13,(VI a)),(1,(VS b c d)),(0,(VS f g h)),(4,(VB i)),(12,(VI j))] []) w
abbrev f44_k7 (K:KT) (Y1:YT):Exit → YT := kseq P (codeAt c44 [1,1,0,1,0,0,0]) (codeAt c44 [1,1,0,1,0,0,1]) none [13,1,0,4,12] [4] (f44_kl1 K Y1)
abbrev f44_k8 (K:KT) (Y1:YT):Exit → YT := kseq P (codeAt c44 [1,1,0,1,0,0,1,0]) (codeAt c44 [1,1,0,1,0,0,1,1]) none [13,1,0,4,12] [4] (f44_kl1 K Y1)
def f44_s2 (a:Option Addr) (b c:Nat) (d:Option Addr) (f g:Nat) (h i:Int) (j:Bool) (w:World) (K:KT) (Y1:YT):Prop := Join (fun e w => CS P (codeAt c44 [1,1,0,1,0,0,1,1]) none [13,1,0,4,12] [4] (f44_kl1 K Y1) e w) (Env.mk 26 [(1,(VS a b c)),(0,(VS d f g)),(12,(VI h)),(13,(VI i)),(4,(VB j))] []) w
abbrev f44_k9 (K:KT) (Y1:YT):Exit → YT := kseq P (codeAt c44 [1,1,0,1,0,0,1,1,0]) (codeAt c44 [1,1,0,1,0,0,1,1,1]) none [13,1,0,4,12] [4] (f44_kl1 K Y1)
abbrev f44_k10 (K:KT) (Y1:YT):Exit → YT := kblock 1 (f44_k9 K Y1)
abbrev f44_k11 (K:KT) (Y1:YT):Exit → YT := kseq P (codeAt c44 [1,1,0,1,0,0,1,1,0,0,0]) (codeAt c44 [1,1,0,1,0,0,1,1,0,0,1]) none [1,0,4,12,13] [4,1,0,12,13] (f44_k10 K Y1)
abbrev f44_k12 (K:KT) (Y1:YT):Exit → YT := kseq P (codeAt c44 [1,1,0,1,0,0,1,1,0,0,1,0]) (codeAt c44 [1,1,0,1,0,0,1,1,0,0,1,1]) none [1,0,4,12,13] [4,1,0,12,13] (f44_k10 K Y1)
abbrev f44_k13 (K:KT) (Y1:YT):Exit → YT := kseq P (codeAt c44 [1,1,0,1,0,0,1,1,0,0,1,1,0,0]) (codeAt c44 [1,1,0,1,0,0,1,1,0,0,1,1,0,1]) none [1,0,4,12,13] [4,1,0,12,13] (f44_k10 K Y1)
def f44_s3 (a:Option Addr) (b c:Nat) (d:Option Addr) (f g:Nat) (h:Bool) (i j:Int) (w:World) (K:KT) (Y1:YT):Prop := Join (fun e w => CS P (codeAt c44 [1,1,0,1,0,0,1,1,1]) none [13,1,0,4,12] [4] (f44_kl1 K Y1) e w) (Env.mk 26 [(1,(VS a b c)),(0,(VS d f g)),(4,(VB h)),(12,(VI i)),(13,(VI j))] []) w
theorem f44_s3_eq (a:Option Addr) (b c:Nat) (d:Option Addr) (e f:Nat) (g:Bool) (h i:Int) (w:World) (K:KT) (Y1:YT):f44_s3 a b c d e f g h i w K Y1 = (Y1 (Env.mk 26 [(13,(Value.int .i64 (IntKind.wrap .i64 ((i:Int) + 1)))),(1,(Value.slice a b c)),(0,(Value.slice d e f)),(4,(Value.bool g)),(12,(Value.int .i64 h))] []) w) := by kernel_rfl
theorem f44_s2_eq (b:Option Addr) (c f:Nat) (d:Option Addr) (e g:Nat) (h a:Int) (i:Bool) (w:World) (K:KT) (Y1:YT):f44_s2 b c f d e g h a i w K Y1 = (optS d (fun m => 0 ≤ (a:Int) ∧ (a:Int) < (e:Nat) ∧ optS b (fun n => 0 ≤ (a:Int) ∧ (a:Int) < (c:Nat) ∧ LdA 3 (m.add (Int.toNat a * 3)) w.drew (fun j => LdA 3 (n.add (Int.toNat a * 3)) w.drew (fun k => ∃ l:Bool,(∀ wq,(do eqGuard .neq 85 (.tmp 19) (.tmp 23) (Value.agg j) (Value.agg k); binOp .neq 85 (Value.agg j) (Value.agg k):Sem Value).run P wq = .ok (Value.bool l) wq) ∧ BIf l (K (Value.bool false) w.drew) (f44_s3 b c f d e g i h a w.drew K Y1)))))) := by kernel_rfl
def f44_s4 (w:World) (K:KT):Prop := Join (fun e w => CS P (codeAt c44 [1,1,1]) none [4] [4] (f44_kb K) e w) (Env.mk 26 [] []) w
abbrev f44_k14 (K:KT):Exit → YT := kseq P (codeAt c44 [1,1,1,0]) (codeAt c44 [1,1,1,1]) none [4] [4] (f44_kb K)
theorem f44_s4_eq (w:World) (K:KT):f44_s4 w K = (K (Value.bool true) w) := by kernel_rfl
theorem f44_lb1_eq (a:Int) (c:Option Addr) (d e:Nat) (f:Option Addr) (g h:Nat) (i:Bool) (b:Int) (w:World) (K:KT) (Y1:YT):f44_lb1 a c d e f g h i b w K Y1 = (BIf (decide ((a:Int) < b)) (f44_s2 c d e f g h b a i w K Y1) (f44_s4 w K)) := by kernel_rfl
theorem f44_s0_eq (d:Option Addr) (e f:Nat) (a:Option Addr) (b c:Nat) (g:Bool) (w:World) (K:KT):f44_s0 d e f a b c g w K = (∃ h:Int,(∀ wq,Ext w wq → (Builtin.len_ #[81] 3 [(Value.slice a b c)].toArray).run P wq = .ok (Value.int .i64 h) wq) ∧ LoopE (f44_lp1 K) (Env.mk 26 [(13,(Value.int .i64 0)),(1,(Value.slice d e f)),(0,(Value.slice a b c)),(4,(Value.bool g)),(12,(Value.int .i64 h))] []) w) := by kernel_rfl
theorem f44_eq (a:Option Addr) (b c:Nat) (d:Option Addr) (e f:Nat) (w:World) (K:KT):f44 a b c d e f w K = (∃ g:Int,(∀ wq,Ext w wq → (Builtin.len_ #[81] 3 [(Value.slice a b c)].toArray).run P wq = .ok (Value.int .i64 g) wq) ∧ ∃ h:Int,(∀ wq,Ext w wq → (Builtin.len_ #[81] 3 [(Value.slice d e f)].toArray).run P wq = .ok (Value.int .i64 h) wq) ∧ BIf ((g:Int) != h) (K (Value.bool false) w) (f44_s0 d e f a b c false w K)) := by kernel_rfl
theorem c44_eq:Go.Proofs.Try.f44.body = some c44 := by kernel_rfl
theorem f44_un (a:Option Addr) (b c:Nat) (d:Option Addr) (e f:Nat) (w:World) (K:KT):f44 a b c d e f w K = CS P c44 none (resT Go.Proofs.Try.f44.results.toList) (resT Go.Proofs.Try.f44.results.toList) (bodyK P Go.Proofs.Try.f44.results.toList K) (env0 Go.Proofs.Try.f44.ntmps [(Value.slice a b c),(Value.slice d e f)]) w := by kernel_rfl
theorem f44_ok (a:Option Addr) (b c:Nat) (d:Option Addr) (e f:Nat) (w:World) (K:KT) (h:f44 a b c d e f w K):CallL P 44 [(Value.slice a b c),(Value.slice d e f)] w K := calls_of_CS Go.Proofs.Try.func44 c44_eq (Eq.mp (f44_un a b c d e f w K) h)
/-! 45 slices.Clone[[]candling.api.Event,candling.api.Event] -/
noncomputable def c45:Code := match Go.Proofs.Try.f45.body with
  | some c => c
  | none => .skip
noncomputable def rs45:List ResultVar := Go.Proofs.Try.f45.results.toList
abbrev f45_kb (K:KT):Exit → YT := bodyK P rs45 K
def f45 (a:Option Addr) (b c:Nat) (w:World) (K:KT):Prop := CS P c45 none [2] [2] (f45_kb K) (env0 8 [(VS a b c)]) w
abbrev f45_k0 (K:KT):Exit → YT := kseq P (codeAt c45 [0]) (codeAt c45 [1]) none [2] [2] (f45_kb K)
abbrev f45_k1 (K:KT):Exit → YT := kseq P (codeAt c45 [1,0]) (codeAt c45 [1,1]) none [2] [2] (f45_kb K)
abbrev f45_k2 (K:KT):Exit → YT := kseq P (codeAt c45 [1,0,0]) (codeAt c45 [1,0,1]) none [0] [2] (f45_k1 K)
abbrev f45_k3 (K:KT):Exit → YT := kseq P (codeAt c45 [1,0,1,0,0]) (codeAt c45 [1,0,1,0,1]) none [0] [2] (f45_k1 K)
def f45_s0 (a:Option Addr) (b c:Nat) (w:World) (K:KT):Prop := Join (fun e w => CS P (codeAt c45 [1,1]) none [2] [2] (f45_kb K) e w) (Env.mk 8 [(0,(VS a b c))] []) w
abbrev f45_k4 (K:KT):Exit → YT := kseq P (codeAt c45 [1,1,0]) (codeAt c45 [1,1,1]) none [2] [2] (f45_kb K)
theorem f45_s0_eq (a:Option Addr) (b c:Nat) (w:World) (K:KT):f45_s0 a b c w K = (∃ (d:Option Addr) (e f:Nat),∃ g:World,(Instr.buildSlice 22 0 ([]:List (Nat × Value)).toArray).run P w = .ok (Value.slice d e f) g ∧ ∃ (h:Option Addr) (i j:Nat),∃ k:World,(Builtin.append_ #[22,22] 22 [(Value.slice d e f),(Value.slice a b c)].toArray).run P g = .ok (Value.slice h i j) k ∧ K (Value.slice h i j) k) := by kernel_rfl
theorem f45_eq (a:Option Addr) (b c:Nat) (w:World) (K:KT):f45 a b c w K = (BIf a.isNone (K (Value.slice none 0 0) w) (f45_s0 a b c w K)) := by kernel_rfl
theorem c45_eq:Go.Proofs.Try.f45.body = some c45 := by kernel_rfl
theorem f45_un (a:Option Addr) (b c:Nat) (w:World) (K:KT):f45 a b c w K = CS P c45 none (resT Go.Proofs.Try.f45.results.toList) (resT Go.Proofs.Try.f45.results.toList) (bodyK P Go.Proofs.Try.f45.results.toList K) (env0 Go.Proofs.Try.f45.ntmps [(Value.slice a b c)]) w := by kernel_rfl
theorem f45_ok (a:Option Addr) (b c:Nat) (w:World) (K:KT) (h:f45 a b c w K):CallL P 45 [(Value.slice a b c)] w K := calls_of_CS Go.Proofs.Try.func45 c45_eq (Eq.mp (f45_un a b c w K) h)
end Go.Fx.Try
