/- A part of the proof. -/
import Derived.Test.YtamciedmojpjaaaGreatKaYi
import Derived.KernelRfl
import Derived.Test.YtamciedmojpjaaaGreatKdYi
import Derived.Test.YtamciedmojpjaaaGreatKbYi
import Derived.Test.YtamciedmojpjaaaGreatKcYi
import Derived.Sort.AssemblyPlain
import Derived.Shelf.SlSortCmp.Xorshift
namespace Go.Fx.Tryz
set_option maxRecDepth 100000
open Go Go.Fx
noncomputable def c23:Code:=match Go.Proofs.Tryz.f23.body with
 | some c=>c
 | none=>.skip
noncomputable def rs23:List ResultVar:=Go.Proofs.Tryz.f23.results.toList
abbrev f23_kb (K:KT):Exit→YT:=bodyK P rs23 K
def f23 (s0a:Option Addr) (s0l:Nat) (s0c:Nat) (x1:Int) (w:World) (K:KT):Prop:=CS P c23 none [4,5] [4,5] (f23_kb K) (env0 39 [(Value.slice s0a s0l s0c),(Value.int .u32 x1)]) w
def f23_s0 (x9:Int) (s10a:Option Addr) (s10l:Nat) (s10c:Nat) (s11a:Option Addr) (s11l:Nat) (s11c:Nat) (x12:Int) (w:World) (K:KT):Prop:=Join (fun e w=>CS P (codeAt c23 [1,1]) none [4,5] [4,5] (f23_kb K) e w) (Env.mk 39 [(1,(Value.int .u32 x9)),(0,(Value.slice s10a s10l s10c)),(4,(Value.slice s11a s11l s11c)),(5,(Value.int .i64 x12))] []) w
abbrev f23_k6 (K:KT):Exit→YT:=kseq P (codeAt c23 [1,1,1,0]) (codeAt c23 [1,1,1,1]) none [4,5] [4,5] (f23_kb K)
abbrev f23_k8 (K:KT):Exit→YT:=kblock 0 (f23_k6 K)
def f23_lp1 (K:KT) (Y1:YT) (e:Env) (w:World):Prop:=Join (fun e w=>CS P (codeAt c23 [1,1,1,0,1,0,0]) none [22,8,1,0,4,5,21] [4,5,8] (kloop [22,8,1,0,4,5,21] Y1 (f23_k8 K)) e w) e w
abbrev f23_kl1 (K:KT) (Y1:YT):Exit→YT:=kloop [22,8,1,0,4,5,21] Y1 (f23_k8 K)
def f23_lb1 (x14:Int) (s15a:Option Addr) (s15l:Nat) (s15c:Nat) (x16:Int) (s17a:Option Addr) (s17l:Nat) (s17c:Nat) (s18a:Option Addr) (s18l:Nat) (s18c:Nat) (x19:Int) (x20:Int) (w:World) (K:KT) (Y1:YT):Prop:=Join (fun e w=>CS P (codeAt c23 [1,1,1,0,1,0,0]) none [22,8,1,0,4,5,21] [4,5,8] (f23_kl1 K Y1) e w) (Env.mk 39 [(22,(Value.int .i64 x14)),(8,(Value.slice s15a s15l s15c)),(1,(Value.int .u32 x16)),(0,(Value.slice s17a s17l s17c)),(4,(Value.slice s18a s18l s18c)),(5,(Value.int .i64 x19)),(21,(Value.int .i64 x20))] []) w
def f23_s2 (x21:Int) (s22a:Option Addr) (s22l:Nat) (s22c:Nat) (s23a:Option Addr) (s23l:Nat) (s23c:Nat) (x24:Int) (x25:Int) (x26:Int) (s27a:Option Addr) (s27l:Nat) (s27c:Nat) (w:World) (K:KT) (Y1:YT):Prop:=Join (fun e w=>CS P (codeAt c23 [1,1,1,0,1,0,0,1,1]) none [22,8,1,0,4,5,21] [4,5,8] (f23_kl1 K Y1) e w) (Env.mk 39 [(1,(Value.int .u32 x21)),(0,(Value.slice s22a s22l s22c)),(4,(Value.slice s23a s23l s23c)),(5,(Value.int .i64 x24)),(21,(Value.int .i64 x25)),(22,(Value.int .i64 x26)),(8,(Value.slice s27a s27l s27c))] []) w
def f23_s3 (s42a:Option Addr) (s42l:Nat) (s42c:Nat) (x43:Int) (s44a:Option Addr) (s44l:Nat) (s44c:Nat) (s45a:Option Addr) (s45l:Nat) (s45c:Nat) (x46:Int) (x47:Int) (x48:Int) (w:World) (K:KT) (Y1:YT):Prop:=Join (fun e w=>CS P (codeAt c23 [1,1,1,0,1,0,0,1,1,1]) none [22,8,1,0,4,5,21] [4,5,8] (f23_kl1 K Y1) e w) (Env.mk 39 [(8,(Value.slice s42a s42l s42c)),(1,(Value.int .u32 x43)),(0,(Value.slice s44a s44l s44c)),(4,(Value.slice s45a s45l s45c)),(5,(Value.int .i64 x46)),(21,(Value.int .i64 x47)),(22,(Value.int .i64 x48))] []) w
theorem f23_s3_eq (s42a:Option Addr) (s42l:Nat) (s42c:Nat) (x43:Int) (s44a:Option Addr) (s44l:Nat) (s44c:Nat) (s45a:Option Addr) (s45l:Nat) (s45c:Nat) (x46:Int) (x47:Int) (x48:Int) (w:World) (K:KT) (Y1:YT):f23_s3 s42a s42l s42c x43 s44a s44l s44c s45a s45l s45c x46 x47 x48 w K Y1=(Y1 (Env.mk 39 [(22,(Value.int .i64 (IntKind.wrap .i64 ((x48:Int)+1)))),(8,(Value.slice s42a s42l s42c)),(1,(Value.int .u32 x43)),(0,(Value.slice s44a s44l s44c)),(4,(Value.slice s45a s45l s45c)),(5,(Value.int .i64 x46)),(21,(Value.int .i64 x47))] []) w):=by kernel_rfl
theorem f23_s2_eq (x21:Int) (s22a:Option Addr) (s22l:Nat) (s22c:Nat) (s23a:Option Addr) (s23l:Nat) (s23c:Nat) (x24:Int) (x25:Int) (x26:Int) (s27a:Option Addr) (s27l:Nat) (s27c:Nat) (w:World) (K:KT) (Y1:YT):f23_s2 x21 s22a s22l s22c s23a s23l s23c x24 x25 x26 s27a s27l s27c w K Y1=(CallL P 60 [(Value.slice s22a s22l s22c),(Value.int .i64 x26),(Value.int .u32 x21)] w (fun r28 w29=>∃ cs30:Array Value,∃ b31:Bool,r28=(Value.tuple [(Value.agg cs30),(Value.bool b31)].toArray)∧NewC (zcells P 97) 97 w29 (fun n32 w33=>StA 5 (Addr.mk n32 0 none) cs30 w33 (fun w34=>BIf b31 (LdA 5 (Addr.mk n32 0 none) w34 (fun cs35=>sizesAre 5 [(Value.agg cs35)]∧NewC (([(Value.agg cs35)].map fun (v:Value)=>v.cells.toList).flatten.toArray) 97 w34 (fun n39 w37=>∃ (s40a:Option Addr) (s40l s40c:Nat),∃ w41:World,(Builtin.append_ #[74,74] 74 [(Value.slice s27a s27l s27c),(Value.slice (some (Addr.mk n39 0 none)) 1 1)].toArray).run P w37=.ok (Value.slice s40a s40l s40c) w41∧f23_s3 s40a s40l s40c x21 s22a s22l s22c s23a s23l s23c x24 x25 x26 w41 K Y1))) (f23_s3 s27a s27l s27c x21 s22a s22l s22c s23a s23l s23c x24 x25 x26 w34 K Y1))))):=by kernel_rfl
def f23_s4 (s49a:Option Addr) (s49l:Nat) (s49c:Nat) (w:World) (K:KT):Prop:=Join (fun e w=>CS P (codeAt c23 [1,1,1,1]) none [4,5] [4,5] (f23_kb K) e w) (Env.mk 39 [(8,(Value.slice s49a s49l s49c))] []) w
theorem f23_s4_eq (s49a:Option Addr) (s49l:Nat) (s49c:Nat) (w:World) (K:KT):f23_s4 s49a s49l s49c w K=(K (Value.tuple [(Value.slice s49a s49l s49c),(Value.int .i64 0)].toArray) w):=by kernel_rfl
theorem f23_lb1_eq (x14:Int) (s15a:Option Addr) (s15l:Nat) (s15c:Nat) (x16:Int) (s17a:Option Addr) (s17l:Nat) (s17c:Nat) (s18a:Option Addr) (s18l:Nat) (s18c:Nat) (x19:Int) (x20:Int) (w:World) (K:KT) (Y1:YT):f23_lb1 x14 s15a s15l s15c x16 s17a s17l s17c s18a s18l s18c x19 x20 w K Y1=(BIf (decide ((x14:Int) < x20)) (f23_s2 x16 s17a s17l s17c s18a s18l s18c x19 x20 x14 s15a s15l s15c w K Y1) (f23_s4 s15a s15l s15c w K)):=by kernel_rfl
theorem f23_s0_eq (x9:Int) (s10a:Option Addr) (s10l:Nat) (s10c:Nat) (s11a:Option Addr) (s11l:Nat) (s11c:Nat) (x12:Int) (w:World) (K:KT):f23_s0 x9 s10a s10l s10c s11a s11l s11c x12 w K=(∃ x13:Int,(∀ wq,Ext w wq→(Builtin.len_ #[22] 3 [(Value.slice s10a s10l s10c)].toArray).run P wq=.ok (Value.int .i64 x13) wq)∧LoopE (f23_lp1 K) (Env.mk 39 [(22,(Value.int .i64 0)),(8,(Value.slice none 0 0)),(1,(Value.int .u32 x9)),(0,(Value.slice s10a s10l s10c)),(4,(Value.slice s11a s11l s11c)),(5,(Value.int .i64 x12)),(21,(Value.int .i64 x13))] []) w):=by kernel_rfl
theorem f23_eq (s0a:Option Addr) (s0l:Nat) (s0c:Nat) (x1:Int) (w:World) (K:KT):f23 s0a s0l s0c x1 w K=(CallL P 59 [(Value.slice s0a s0l s0c)] w (fun r2 w3=>∃ cs4:Array Value,∃ x5:Int,r2=(Value.tuple [(Value.agg cs4),(Value.int .i64 x5)].toArray)∧NewC (zcells P 141) 141 w3 (fun n6 w7=>StA 3 (Addr.mk n6 0 none) cs4 w7 (fun w8=>BIf ((x5:Int) != 0) (K (Value.tuple [(Value.slice none 0 0),(Value.int .i64 x5)].toArray) w8) (f23_s0 x1 s0a s0l s0c none 0 0 0 w8 K))))):=by kernel_rfl
theorem c23_eq:Go.Proofs.Tryz.f23.body=some c23:=by kernel_rfl
theorem f23_un (s0a:Option Addr) (s0l:Nat) (s0c:Nat) (x1:Int) (w:World) (K:KT):f23 s0a s0l s0c x1 w K=CS P c23 none (resT Go.Proofs.Tryz.f23.results.toList) (resT Go.Proofs.Tryz.f23.results.toList) (bodyK P Go.Proofs.Tryz.f23.results.toList K) (env0 Go.Proofs.Tryz.f23.ntmps [(Value.slice s0a s0l s0c),(Value.int .u32 x1)]) w:=by kernel_rfl
theorem f23_ok (s0a:Option Addr) (s0l:Nat) (s0c:Nat) (x1:Int) (w:World) (K:KT) (h:f23 s0a s0l s0c x1 w K):CallL P 23 [(Value.slice s0a s0l s0c),(Value.int .u32 x1)] w K:=calls_of_CS Go.Proofs.Tryz.func23 c23_eq (Eq.mp (f23_un s0a s0l s0c x1 w K) h)
noncomputable def c24:Code:=match Go.Proofs.Tryz.f24.body with
 | some c=>c
 | none=>.skip
noncomputable def rs24:List ResultVar:=Go.Proofs.Tryz.f24.results.toList
abbrev f24_kb (K:KT):Exit→YT:=bodyK P rs24 K
def f24 (s0a:Option Addr) (s0l:Nat) (s0c:Nat) (x1:Int) (w:World) (K:KT):Prop:=CS P c24 none [4,5] [4,5] (f24_kb K) (env0 38 [(Value.slice s0a s0l s0c),(Value.int .u32 x1)]) w
def f24_s0 (s6a:Option Addr) (s6l:Nat) (s6c:Nat) (x7:Int) (s8a:Option Addr) (s8l:Nat) (s8c:Nat) (x9:Int) (w:World) (K:KT):Prop:=Join (fun e w=>CS P (codeAt c24 [1,1]) none [4,5] [4,5] (f24_kb K) e w) (Env.mk 38 [(0,(Value.slice s6a s6l s6c)),(1,(Value.int .u32 x7)),(4,(Value.slice s8a s8l s8c)),(5,(Value.int .i64 x9))] []) w
abbrev f24_k6 (K:KT):Exit→YT:=kseq P (codeAt c24 [1,1,1,0]) (codeAt c24 [1,1,1,1]) none [4,5] [4,5] (f24_kb K)
abbrev f24_k8 (K:KT):Exit→YT:=kblock 0 (f24_k6 K)
def f24_lp1 (K:KT) (Y1:YT) (e:Env) (w:World):Prop:=Join (fun e w=>CS P (codeAt c24 [1,1,1,0,1,0,0]) none [8,0,7,1,4,5] [4,5,7] (kloop [8,0,7,1,4,5] Y1 (f24_k8 K)) e w) e w
abbrev f24_kl1 (K:KT) (Y1:YT):Exit→YT:=kloop [8,0,7,1,4,5] Y1 (f24_k8 K)
def f24_lb1 (x16:Int) (s17a:Option Addr) (s17l:Nat) (s17c:Nat) (s18a:Option Addr) (s18l:Nat) (s18c:Nat) (x19:Int) (s20a:Option Addr) (s20l:Nat) (s20c:Nat) (x21:Int) (w:World) (K:KT) (Y1:YT):Prop:=Join (fun e w=>CS P (codeAt c24 [1,1,1,0,1,0,0]) none [8,0,7,1,4,5] [4,5,7] (f24_kl1 K Y1) e w) (Env.mk 38 [(8,(Value.int .i64 x16)),(0,(Value.slice s17a s17l s17c)),(7,(Value.slice s18a s18l s18c)),(1,(Value.int .u32 x19)),(4,(Value.slice s20a s20l s20c)),(5,(Value.int .i64 x21))] []) w
def f24_s2 (s23a:Option Addr) (s23l:Nat) (s23c:Nat) (x24:Int) (s25a:Option Addr) (s25l:Nat) (s25c:Nat) (x26:Int) (x27:Int) (s28a:Option Addr) (s28l:Nat) (s28c:Nat) (w:World) (K:KT) (Y1:YT):Prop:=Join (fun e w=>CS P (codeAt c24 [1,1,1,0,1,0,0,1]) none [8,0,7,1,4,5] [4,5,7] (f24_kl1 K Y1) e w) (Env.mk 38 [(0,(Value.slice s23a s23l s23c)),(1,(Value.int .u32 x24)),(4,(Value.slice s25a s25l s25c)),(5,(Value.int .i64 x26)),(8,(Value.int .i64 x27)),(7,(Value.slice s28a s28l s28c))] []) w
def f24_s3 (s45a:Option Addr) (s45l:Nat) (s45c:Nat) (s46a:Option Addr) (s46l:Nat) (s46c:Nat) (x47:Int) (s48a:Option Addr) (s48l:Nat) (s48c:Nat) (x49:Int) (x50:Int) (w:World) (K:KT) (Y1:YT):Prop:=Join (fun e w=>CS P (codeAt c24 [1,1,1,0,1,0,0,1,1]) none [8,0,7,1,4,5] [4,5,7] (f24_kl1 K Y1) e w) (Env.mk 38 [(0,(Value.slice s45a s45l s45c)),(7,(Value.slice s46a s46l s46c)),(1,(Value.int .u32 x47)),(4,(Value.slice s48a s48l s48c)),(5,(Value.int .i64 x49)),(8,(Value.int .i64 x50))] []) w
theorem f24_s3_eq (s45a:Option Addr) (s45l:Nat) (s45c:Nat) (s46a:Option Addr) (s46l:Nat) (s46c:Nat) (x47:Int) (s48a:Option Addr) (s48l:Nat) (s48c:Nat) (x49:Int) (x50:Int) (w:World) (K:KT) (Y1:YT):f24_s3 s45a s45l s45c s46a s46l s46c x47 s48a s48l s48c x49 x50 w K Y1=(Y1 (Env.mk 38 [(8,(Value.int .i64 (IntKind.wrap .i64 ((x50:Int)+1)))),(0,(Value.slice s45a s45l s45c)),(7,(Value.slice s46a s46l s46c)),(1,(Value.int .u32 x47)),(4,(Value.slice s48a s48l s48c)),(5,(Value.int .i64 x49))] []) w):=by kernel_rfl
theorem f24_s2_eq (s23a:Option Addr) (s23l:Nat) (s23c:Nat) (x24:Int) (s25a:Option Addr) (s25l:Nat) (s25c:Nat) (x26:Int) (x27:Int) (s28a:Option Addr) (s28l:Nat) (s28c:Nat) (w:World) (K:KT) (Y1:YT):f24_s2 s23a s23l s23c x24 s25a s25l s25c x26 x27 s28a s28l s28c w K Y1=(optS s23a (fun a29=>0≤(x27:Int)∧(x27:Int) < (s23l:Nat)∧LdA 6 (a29.add (Int.toNat x27 * 6)) w (fun cs30=>CallL P 61 [(Value.agg cs30),(Value.int .u32 x24)] w (fun r31 w32=>∃ b33:Bool,r31=(Value.bool b33)∧BIf b33 (optS s23a (fun a34=>0≤(x27:Int)∧(x27:Int) < (s23l:Nat)∧LdA 6 (a34.add (Int.toNat x27 * 6)) w32 (fun cs35=>CallL P 62 [(Value.agg cs35),(Value.int .i64 x27)] w32 (fun r36 w37=>∃ cs38:Array Value,r36=(Value.agg cs38)∧sizesAre 5 [(Value.agg cs38)]∧NewC (([(Value.agg cs38)].map fun (v:Value)=>v.cells.toList).flatten.toArray) 97 w37 (fun n42 w40=>∃ (s43a:Option Addr) (s43l s43c:Nat),∃ w44:World,(Builtin.append_ #[74,74] 74 [(Value.slice s28a s28l s28c),(Value.slice (some (Addr.mk n42 0 none)) 1 1)].toArray).run P w40=.ok (Value.slice s43a s43l s43c) w44∧f24_s3 s23a s23l s23c s43a s43l s43c x24 s25a s25l s25c x26 x27 w44 K Y1))))) (f24_s3 s23a s23l s23c s28a s28l s28c x24 s25a s25l s25c x26 x27 w32 K Y1))))):=by kernel_rfl
def f24_s4 (s51a:Option Addr) (s51l:Nat) (s51c:Nat) (w:World) (K:KT):Prop:=Join (fun e w=>CS P (codeAt c24 [1,1,1,1]) none [4,5] [4,5] (f24_kb K) e w) (Env.mk 38 [(7,(Value.slice s51a s51l s51c))] []) w
theorem f24_s4_eq (s51a:Option Addr) (s51l:Nat) (s51c:Nat) (w:World) (K:KT):f24_s4 s51a s51l s51c w K=(K (Value.tuple [(Value.slice s51a s51l s51c),(Value.int .i64 0)].toArray) w):=by kernel_rfl
theorem f24_lb1_eq (x16:Int) (s17a:Option Addr) (s17l:Nat) (s17c:Nat) (s18a:Option Addr) (s18l:Nat) (s18c:Nat) (x19:Int) (s20a:Option Addr) (s20l:Nat) (s20c:Nat) (x21:Int) (w:World) (K:KT) (Y1:YT):f24_lb1 x16 s17a s17l s17c s18a s18l s18c x19 s20a s20l s20c x21 w K Y1=(∃ x22:Int,(∀ wq,Ext w wq→(Builtin.len_ #[22] 3 [(Value.slice s17a s17l s17c)].toArray).run P wq=.ok (Value.int .i64 x22) wq)∧BIf (decide ((x16:Int) < x22)) (f24_s2 s17a s17l s17c x19 s20a s20l s20c x21 x16 s18a s18l s18c w K Y1) (f24_s4 s18a s18l s18c w K)):=by kernel_rfl
theorem f24_s0_eq (s6a:Option Addr) (s6l:Nat) (s6c:Nat) (x7:Int) (s8a:Option Addr) (s8l:Nat) (s8c:Nat) (x9:Int) (w:World) (K:KT):f24_s0 s6a s6l s6c x7 s8a s8l s8c x9 w K=(∃ (s14a:Option Addr) (s14l s14c:Nat),∃ w15:World,(Instr.buildSlice 74 0 ([]:List (Nat × Value)).toArray).run P w=.ok (Value.slice s14a s14l s14c) w15∧LoopE (f24_lp1 K) (Env.mk 38 [(8,(Value.int .i64 0)),(0,(Value.slice s6a s6l s6c)),(7,(Value.slice s14a s14l s14c)),(1,(Value.int .u32 x7)),(4,(Value.slice s8a s8l s8c)),(5,(Value.int .i64 x9))] []) w15):=by kernel_rfl
theorem f24_eq (s0a:Option Addr) (s0l:Nat) (s0c:Nat) (x1:Int) (w:World) (K:KT):f24 s0a s0l s0c x1 w K=(CallL P 17 [(Value.slice s0a s0l s0c)] w (fun r2 w3=>∃ cs4:Array Value,r2=(Value.agg cs4)∧∃ x5:Int,cs4[19]?=some (Value.int .i64 x5)∧BIf ((x5:Int) != 0) (K (Value.tuple [(Value.slice none 0 0),(Value.int .i64 x5)].toArray) w3) (f24_s0 s0a s0l s0c x1 none 0 0 0 w3 K))):=by kernel_rfl
theorem c24_eq:Go.Proofs.Tryz.f24.body=some c24:=by kernel_rfl
theorem f24_un (s0a:Option Addr) (s0l:Nat) (s0c:Nat) (x1:Int) (w:World) (K:KT):f24 s0a s0l s0c x1 w K=CS P c24 none (resT Go.Proofs.Tryz.f24.results.toList) (resT Go.Proofs.Tryz.f24.results.toList) (bodyK P Go.Proofs.Tryz.f24.results.toList K) (env0 Go.Proofs.Tryz.f24.ntmps [(Value.slice s0a s0l s0c),(Value.int .u32 x1)]) w:=by kernel_rfl
theorem f24_ok (s0a:Option Addr) (s0l:Nat) (s0c:Nat) (x1:Int) (w:World) (K:KT) (h:f24 s0a s0l s0c x1 w K):CallL P 24 [(Value.slice s0a s0l s0c),(Value.int .u32 x1)] w K:=calls_of_CS Go.Proofs.Tryz.func24 c24_eq (Eq.mp (f24_un s0a s0l s0c x1 w K) h)
noncomputable def c25:Code:=match Go.Proofs.Tryz.f25.body with
 | some c=>c
 | none=>.skip
noncomputable def rs25:List ResultVar:=Go.Proofs.Tryz.f25.results.toList
abbrev f25_kb (K:KT):Exit→YT:=bodyK P rs25 K
def f25 (s0a:Option Addr) (s0l:Nat) (s0c:Nat) (w:World) (K:KT):Prop:=CS P c25 none [2,3] [2,3] (f25_kb K) (env0 51 [(Value.slice s0a s0l s0c)]) w
def f25_s0 (a16:Addr) (a17:Addr) (s18a:Option Addr) (s18l:Nat) (s18c:Nat) (w:World) (K:KT):Prop:=Join (fun e w=>CS P (codeAt c25 [1,1]) none [2,3] [2,3] (f25_kb K) e w) (Env.mk 51 [(2,(Value.pointer (some a16))),(3,(Value.pointer (some a17))),(0,(Value.slice s18a s18l s18c))] []) w
abbrev f25_k6 (K:KT):Exit→YT:=kseq P (codeAt c25 [1,1,1,0]) (codeAt c25 [1,1,1,1]) none [2,3] [2,3] (f25_kb K)
abbrev f25_k8 (K:KT):Exit→YT:=kblock 0 (f25_k6 K)
def f25_lp1 (K:KT) (Y1:YT) (e:Env) (w:World):Prop:=Join (fun e w=>CS P (codeAt c25 [1,1,1,0,1,0,0]) none [2,3,6,24,22,23] [2,3,6] (kloop [2,3,6,24,22,23] Y1 (f25_k8 K)) e w) e w
abbrev f25_kl1 (K:KT) (Y1:YT):Exit→YT:=kloop [2,3,6,24,22,23] Y1 (f25_k8 K)
def f25_lb1 (a25:Addr) (a26:Addr) (a27:Addr) (x28:Int) (s29a:Option Addr) (s29l:Nat) (s29c:Nat) (x30:Int) (d:List Deferred) (w:World) (K:KT) (Y1:YT):Prop:=Join (fun e w=>CS P (codeAt c25 [1,1,1,0,1,0,0]) none [2,3,6,24,22,23] [2,3,6] (f25_kl1 K Y1) e w) (Env.mk 51 [(2,(Value.pointer (some a25))),(3,(Value.pointer (some a26))),(6,(Value.pointer (some a27))),(24,(Value.int .i64 x28)),(22,(Value.slice s29a s29l s29c)),(23,(Value.int .i64 x30))] d) w
def f25_s2 (a31:Addr) (a32:Addr) (a33:Addr) (s34a:Option Addr) (s34l:Nat) (s34c:Nat) (x35:Int) (x36:Int) (d:List Deferred) (w:World) (K:KT) (Y1:YT):Prop:=Join (fun e w=>CS P (codeAt c25 [1,1,1,0,1,0,0,1,1]) none [2,3,6,24,22,23] [2,3,6] (f25_kl1 K Y1) e w) (Env.mk 51 [(2,(Value.pointer (some a31))),(3,(Value.pointer (some a32))),(6,(Value.pointer (some a33))),(22,(Value.slice s34a s34l s34c)),(23,(Value.int .i64 x35)),(24,(Value.int .i64 x36))] d) w
abbrev f25_k11 (K:KT) (Y1:YT):Exit→YT:=kseq P (codeAt c25 [1,1,1,0,1,0,0,1,1,0]) (codeAt c25 [1,1,1,0,1,0,0,1,1,1]) none [2,3,6,24,22,23] [2,3,6] (f25_kl1 K Y1)
abbrev f25_k12 (K:KT) (Y1:YT):Exit→YT:=kblock 1 (f25_k11 K Y1)
def f25_s3 (a48:Addr) (a49:Addr) (a50:Addr) (s51a:Option Addr) (s51l:Nat) (s51c:Nat) (x52:Int) (x53:Int) (d:List Deferred) (w:World) (K:KT) (Y1:YT):Prop:=Join (fun e w=>CS P (codeAt c25 [1,1,1,0,1,0,0,1,1,1]) none [2,3,6,24,22,23] [2,3,6] (f25_kl1 K Y1) e w) (Env.mk 51 [(2,(Value.pointer (some a48))),(3,(Value.pointer (some a49))),(6,(Value.pointer (some a50))),(22,(Value.slice s51a s51l s51c)),(23,(Value.int .i64 x52)),(24,(Value.int .i64 x53))] d) w
theorem f25_s3_eq (a48:Addr) (a49:Addr) (a50:Addr) (s51a:Option Addr) (s51l:Nat) (s51c:Nat) (x52:Int) (x53:Int) (d:List Deferred) (w:World) (K:KT) (Y1:YT):f25_s3 a48 a49 a50 s51a s51l s51c x52 x53 d w K Y1=(Y1 (Env.mk 51 [(2,(Value.pointer (some a48))),(3,(Value.pointer (some a49))),(6,(Value.pointer (some a50))),(24,(Value.int .i64 (IntKind.wrap .i64 ((x53:Int)+1)))),(22,(Value.slice s51a s51l s51c)),(23,(Value.int .i64 x52))] d) w):=by kernel_rfl
def f25_s4 (a54:Addr) (a55:Addr) (a56:Addr) (s57a:Option Addr) (s57l:Nat) (s57c:Nat) (x58:Int) (x59:Int) (a60:Addr) (d:List Deferred) (w:World) (K:KT) (Y1:YT):Prop:=Join (fun e w=>CS P (codeAt c25 [1,1,1,0,1,0,0,1,1,0,0,1,1]) none [2,3,6,22,23,24] [2,3,6,22,23,24] (f25_k12 K Y1) e w) (Env.mk 51 [(3,(Value.pointer (some a54))),(2,(Value.pointer (some a55))),(6,(Value.pointer (some a56))),(22,(Value.slice s57a s57l s57c)),(23,(Value.int .i64 x58)),(24,(Value.int .i64 x59)),(8,(Value.pointer (some a60)))] d) w
abbrev f25_k18 (K:KT) (Y1:YT):Exit→YT:=kblock 2 (f25_k12 K Y1)
def f25_rd5 (a66:Addr) (a67:Addr) (a68:Addr) (s69a:Option Addr) (s69l:Nat) (s69c:Nat) (x70:Int) (x71:Int) (d:List Deferred) (l:Nat) (R:LoopState→Option Code→Loop) (post:Option Code→World→Prop) (args:List Value) (W:World):Prop:=args.length=1∧CS P (codeAt c25 [1,1,1,0,1,0,0,1,1,0,0,1,1,1,0,0]) (some l) [3,2,6,12] [] (kround P (codeAt c25 [1,1,1,0,1,0,0,1,1,0,0,1,1,1,0,1]) l R post) { putParams (Env.mk 51 [(3,(Value.pointer (some a66))),(2,(Value.pointer (some a67))),(6,(Value.pointer (some a68))),(22,(Value.slice s69a s69l s69c)),(23,(Value.int .i64 x70)),(24,(Value.int .i64 x71))] d) [41] args with d:=[] } W
abbrev f25_ka5 (l:Nat) (R:LoopState→Option Code→Loop) (post:Option Code→World→Prop):Exit→YT:=kround P (codeAt c25 [1,1,1,0,1,0,0,1,1,0,0,1,1,1,0,1]) l R post
def f25_ra5 (a66:Addr) (a67:Addr) (a68:Addr) (s69a:Option Addr) (s69l:Nat) (s69c:Nat) (x70:Int) (x71:Int) (x72:Int) (w:World) (l:Nat) (R:LoopState→Option Code→Loop) (post:Option Code→World→Prop):Prop:=CS P (codeAt c25 [1,1,1,0,1,0,0,1,1,0,0,1,1,1,0,0]) (some l) [3,2,6,12] [] (f25_ka5 l R post) (Env.mk 51 [(41,(Value.int .u32 x72)),(3,(Value.pointer (some a66))),(2,(Value.pointer (some a67))),(6,(Value.pointer (some a68))),(22,(Value.slice s69a s69l s69c)),(23,(Value.int .i64 x70)),(24,(Value.int .i64 x71))] []) w
def f25_s6 (a73:Addr) (a74:Addr) (a75:Addr) (x76:Int) (w:World) (l:Nat) (R:LoopState→Option Code→Loop) (post:Option Code→World→Prop):Prop:=Join (fun e w=>CS P (codeAt c25 [1,1,1,0,1,0,0,1,1,0,0,1,1,1,0,1]) (some l) [] [] (endS l R post) e w) (Env.mk 51 [(3,(Value.pointer (some a73))),(2,(Value.pointer (some a74))),(6,(Value.pointer (some a75))),(12,(Value.int .u32 x76))] []) w
theorem f25_s6_eq (a73:Addr) (a74:Addr) (a75:Addr) (x76:Int) (w:World) (l:Nat) (R:LoopState→Option Code→Loop) (post:Option Code→World→Prop):f25_s6 a73 a74 a75 x76 w l R post=(∃ m77:Option Nat,w.cell? a75=some (Value.map m77)∧∃ w78:World,(Instr.mapUpdate 35 (Value.map m77) (Value.int .u32 x76) (Value.bool true)).run P w=.ok () w78∧∃ m79:Option Nat,w78.cell? a75=some (Value.map m79)∧∃ x80:Int,(∀ wq,Ext w78 wq→(Builtin.len_ #[35] 3 [(Value.map m79)].toArray).run P wq=.ok (Value.int .i64 x80) wq)∧BIf (decide ((x80:Int) > 20000)) (St1 a74 (Value.slice none 0 0) w78 (fun w81=>St1 a73 (Value.int .i64 2) w81 (fun w82=>w82.heap[l]?=some (.loop (R .busy none))∧post (some .ret) (w82.putObj l (.loop (R .done (some .ret))))))) (w78.heap[l]?=some (.loop (R .busy none))∧post none (w78.putObj l (.loop (R .ready none))))):=by kernel_rfl
theorem f25_ra5_eq (a66:Addr) (a67:Addr) (a68:Addr) (s69a:Option Addr) (s69l:Nat) (s69c:Nat) (x70:Int) (x71:Int) (x72:Int) (w:World) (l:Nat) (R:LoopState→Option Code→Loop) (post:Option Code→World→Prop):f25_ra5 a66 a67 a68 s69a s69l s69c x70 x71 x72 w l R post=(w.heap[l]?=some (.loop (R .ready none))∧f25_s6 a66 a67 a68 x72 (w.putObj l (.loop (R .busy none))) l R post):=by kernel_rfl
theorem f25_rd5_eq (a66:Addr) (a67:Addr) (a68:Addr) (s69a:Option Addr) (s69l:Nat) (s69c:Nat) (x70:Int) (x71:Int) (d:List Deferred) (x72:Int) (w:World) (l:Nat) (R:LoopState→Option Code→Loop) (post:Option Code→World→Prop):f25_rd5 a66 a67 a68 s69a s69l s69c x70 x71 d l R post [(Value.int .u32 x72)] w=([(Value.int .u32 x72)].length=1∧f25_ra5 a66 a67 a68 s69a s69l s69c x70 x71 x72 w l R post):=by kernel_rfl
def f25_rn5 (a66:Addr) (a67:Addr) (a68:Addr) (s69a:Option Addr) (s69l:Nat) (s69c:Nat) (x70:Int) (x71:Int) (d:List Deferred) (w:World) (K:KT) (Y1:YT):Prop:=(f25_k18 K Y1) .normal (Env.mk 51 [(3,(Value.pointer (some a66))),(2,(Value.pointer (some a67))),(6,(Value.pointer (some a68))),(22,(Value.slice s69a s69l s69c)),(23,(Value.int .i64 x70)),(24,(Value.int .i64 x71))] d) w
theorem f25_rn5_eq (a66:Addr) (a67:Addr) (a68:Addr) (s69a:Option Addr) (s69l:Nat) (s69c:Nat) (x70:Int) (x71:Int) (d:List Deferred) (w:World) (K:KT) (Y1:YT):f25_rn5 a66 a67 a68 s69a s69l s69c x70 x71 d w K Y1=(f25_s3 a67 a66 a68 s69a s69l s69c x70 x71 d w K Y1):=by kernel_rfl
def f25_rr5 (a66:Addr) (a67:Addr) (a68:Addr) (s69a:Option Addr) (s69l:Nat) (s69c:Nat) (x70:Int) (x71:Int) (d:List Deferred) (w:World) (K:KT) (Y1:YT):Prop:=(f25_k18 K Y1) .ret (Env.mk 51 [(3,(Value.pointer (some a66))),(2,(Value.pointer (some a67))),(6,(Value.pointer (some a68))),(22,(Value.slice s69a s69l s69c)),(23,(Value.int .i64 x70)),(24,(Value.int .i64 x71))] d) w
theorem f25_rr5_eq (a66:Addr) (a67:Addr) (a68:Addr) (s69a:Option Addr) (s69l:Nat) (s69c:Nat) (x70:Int) (x71:Int) (d:List Deferred) (w:World) (K:KT) (Y1:YT):f25_rr5 a66 a67 a68 s69a s69l s69c x70 x71 d w K Y1=(LeaveS P rs25 (Env.mk 51 [(3,(Value.pointer (some a66))),(2,(Value.pointer (some a67))),(6,(Value.pointer (some a68))),(22,(Value.slice s69a s69l s69c)),(23,(Value.int .i64 x70)),(24,(Value.int .i64 x71))] d) K d w):=by kernel_rfl
theorem f25_s4_eq (a54:Addr) (a55:Addr) (a56:Addr) (s57a:Option Addr) (s57l:Nat) (s57c:Nat) (x58:Int) (x59:Int) (a60:Addr) (d:List Deferred) (w:World) (K:KT) (Y1:YT):f25_s4 a54 a55 a56 s57a s57l s57c x58 x59 a60 d w K Y1=(∃ x61:Int,w.cell? (a60.add 3)=some (Value.int .u32 x61)∧∃ x62:Int,w.cell? (a60.add 5)=some (Value.int .i64 x62)∧CallL P 37 [(Value.int .u32 x61),(Value.int .i64 x62)] w (fun r63 w64=>∃ v65:Value,r63=v65∧RangeC P (f25_k18 K Y1) (Env.mk 51 [(3,(Value.pointer (some a54))),(2,(Value.pointer (some a55))),(6,(Value.pointer (some a56))),(22,(Value.slice s57a s57l s57c)),(23,(Value.int .i64 x58)),(24,(Value.int .i64 x59))] d) w64 v65 (f25_rd5 a54 a55 a56 s57a s57l s57c x58 x59 d))):=by kernel_rfl
theorem f25_s2_eq (a31:Addr) (a32:Addr) (a33:Addr) (s34a:Option Addr) (s34l:Nat) (s34c:Nat) (x35:Int) (x36:Int) (d:List Deferred) (w:World) (K:KT) (Y1:YT):f25_s2 a31 a32 a33 s34a s34l s34c x35 x36 d w K Y1=(optS s34a (fun a37=>0≤(x36:Int)∧(x36:Int) < (s34l:Nat)∧LdA 6 (a37.add (Int.toNat x36 * 6)) w (fun cs38=>NewC (zcells P 45) 45 w (fun n39 w40=>StA 6 (Addr.mk n39 0 none) cs38 w40 (fun w41=>LdA 6 (Addr.mk n39 0 none) w41 (fun cs42=>CallL P 36 [(Value.agg cs42)] w41 (fun r43 w44=>∃ b45:Bool,∃ b46:Bool,∃ b47:Bool,r43=(Value.tuple [(Value.bool b45),(Value.bool b46),(Value.bool b47)].toArray)∧BIf (!b47) (f25_s3 a31 a32 a33 s34a s34l s34c x35 x36 d w44 K Y1) (f25_s4 a32 a31 a33 s34a s34l s34c x35 x36 (Addr.mk n39 0 none) d w44 K Y1)))))))):=by kernel_rfl
def f25_s7 (a83:Addr) (a84:Addr) (a85:Addr) (d:List Deferred) (w:World) (K:KT):Prop:=Join (fun e w=>CS P (codeAt c25 [1,1,1,1]) none [2,3] [2,3] (f25_kb K) e w) (Env.mk 51 [(2,(Value.pointer (some a83))),(3,(Value.pointer (some a84))),(6,(Value.pointer (some a85)))] d) w
theorem f25_s7_eq (a83:Addr) (a84:Addr) (a85:Addr) (d:List Deferred) (w:World) (K:KT):f25_s7 a83 a84 a85 d w K=(∃ m86:Option Nat,w.cell? a85=some (Value.map m86)∧CallL P 46 [(Value.map m86)] w (fun r87 w88=>∃ v89:Value,r87=v89∧CallL P 45 [v89] w88 (fun r90 w91=>∃ (s92a:Option Addr) (s92l s92c:Nat),r90=(Value.slice s92a s92l s92c)∧St1 a83 (Value.slice s92a s92l s92c) w91 (fun w93=>St1 a84 (Value.int .i64 0) w93 (fun w94=>LeaveS P rs25 (Env.mk 51 [(50,(Value.slice s92a s92l s92c)),(49,v89),(48,(Value.map m86)),(2,(Value.pointer (some a83))),(3,(Value.pointer (some a84))),(6,(Value.pointer (some a85)))] d) K d w94))))):=by kernel_rfl
theorem f25_lb1_eq (a25:Addr) (a26:Addr) (a27:Addr) (x28:Int) (s29a:Option Addr) (s29l:Nat) (s29c:Nat) (x30:Int) (d:List Deferred) (w:World) (K:KT) (Y1:YT):f25_lb1 a25 a26 a27 x28 s29a s29l s29c x30 d w K Y1=(BIf (decide ((x28:Int) < x30)) (f25_s2 a25 a26 a27 s29a s29l s29c x30 x28 d w K Y1) (f25_s7 a25 a26 a27 d w K)):=by kernel_rfl
theorem f25_s0_eq (a16:Addr) (a17:Addr) (s18a:Option Addr) (s18l:Nat) (s18c:Nat) (w:World) (K:KT):f25_s0 a16 a17 s18a s18l s18c w K=(NewO (.map #[] 0) w (fun n19 w20=>NewC (zcells P 35) 35 w20 (fun n21 w22=>St1 (Addr.mk n21 0 none) (Value.map (some n19)) w22 (fun w23=>∃ x24:Int,(∀ wq,Ext w23 wq→(Builtin.len_ #[22] 3 [(Value.slice s18a s18l s18c)].toArray).run P wq=.ok (Value.int .i64 x24) wq)∧LoopE (f25_lp1 K) (Env.mk 51 [(2,(Value.pointer (some a16))),(3,(Value.pointer (some a17))),(6,(Value.pointer (some (Addr.mk n21 0 none)))),(24,(Value.int .i64 0)),(22,(Value.slice s18a s18l s18c)),(23,(Value.int .i64 x24))] []) w23)))):=by kernel_rfl
theorem f25_eq (s0a:Option Addr) (s0l:Nat) (s0c:Nat) (w:World) (K:KT):f25 s0a s0l s0c w K=(NewC (zcells P 49) 49 w (fun n1 w2=>NewC (zcells P 40) 40 w2 (fun n3 w4=>CallL P 59 [(Value.slice s0a s0l s0c)] w4 (fun r5 w6=>∃ cs7:Array Value,∃ x8:Int,r5=(Value.tuple [(Value.agg cs7),(Value.int .i64 x8)].toArray)∧NewC (zcells P 141) 141 w6 (fun n9 w10=>StA 3 (Addr.mk n9 0 none) cs7 w10 (fun w11=>BIf ((x8:Int) != 0) (St1 (Addr.mk n1 0 none) (Value.slice none 0 0) w11 (fun w12=>St1 (Addr.mk n3 0 none) (Value.int .i64 x8) w12 (fun w13=>∃ (s14a:Option Addr) (s14l s14c:Nat),w13.cell? (Addr.mk n1 0 none)=some (Value.slice s14a s14l s14c)∧∃ x15:Int,w13.cell? (Addr.mk n3 0 none)=some (Value.int .i64 x15)∧K (Value.tuple [(Value.slice s14a s14l s14c),(Value.int .i64 x15)].toArray) w13))) (f25_s0 (Addr.mk n1 0 none) (Addr.mk n3 0 none) s0a s0l s0c w11 K))))))):=by kernel_rfl
theorem c25_eq:Go.Proofs.Tryz.f25.body=some c25:=by kernel_rfl
theorem f25_un (s0a:Option Addr) (s0l:Nat) (s0c:Nat) (w:World) (K:KT):f25 s0a s0l s0c w K=CS P c25 none (resT Go.Proofs.Tryz.f25.results.toList) (resT Go.Proofs.Tryz.f25.results.toList) (bodyK P Go.Proofs.Tryz.f25.results.toList K) (env0 Go.Proofs.Tryz.f25.ntmps [(Value.slice s0a s0l s0c)]) w:=by kernel_rfl
theorem f25_ok (s0a:Option Addr) (s0l:Nat) (s0c:Nat) (w:World) (K:KT) (h:f25 s0a s0l s0c w K):CallL P 25 [(Value.slice s0a s0l s0c)] w K:=calls_of_CS Go.Proofs.Tryz.func25 c25_eq (Eq.mp (f25_un s0a s0l s0c w K) h)
noncomputable def c27:Code:=match Go.Proofs.Tryz.f27.body with
 | some c=>c
 | none=>.skip
noncomputable def rs27:List ResultVar:=Go.Proofs.Tryz.f27.results.toList
abbrev f27_kb (K:KT):Exit→YT:=bodyK P rs27 K
def f27 (s0a:Option Addr) (s0l:Nat) (s0c:Nat) (x1:Int) (x2:Int) (w:World) (K:KT):Prop:=CS P c27 none [6,7] [6,7] (f27_kb K) (env0 46 [(Value.slice s0a s0l s0c),(Value.int .i64 x1),(Value.int .i64 x2)]) w
def f27_s0 (x10:Int) (x11:Int) (s12a:Option Addr) (s12l:Nat) (s12c:Nat) (a13:Addr) (w:World) (K:KT):Prop:=Join (fun e w=>CS P (codeAt c27 [1,1,1]) none [6,7] [6,7] (f27_kb K) e w) (Env.mk 46 [(2,(Value.int .i64 x10)),(1,(Value.int .i64 x11)),(0,(Value.slice s12a s12l s12c)),(8,(Value.pointer (some a13)))] []) w
abbrev f27_k5 (K:KT):Exit→YT:=kseq P (codeAt c27 [1,1,1,0]) (codeAt c27 [1,1,1,1]) none [6,7] [6,7] (f27_kb K)
def f27_s1 (b14:Bool) (x15:Int) (x16:Int) (s17a:Option Addr) (s17l:Nat) (s17c:Nat) (a18:Addr) (w:World) (K:KT):Prop:=Join (fun e w=>CS P (codeAt c27 [1,1,1,0,1]) none [2,1,0,8] [6,7] (f27_k5 K) e w) (Env.mk 46 [(35,(Value.bool b14)),(2,(Value.int .i64 x15)),(1,(Value.int .i64 x16)),(0,(Value.slice s17a s17l s17c)),(8,(Value.pointer (some a18)))] []) w
def f27_s2 (x19:Int) (x20:Int) (s21a:Option Addr) (s21l:Nat) (s21c:Nat) (a22:Addr) (w:World) (K:KT):Prop:=Join (fun e w=>CS P (codeAt c27 [1,1,1,1]) none [6,7] [6,7] (f27_kb K) e w) (Env.mk 46 [(2,(Value.int .i64 x19)),(1,(Value.int .i64 x20)),(0,(Value.slice s21a s21l s21c)),(8,(Value.pointer (some a22)))] []) w
def f27_s3 (b27:Bool) (x28:Int) (w:World) (K:KT):Prop:=Join (fun e w=>CS P (codeAt c27 [1,1,1,1,1]) none [6,7] [6,7] (f27_kb K) e w) (Env.mk 46 [(6,(Value.bool b27)),(7,(Value.int .i64 x28))] []) w
theorem f27_s3_eq (b27:Bool) (x28:Int) (w:World) (K:KT):f27_s3 b27 x28 w K=(K (Value.tuple [(Value.bool b27),(Value.int .i64 x28)].toArray) w):=by kernel_rfl
theorem f27_s2_eq (x19:Int) (x20:Int) (s21a:Option Addr) (s21l:Nat) (s21c:Nat) (a22:Addr) (w:World) (K:KT):f27_s2 x19 x20 s21a s21l s21c a22 w K=(BIf (decide ((x20:Int) < x19)) (LdA 3 a22 w (fun cs23=>CallL P 63 [(Value.agg cs23),(Value.slice s21a s21l s21c),(Value.int .i64 x20),(Value.int .i64 x19)] w (fun r24 w25=>∃ b26:Bool,r24=(Value.bool b26)∧f27_s3 b26 0 w25 K))) (f27_s3 false 0 w K)):=by kernel_rfl
theorem f27_s1_eq (b14:Bool) (x15:Int) (x16:Int) (s17a:Option Addr) (s17l:Nat) (s17c:Nat) (a18:Addr) (w:World) (K:KT):f27_s1 b14 x15 x16 s17a s17l s17c a18 w K=(BIf b14 (K (Value.tuple [(Value.bool false),(Value.int .i64 1)].toArray) w) (f27_s2 x15 x16 s17a s17l s17c a18 w K)):=by kernel_rfl
theorem f27_s0_eq (x10:Int) (x11:Int) (s12a:Option Addr) (s12l:Nat) (s12c:Nat) (a13:Addr) (w:World) (K:KT):f27_s0 x10 x11 s12a s12l s12c a13 w K=(BIf (decide ((x11:Int) < 0)) (f27_s1 true x10 x11 s12a s12l s12c a13 w K) (∃ x29:Int,(∀ wq,Ext w wq→(Builtin.len_ #[22] 3 [(Value.slice s12a s12l s12c)].toArray).run P wq=.ok (Value.int .i64 x29) wq)∧BIf (decide ((x11:Int)≥x29)) (f27_s1 true x10 x11 s12a s12l s12c a13 w K) (BIf (decide ((x10:Int) < 0)) (f27_s1 true x10 x11 s12a s12l s12c a13 w K) (∃ x30:Int,(∀ wq,Ext w wq→(Builtin.len_ #[22] 3 [(Value.slice s12a s12l s12c)].toArray).run P wq=.ok (Value.int .i64 x30) wq)∧f27_s1 (decide ((x10:Int)≥x30)) x10 x11 s12a s12l s12c a13 w K)))):=by kernel_rfl
theorem f27_eq (s0a:Option Addr) (s0l:Nat) (s0c:Nat) (x1:Int) (x2:Int) (w:World) (K:KT):f27 s0a s0l s0c x1 x2 w K=(CallL P 59 [(Value.slice s0a s0l s0c)] w (fun r3 w4=>∃ cs5:Array Value,∃ x6:Int,r3=(Value.tuple [(Value.agg cs5),(Value.int .i64 x6)].toArray)∧NewC (zcells P 141) 141 w4 (fun n7 w8=>StA 3 (Addr.mk n7 0 none) cs5 w8 (fun w9=>BIf ((x6:Int) != 0) (K (Value.tuple [(Value.bool false),(Value.int .i64 x6)].toArray) w9) (f27_s0 x2 x1 s0a s0l s0c (Addr.mk n7 0 none) w9 K))))):=by kernel_rfl
theorem c27_eq:Go.Proofs.Tryz.f27.body=some c27:=by kernel_rfl
theorem f27_un (s0a:Option Addr) (s0l:Nat) (s0c:Nat) (x1:Int) (x2:Int) (w:World) (K:KT):f27 s0a s0l s0c x1 x2 w K=CS P c27 none (resT Go.Proofs.Tryz.f27.results.toList) (resT Go.Proofs.Tryz.f27.results.toList) (bodyK P Go.Proofs.Tryz.f27.results.toList K) (env0 Go.Proofs.Tryz.f27.ntmps [(Value.slice s0a s0l s0c),(Value.int .i64 x1),(Value.int .i64 x2)]) w:=by kernel_rfl
theorem f27_ok (s0a:Option Addr) (s0l:Nat) (s0c:Nat) (x1:Int) (x2:Int) (w:World) (K:KT) (h:f27 s0a s0l s0c x1 x2 w K):CallL P 27 [(Value.slice s0a s0l s0c),(Value.int .i64 x1),(Value.int .i64 x2)] w K:=calls_of_CS Go.Proofs.Tryz.func27 c27_eq (Eq.mp (f27_un s0a s0l s0c x1 x2 w K) h)
noncomputable def c28:Code:=match Go.Proofs.Tryz.f28.body with
 | some c=>c
 | none=>.skip
noncomputable def rs28:List ResultVar:=Go.Proofs.Tryz.f28.results.toList
abbrev f28_kb (K:KT):Exit→YT:=bodyK P rs28 K
def f28 (s0a:Option Addr) (s0l:Nat) (s0c:Nat) (x1:Int) (x2:Int) (w:World) (K:KT):Prop:=CS P c28 none [6,7] [6,7] (f28_kb K) (env0 42 [(Value.slice s0a s0l s0c),(Value.int .i64 x1),(Value.int .i64 x2)]) w
def f28_s0 (x11:Int) (s12a:Option Addr) (s12l:Nat) (s12c:Nat) (x13:Int) (a14:Addr) (w:World) (K:KT):Prop:=Join (fun e w=>CS P (codeAt c28 [1,1,1]) none [6,7] [6,7] (f28_kb K) e w) (Env.mk 42 [(2,(Value.int .i64 x11)),(0,(Value.slice s12a s12l s12c)),(1,(Value.int .i64 x13)),(8,(Value.pointer (some a14)))] []) w
abbrev f28_k5 (K:KT):Exit→YT:=kseq P (codeAt c28 [1,1,1,0]) (codeAt c28 [1,1,1,1]) none [6,7] [6,7] (f28_kb K)
def f28_s1 (b15:Bool) (x16:Int) (s17a:Option Addr) (s17l:Nat) (s17c:Nat) (x18:Int) (a19:Addr) (w:World) (K:KT):Prop:=Join (fun e w=>CS P (codeAt c28 [1,1,1,0,1]) none [2,0,1,8] [6,7] (f28_k5 K) e w) (Env.mk 42 [(33,(Value.bool b15)),(2,(Value.int .i64 x16)),(0,(Value.slice s17a s17l s17c)),(1,(Value.int .i64 x18)),(8,(Value.pointer (some a19)))] []) w
def f28_s2 (x20:Int) (s21a:Option Addr) (s21l:Nat) (s21c:Nat) (x22:Int) (a23:Addr) (w:World) (K:KT):Prop:=Join (fun e w=>CS P (codeAt c28 [1,1,1,1]) none [6,7] [6,7] (f28_kb K) e w) (Env.mk 42 [(2,(Value.int .i64 x20)),(0,(Value.slice s21a s21l s21c)),(1,(Value.int .i64 x22)),(8,(Value.pointer (some a23)))] []) w
theorem f28_s2_eq (x20:Int) (s21a:Option Addr) (s21l:Nat) (s21c:Nat) (x22:Int) (a23:Addr) (w:World) (K:KT):f28_s2 x20 s21a s21l s21c x22 a23 w K=(LdA 20 a23 w (fun cs24=>∃ x25:Int,(∀ wq,Ext w wq→(Builtin.len_ #[22] 3 [(Value.slice s21a s21l s21c)].toArray).run P wq=.ok (Value.int .i64 x25) wq)∧CallL P 64 [(Value.agg cs24),(Value.int .i64 x22),(Value.int .i64 x25)] w (fun r26 w27=>∃ (s28a:Option Addr) (s28l s28c:Nat),r26=(Value.slice s28a s28l s28c)∧optS s28a (fun a29=>0≤(x20:Int)∧(x20:Int) < (s28l:Nat)∧∃ b30:Bool,w27.cell? (a29.add (Int.toNat x20 * 1))=some (Value.bool b30)∧K (Value.tuple [(Value.bool b30),(Value.int .i64 0)].toArray) w27)))):=by kernel_rfl
theorem f28_s1_eq (b15:Bool) (x16:Int) (s17a:Option Addr) (s17l:Nat) (s17c:Nat) (x18:Int) (a19:Addr) (w:World) (K:KT):f28_s1 b15 x16 s17a s17l s17c x18 a19 w K=(BIf b15 (K (Value.tuple [(Value.bool false),(Value.int .i64 1)].toArray) w) (f28_s2 x16 s17a s17l s17c x18 a19 w K)):=by kernel_rfl
theorem f28_s0_eq (x11:Int) (s12a:Option Addr) (s12l:Nat) (s12c:Nat) (x13:Int) (a14:Addr) (w:World) (K:KT):f28_s0 x11 s12a s12l s12c x13 a14 w K=(BIf (decide ((x13:Int) < 0)) (f28_s1 true x11 s12a s12l s12c x13 a14 w K) (BIf (decide ((x11:Int) < 0)) (f28_s1 true x11 s12a s12l s12c x13 a14 w K) (∃ x31:Int,(∀ wq,Ext w wq→(Builtin.len_ #[22] 3 [(Value.slice s12a s12l s12c)].toArray).run P wq=.ok (Value.int .i64 x31) wq)∧BIf (decide ((x13:Int)≥x31)) (f28_s1 true x11 s12a s12l s12c x13 a14 w K) (∃ x32:Int,(∀ wq,Ext w wq→(Builtin.len_ #[22] 3 [(Value.slice s12a s12l s12c)].toArray).run P wq=.ok (Value.int .i64 x32) wq)∧f28_s1 (decide ((x11:Int)≥x32)) x11 s12a s12l s12c x13 a14 w K)))):=by kernel_rfl
theorem f28_eq (s0a:Option Addr) (s0l:Nat) (s0c:Nat) (x1:Int) (x2:Int) (w:World) (K:KT):f28 s0a s0l s0c x1 x2 w K=(CallL P 17 [(Value.slice s0a s0l s0c)] w (fun r3 w4=>∃ cs5:Array Value,r3=(Value.agg cs5)∧NewC (zcells P 64) 64 w4 (fun n6 w7=>StA 20 (Addr.mk n6 0 none) cs5 w7 (fun w8=>∃ x9:Int,w8.cell? ((Addr.mk n6 0 none).add 19)=some (Value.int .i64 x9)∧BIf ((x9:Int) != 0) (∃ x10:Int,w8.drew.cell? ((Addr.mk n6 0 none).add 19)=some (Value.int .i64 x10)∧K (Value.tuple [(Value.bool false),(Value.int .i64 x10)].toArray) w8.drew) (f28_s0 x2 s0a s0l s0c x1 (Addr.mk n6 0 none) w8 K))))):=by kernel_rfl
theorem c28_eq:Go.Proofs.Tryz.f28.body=some c28:=by kernel_rfl
theorem f28_un (s0a:Option Addr) (s0l:Nat) (s0c:Nat) (x1:Int) (x2:Int) (w:World) (K:KT):f28 s0a s0l s0c x1 x2 w K=CS P c28 none (resT Go.Proofs.Tryz.f28.results.toList) (resT Go.Proofs.Tryz.f28.results.toList) (bodyK P Go.Proofs.Tryz.f28.results.toList K) (env0 Go.Proofs.Tryz.f28.ntmps [(Value.slice s0a s0l s0c),(Value.int .i64 x1),(Value.int .i64 x2)]) w:=by kernel_rfl
theorem f28_ok (s0a:Option Addr) (s0l:Nat) (s0c:Nat) (x1:Int) (x2:Int) (w:World) (K:KT) (h:f28 s0a s0l s0c x1 x2 w K):CallL P 28 [(Value.slice s0a s0l s0c),(Value.int .i64 x1),(Value.int .i64 x2)] w K:=calls_of_CS Go.Proofs.Tryz.func28 c28_eq (Eq.mp (f28_un s0a s0l s0c x1 x2 w K) h)
end Go.Fx.Tryz
namespace Go.Fx.Mo
abbrev opA (L:List Ord) (a:Nat):Ord:=L.getD a default
inductive HB (L:List Ord):Nat→Nat→Prop
 | one {a b:Nat}:a < b→b < L.length→direct (opA L a) (opA L b)=true→HB L a b
 | step {a c b:Nat}:HB L a c→c < b→b < L.length→direct (opA L c) (opA L b)=true→HB L a b
theorem HB.lt {L:List Ord} {a b:Nat} (h:HB L a b):a < b∧b < L.length:=by
 induction h with
 | one h1 h2 _=>exact ⟨h1,h2⟩
 | step _ h1 h2 _ ih=>exact ⟨by omega,h2⟩
theorem HB.trans {L:List Ord} {a b c:Nat} (h1:HB L a b) (h2:HB L b c):HB L a c:=by
 induction h2 with
 | one h3 h4 h5=>exact .step h1 h3 h4 h5
 | step _ h3 h4 h5 ih=>exact .step ih h3 h4 h5
theorem opA_left {L M:List Ord} {a:Nat} (h:a < L.length):opA (L++M) a=opA L a:=by
 unfold opA
 simp [List.getD,List.getElem?_append_left h]
theorem HB.app {L M:List Ord} {a b:Nat} (h:HB L a b):HB (L++M) a b:=by
 induction h with
 | one h1 h2 h3=>exact .one h1 (by simp; omega) (by rw [opA_left (by omega),opA_left h2]; exact h3)
 | step _ h1 h2 h3 ih=>exact .step ih h1 (by simp; omega) (by rw [opA_left (by omega),opA_left h2]; exact h3)
theorem HB.of_app {L M:List Ord} {a b:Nat} (h:HB (L++M) a b) (hb:b < L.length):HB L a b:=by
 induction h with
 | one h1 h2 h3=>exact .one h1 hb (by rw [opA_left (by omega),opA_left hb] at h3; exact h3)
 | step _ h1 h2 h3 ih=>exact .step (ih (by omega)) h1 hb (by rw [opA_left (by omega),opA_left hb] at h3; exact h3)
theorem HB.last {L:List Ord} {a b:Nat} (hb:b < L.length):HB L a b↔∃ c,c < b∧(a=c∨HB L a c)∧direct (opA L c) (opA L b)=true:=by
 constructor
 ·intro h
  cases h with
  | one h1 h2 h3=>exact ⟨a,h1,.inl rfl,h3⟩
  | step h0 h1 h2 h3=>exact ⟨_,h1,.inr h0,h3⟩
 ·rintro ⟨c,h1,rfl | h0,h3⟩
  ·exact .one h1 hb h3
  ·exact .step h0 h1 hb h3
theorem getD_set {l:List Bool} {i j:Nat} (hi:i < l.length):(l.set i true).getD j false=(decide (j=i) || l.getD j false):=by
 simp only [List.getD,List.getElem?_set]
 by_cases h:i=j
 ·subst h; simp [hi]
 ·have:¬ j=i:=fun h'=>h h'.symm
  simp [h,this]
theorem aIn_spec (L:List Ord) (k:Nat):∀ (m j:Nat) (s:List Bool × List Bool),j+m=L.length→s.1.length=L.length→s.2.length=L.length→∀ x,x < L.length→
  ((aIn L k m j s).1.getD x false=(s.1.getD x false || (decide (j≤x) && direct (opA L k) (opA L x))))∧((aIn L k m j s).2.getD x false=(s.2.getD x false || (decide (j≤x) && direct (opA L k) (opA L x))))
 | 0,j,s,hj,h1,h2,x,hx=>by
  have:¬ j≤x:=by omega
  simp [aIn,this]
 | m+1,j,s,hj,h1,h2,x,hx=>by
  unfold aIn
  have hjl:j < L.length:=by omega
  cases hd:direct (L.getD k default) (L.getD j default)
  ·rw [if_neg (by decide)]
   obtain ⟨i1,i2⟩:=aIn_spec L k m (j+1) s (by omega) h1 h2 x hx
   rw [i1,i2]
   have e:(decide (j+1≤x) && direct (opA L k) (opA L x))=(decide (j≤x) && direct (opA L k) (opA L x)):=by
    by_cases hxj:x=j
    ·subst hxj
     rw [show direct (opA L k) (opA L x)=false from hd]; simp
    ·have:(j+1≤x)=(j≤x):=by apply propext; omega
     simp only [this]
   rw [e]; exact ⟨rfl,rfl⟩
  ·rw [if_pos rfl]
   obtain ⟨i1,i2⟩:=aIn_spec L k m (j+1) (s.1.set j true,s.2.set j true) (by omega) (by simp [h1]) (by simp [h2]) x hx
   rw [i1,i2]
   dsimp only
   rw [getD_set (by omega),getD_set (by omega)]
   by_cases hxj:x=j
   ·subst hxj
    rw [show direct (opA L k) (opA L x)=true from hd]; simp
   ·have:(j+1≤x)=(j≤x):=by apply propext; omega
    simp [hxj,this]
theorem aOut_spec (L:List Ord) (i:Nat):∀ (m k:Nat) (s:List Bool × List Bool),k+m=L.length→i≤k→s.1.length=L.length→s.2.length=L.length→
  (∀ x,x < L.length→(s.1.getD x false=true↔∃ c,c < k∧c < x∧(i=c∨HB L i c)∧direct (opA L c) (opA L x)=true))→
  (∀ x,x < L.length→(s.2.getD x false=true↔i=x∨∃ c,c < k∧c < x∧(i=c∨HB L i c)∧direct (opA L c) (opA L x)=true))→
  ∀ x,x < L.length→((aOut L m k s).1.getD x false=true↔HB L i x)
 | 0,k,s,hk,hik,h1,h2,g1,g2,x,hx=>by
  show s.1.getD x false=true↔_
  rw [g1 x hx,HB.last hx]
  constructor
  ·rintro ⟨c,hc1,hc2,hc3,hc4⟩; exact ⟨c,hc2,hc3,hc4⟩
  ·rintro ⟨c,hc2,hc3,hc4⟩; exact ⟨c,by omega,hc2,hc3,hc4⟩
 | m+1,k,s,hk,hik,h1,h2,g1,g2,x,hx=>by
  have hkl:k < L.length:=by omega
  have hrk:s.2.getD k false=true↔i=k∨HB L i k:=by
   rw [g2 k hkl,HB.last hkl]
   constructor
   ·rintro (h | ⟨c,hc1,hc2,hc3,hc4⟩)
    ·exact .inl h
    ·exact .inr ⟨c,hc2,hc3,hc4⟩
   ·rintro (h | ⟨c,hc2,hc3,hc4⟩)
    ·exact .inl h
    ·exact .inr ⟨c,by omega,hc2,hc3,hc4⟩
  have grow:∀ x,(∃ c,c < k+1∧c < x∧(i=c∨HB L i c)∧direct (opA L c) (opA L x)=true)↔(∃ c,c < k∧c < x∧(i=c∨HB L i c)∧direct (opA L c) (opA L x)=true)∨(k < x∧(i=k∨HB L i k)∧direct (opA L k) (opA L x)=true):=by
   intro x
   constructor
   ·rintro ⟨c,hc1,hc2,hc3,hc4⟩
    by_cases hck:c=k
    ·subst hck; exact .inr ⟨hc2,hc3,hc4⟩
    ·exact .inl ⟨c,by omega,hc2,hc3,hc4⟩
   ·rintro (⟨c,hc1,hc2,hc3,hc4⟩ | ⟨h1,h2,h3⟩)
    ·exact ⟨c,by omega,hc2,hc3,hc4⟩
    ·exact ⟨k,by omega,h1,h2,h3⟩
  unfold aOut
  cases hb:s.2.getD k false
  ·have hno:¬ (i=k∨HB L i k):=fun h=>by rw [hrk.2 h] at hb; cases hb
   rw [if_neg (by decide)]
   refine aOut_spec L i m (k+1) s (by omega) (by omega) h1 h2 (fun y hy=>?_) (fun y hy=>?_) x hx
   ·rw [g1 y hy,grow]
    constructor
    ·exact fun h=>.inl h
    ·rintro (h | ⟨_,h,_⟩)
     ·exact h
     ·exact absurd h hno
   ·rw [g2 y hy,grow]
    constructor
    ·rintro (h | h)
     ·exact .inl h
     ·exact .inr (.inl h)
    ·rintro (h | h | ⟨_,h,_⟩)
     ·exact .inl h
     ·exact .inr h
     ·exact absurd h hno
  ·have hyes:=hrk.1 hb
   rw [if_pos rfl]
   have hl:=Go.Fx.Tryz.aIn_len L k (L.length - (k+1)) (k+1) s
   refine aOut_spec L i m (k+1) _ (by omega) (by omega) (hl.1.trans h1) (hl.2.trans h2) (fun y hy=>?_) (fun y hy=>?_) x hx
   ·rw [(aIn_spec L k (L.length - (k+1)) (k+1) s (by omega) h1 h2 y hy).1,Bool.or_eq_true,Bool.and_eq_true,decide_eq_true_iff,g1 y hy,grow]
    constructor
    ·rintro (h | ⟨h,h'⟩)
     ·exact .inl h
     ·exact .inr ⟨by omega,hyes,h'⟩
    ·rintro (h | ⟨h,_,h'⟩)
     ·exact .inl h
     ·exact .inr ⟨by omega,h'⟩
   ·rw [(aIn_spec L k (L.length - (k+1)) (k+1) s (by omega) h1 h2 y hy).2,Bool.or_eq_true,Bool.and_eq_true,decide_eq_true_iff,g2 y hy,grow]
    constructor
    ·rintro ((h | h) | ⟨h,h'⟩)
     ·exact .inl h
     ·exact .inr (.inl h)
     ·exact .inr (.inr ⟨by omega,hyes,h'⟩)
    ·rintro (h | h | ⟨h,_,h'⟩)
     ·exact .inl (.inl h)
     ·exact .inl (.inr h)
     ·exact .inr ⟨by omega,h'⟩
theorem getD_rep (n x:Nat):(List.replicate n false).getD x false=false:=by
 simp only [List.getD,List.getElem?_replicate]
 split <;> rfl
theorem after29_spec {L:List Ord} {i x:Nat} (hi:i < L.length) (hx:x < L.length):(after29 L i).getD x false=true↔HB L i x:=by
 unfold after29
 refine aOut_spec L i _ _ _ (by omega) (Nat.le_refl i) (by simp) (by simp) (fun y hy=>?_) (fun y hy=>?_) x hx
 ·dsimp only
  rw [getD_rep]
  constructor
  ·intro h; cases h
  ·rintro ⟨c,h1,_,rfl | h2,_⟩
   ·omega
   ·have:=h2.lt; omega
 ·dsimp only
  rw [getD_set (by simpa using hi),getD_rep]
  constructor
  ·intro h; simp at h; exact .inl h.symm
  ·rintro (rfl | ⟨c,h1,_,rfl | h2,_⟩)
   ·simp
   ·omega
   ·have:=h2.lt; omega
theorem eIn_spec {l:List Bool} {of:List Int} {i:Int} {many:Nat} (hof:∀ x∈of,0≤x∧x < many):∀ (m b:Nat) (s:List Bool),b+m=of.length→s.length=many→∀ x,x < many→
  ((eIn l of i m b s).getD x false=true↔s.getD x false=true∨∃ c,b≤c∧c < of.length∧l.getD c false=true∧of.getD c 0=(x:Int)∧(x:Int) > i)
 | 0,b,s,hb,hs,x,hx=>by
  show s.getD x false=true↔_
  constructor
  ·exact fun h=>.inl h
  ·rintro (h | ⟨c,h1,h2,_⟩)
   ·exact h
   ·omega
 | m+1,b,s,hb,hs,x,hx=>by
  unfold eIn
  have hbl:b < of.length:=by omega
  have hr:0≤of.getD b 0∧of.getD b 0 < many:=by
   have:of.getD b 0=of[b]:=by simp [List.getD,hbl]
   rw [this]; exact hof _ (List.getElem_mem hbl)
  have split:(∃ c,b≤c∧c < of.length∧l.getD c false=true∧of.getD c 0=(x:Int)∧(x:Int) > i)↔(l.getD b false=true∧of.getD b 0=(x:Int)∧(x:Int) > i)∨(∃ c,b+1≤c∧c < of.length∧l.getD c false=true∧of.getD c 0=(x:Int)∧(x:Int) > i):=by
   constructor
   ·rintro ⟨c,h1,h2,h3⟩
    by_cases hcb:c=b
    ·subst hcb; exact .inl h3
    ·exact .inr ⟨c,by omega,h2,h3⟩
   ·rintro (h | ⟨c,h1,h2,h3⟩)
    ·exact ⟨b,by omega,hbl,h⟩
    ·exact ⟨c,by omega,h2,h3⟩
  rw [split]
  by_cases hc:l.getD b false=true∧of.getD b 0 > i
  ·rw [if_pos hc,eIn_spec hof m (b+1) _ (by omega) (by simp [hs]) x hx,getD_set (by omega),Bool.or_eq_true,decide_eq_true_iff]
   constructor
   ·rintro ((h | h) | h)
    ·exact .inr (.inl ⟨hc.1,by omega,by omega⟩)
    ·exact .inl h
    ·exact .inr (.inr h)
   ·rintro (h | ⟨h1,h2,h3⟩ | h)
    ·exact .inl (.inr h)
    ·exact .inl (.inl (by omega))
    ·exact .inr h
  ·rw [if_neg hc,eIn_spec hof m (b+1) _ (by omega) hs x hx]
   constructor
   ·rintro (h | h)
    ·exact .inl h
    ·exact .inr (.inr h)
   ·rintro (h | ⟨h1,h2,h3⟩ | h)
    ·exact .inl h
    ·exact absurd ⟨h1,by omega⟩ hc
    ·exact .inr h
theorem eOut_spec {r:RR} {i:Int} {many:Nat} (hol:r.of.length=r.L.length) (hof:∀ x∈r.of,0≤x∧x < many):∀ (m a:Nat) (s:List Bool),a+m=r.L.length→s.length=many→∀ x,x < many→
  ((eOut r i m a s).getD x false=true↔s.getD x false=true∨∃ d c,a≤d∧d < r.L.length∧c < r.L.length∧r.of.getD d 0=i∧r.of.getD c 0=(x:Int)∧(x:Int) > i∧HB r.L d c)
 | 0,a,s,ha,hs,x,hx=>by
  show s.getD x false=true↔_
  constructor
  ·exact fun h=>.inl h
  ·rintro (h | ⟨d,c,h1,h2,_⟩)
   ·exact h
   ·omega
 | m+1,a,s,ha,hs,x,hx=>by
  unfold eOut
  have hal:a < r.L.length:=by omega
  have split:(∃ d c,a≤d∧d < r.L.length∧c < r.L.length∧r.of.getD d 0=i∧r.of.getD c 0=(x:Int)∧(x:Int) > i∧HB r.L d c)↔(∃ c,c < r.L.length∧r.of.getD a 0=i∧r.of.getD c 0=(x:Int)∧(x:Int) > i∧HB r.L a c)∨(∃ d c,a+1≤d∧d < r.L.length∧c < r.L.length∧r.of.getD d 0=i∧r.of.getD c 0=(x:Int)∧(x:Int) > i∧HB r.L d c):=by
   constructor
   ·rintro ⟨d,c,h1,h2,h3,h4⟩
    by_cases hda:d=a
    ·subst hda; exact .inl ⟨c,h3,h4⟩
    ·exact .inr ⟨d,c,by omega,h2,h3,h4⟩
   ·rintro (⟨c,h3,h4⟩ | ⟨d,c,h1,h2,h3,h4⟩)
    ·exact ⟨a,c,by omega,hal,h3,h4⟩
    ·exact ⟨d,c,by omega,h2,h3,h4⟩
  rw [split]
  by_cases hc:r.of.getD a 0=i
  ·rw [if_pos hc,eOut_spec hol hof m (a+1) _ (by omega) (by rw [eIn_len]; exact hs) x hx,eIn_spec hof _ 0 s (by omega) hs x hx]
   constructor
   ·rintro ((h | ⟨c,_,h2,h3,h4,h5⟩) | h)
    ·exact .inl h
    ·exact .inr (.inl ⟨c,by omega,hc,h4,h5,(after29_spec hal (by omega)).1 h3⟩)
    ·exact .inr (.inr h)
   ·rintro (h | ⟨c,h2,_,h4,h5,h6⟩ | h)
    ·exact .inl (.inl h)
    ·exact .inl (.inr ⟨c,by omega,by omega,(after29_spec hal h2).2 h6,h4,h5⟩)
    ·exact .inr h
  ·rw [if_neg hc,eOut_spec hol hof m (a+1) _ (by omega) hs x hx]
   constructor
   ·rintro (h | h)
    ·exact .inl h
    ·exact .inr (.inr h)
   ·rintro (h | ⟨c,_,h4,_⟩ | h)
    ·exact .inl h
    ·exact absurd h4 hc
    ·exact .inr h
theorem afterE_spec {r:RR} {i many:Nat} (hol:r.of.length=r.L.length) (hof:∀ x∈r.of,0≤x∧x < many) {x:Nat} (hx:x < many) :
  (afterE r (i:Nat) many).getD x false=true↔∃ d c,d < r.L.length∧c < r.L.length∧r.of.getD d 0=(i:Int)∧r.of.getD c 0=(x:Int)∧i < x∧HB r.L d c:=by
 unfold afterE
 rw [eOut_spec hol hof _ 0 _ (by omega) (by simp) x hx,getD_rep]
 constructor
 ·rintro (h | ⟨d,c,_,h1,h2,h3,h4,h5,h6⟩)
  ·cases h
  ·exact ⟨d,c,h1,h2,h3,h4,by omega,h6⟩
 ·rintro ⟨d,c,h1,h2,h3,h4,h5,h6⟩
  exact .inr ⟨d,c,by omega,h1,h2,h3,h4,by omega,h6⟩
end Go.Fx.Mo
namespace Go.Fx.Mo
section assoc
variable {K V:Type} [DecidableEq K]
theorem look_mem {m:List (K × V)} {k:K} {v:V} (h:look m k=some v):(k,v)∈m:=by
 unfold look at h
 cases hf:m.find? fun p=>p.1 == k with
 | none=>rw [hf] at h; cases h
 | some p=>
  rw [hf] at h
  simp at h
  have h1:=List.find?_some hf
  have h2:=List.mem_of_find?_eq_some hf
  simp at h1
  subst h1; subst h
  exact h2
theorem put_keys (m:List (K × V)) (k:K) (v:V):(put m k v).map (·.1)=if (look m k).isSome then m.map (·.1) else m.map (·.1)++[k]:=by
 unfold put
 cases h:look m k with
 | none=>simp
 | some u=>
  simp only [Option.isSome_some,if_true,List.map_map]
  apply List.map_congr_left
  intro p _
  simp only [Function.comp]
  split <;> rfl
theorem put_nodup {m:List (K × V)} (h:(m.map (·.1)).Nodup) (k:K) (v:V):((put m k v).map (·.1)).Nodup:=by
 rw [put_keys]
 split
 ·exact h
 ·rename_i hn
  have hn:look m k=none:=by simpa using hn
  refine List.nodup_append.2 ⟨h,by simp,fun a ha b hb=>?_⟩
  simp at hb
  subst hb
  rintro rfl
  obtain ⟨p,hp,he⟩:=List.mem_map.1 ha
  exact look_none.1 hn p hp he
theorem putAll_look:∀ (u m:List (K × V)),(u.map (·.1)).Nodup→∀ k,look (putAll m u) k=(look u k).or (look m k)
 | [],m,_,k=>by simp [putAll,look]
 | p::r,m,h,k=>by
  simp only [List.map_cons,List.nodup_cons] at h
  rw [putAll,putAll_look r _ h.2 k,put_look]
  have e:look (p::r) k=if p.1=k then some p.2 else look r k:=by
   unfold look
   rw [List.find?_cons]
   by_cases hk:p.1=k
   ·simp [hk]
   ·have:(p.1 == k)=false:=by simpa using hk
    rw [this,if_neg hk]
  rw [e]
  by_cases hk:k=p.1
  ·subst hk
   have:look r p.1=none:=look_none.2 fun q hq he=>h.1 (List.mem_map.2 ⟨q,hq,he⟩)
   simp [this]
  ·rw [if_neg hk,if_neg (Ne.symm hk)]
end assoc
def CB (c:Clk) (B:Int):Prop:=c.length=8∧∀ t,0≤at0 c t∧at0 c t≤B
theorem CB.mono {c:Clk} {B B':Int} (h:CB c B) (hb:B≤B'):CB c B':=⟨h.1,fun t=>⟨(h.2 t).1,by have:=(h.2 t).2; omega⟩⟩
theorem zeroC_at (t:Int):at0 zeroC t=0:=by
 unfold at0 zeroC
 rw [List.getD_eq_getElem?_getD,List.getElem?_replicate]
 split <;> rfl
theorem CB.zero {B:Int} (h:0≤B):CB zeroC B:=⟨rfl,fun t=>by rw [zeroC_at]; omega⟩
theorem joinC_at {c d:Clk} (hc:c.length=8) (hd:d.length=8) (t:Int):at0 (joinC c d) t=if at0 d t > at0 c t then at0 d t else at0 c t:=by
 unfold at0 joinC
 simp only [List.getD_eq_getElem?_getD,List.getElem?_zipWith]
 by_cases h:t.toNat < 8
 ·rw [List.getElem?_eq_getElem (by omega),List.getElem?_eq_getElem (by omega)]; rfl
 ·rw [List.getElem?_eq_none (by omega),List.getElem?_eq_none (by omega)]; simp
theorem CB.join {c d:Clk} {B:Int} (hc:CB c B) (hd:CB d B):CB (joinC c d) B:=by
 refine ⟨by simp [joinC,hc.1,hd.1],fun t=>?_⟩
 rw [joinC_at hc.1 hd.1]
 have h1:=hc.2 t
 have h2:=hd.2 t
 split <;> omega
theorem join_l {c d:Clk} (hc:c.length=8) (hd:d.length=8) (t:Int):at0 c t≤at0 (joinC c d) t:=by rw [joinC_at hc hd]; split <;> omega
theorem set_at {c:Clk} {i:Nat} (hi:i < c.length) (x t:Int):at0 (c.set i x) t=if t.toNat=i then x else at0 c t:=by
 unfold at0
 simp only [List.getD_eq_getElem?_getD,List.getElem?_set]
 by_cases h:i=t.toNat
 ·simp [h,h ▸ hi]
 ·simp [h,Ne.symm h]
theorem tick_own {e:Ev} {p:Pl} {o:Ord} {B:Int} (h:CB p.own B) (ht:0≤e.th∧e.th < 8) (hB:B < 4611686018427387904) (t:Int):at0 (tick e p o).own t=if t.toNat=e.th.toNat then at0 p.own e.th+1 else at0 p.own t:=by
 have h1:=h.2 e.th
 show at0 (p.own.set e.th.toNat (w64 (at0 p.own e.th+1))) t=_
 rw [set_at (by rw [h.1]; omega),w64_small (by omega) (by omega)]
theorem tick_CB {e:Ev} {p:Pl} {o:Ord} {B:Int} (h:CB p.own B) (ht:0≤e.th∧e.th < 8) (hB:B < 4611686018427387904):CB (tick e p o).own (B+1):=by
 refine ⟨by show (p.own.set _ _).length=8; rw [List.length_set,h.1],fun t=>?_⟩
 rw [tick_own h ht hB]
 have h1:=h.2 e.th
 have h2:=h.2 t
 split <;> omega
theorem release_clock (T:Th) (p:Pl) (x k:Ob):clockOf T (release T p x) k=if k=x then joinC (clockOf T p x) p.own else clockOf T p k:=by
 show (match look (put p.objs x (joinC (clockOf T p x) p.own)) k with | some c=>c | none=>(look T.objs k).getD zeroC)=_
 rw [put_look]
 by_cases hk:k=x
 ·simp [hk]
 ·simp only [hk,if_false]; rfl
theorem refused_th {T:Th} {e:Ev} (h:refused T e=false):0≤e.th∧e.th < 8:=by
 unfold refused at h
 simp only [Bool.or_eq_false_iff,decide_eq_false_iff_not] at h
 omega
theorem perform_objs {T:Th} {e:Ev} {p:Pl} (hn:(p.objs.map (·.1)).Nodup) (k:Ob):(look (perform T e p).objs k).getD zeroC=clockOf T p k:=by
 have:(perform T e p).objs=putAll T.objs p.objs:=by unfold perform; simp only; split <;> split <;> split <;> rfl
 rw [this,putAll_look _ _ hn]
 unfold clockOf
 cases look p.objs k <;> rfl
theorem perform_clocks (T:Th) (e:Ev) (p:Pl):(perform T e p).clocks=if p.fork≥0 then (T.clocks.set e.th.toNat p.own).set p.fork.toNat (joinC (getC (T.clocks.set e.th.toNat p.own) p.fork) p.own) else T.clocks.set e.th.toNat p.own:=by
 unfold perform; simp only; split <;> split <;> split <;> rfl
theorem getC_set {l:List Clk} {i:Nat} (hi:i < l.length) (c:Clk) (u:Int):getC (l.set i c) u=if u.toNat=i then c else getC l u:=by
 unfold getC
 simp only [List.getD_eq_getElem?_getD,List.getElem?_set]
 by_cases h:i=u.toNat
 ·simp [h,h ▸ hi]
 ·simp [h,Ne.symm h]
def edge (u:Int) (o:Ord):Bool:=o.th == u || (o.kind == 5 && o.other == u)
def relK (o:Ord):Bool:=o.kind == 2 || o.kind == 4
def acqK (o:Ord):Bool:=o.kind == 3 || o.kind == 4
theorem direct_is (a b:Ord):direct a b=true↔edge b.th a=true∨(b.kind=6∧edge b.other a=true)∨(acqK b=true∧relK a=true∧a.obj=b.obj):=by
 unfold direct edge relK acqK
 simp only [Bool.or_eq_true,Bool.and_eq_true,beq_iff_eq]
 constructor
 ·rintro (h | ⟨h1,h2⟩ | ⟨⟨h1,h2⟩,h3⟩)
  ·exact .inl h
  ·exact .inr (.inl ⟨h1,h2⟩)
  ·exact .inr (.inr ⟨h2,h1,h3⟩)
 ·rintro (h | ⟨h1,h2⟩ | ⟨h2,h1,h3⟩)
  ·exact .inl h
  ·exact .inr (.inl ⟨h1,h2⟩)
  ·exact .inr (.inr ⟨⟨h1,h2⟩,h3⟩)
def Kn (L:List Ord) (a:Nat) (P:Ord→Bool):Prop:=∃ b,b < L.length∧(a=b∨HB L a b)∧P (opA L b)=true
structure VI (cl:Int→Clk) (ob:Ob→Clk) (L:List Ord) (tk:List Int) (objs:List Ob) (B:Int):Prop where
 len:tk.length=L.length
 th:∀ a,a < L.length→0≤(opA L a).th∧(opA L a).th < 8
 pos:∀ a,a < L.length→1≤tk.getD a 0
 obj:∀ a,a < L.length→relK (opA L a)=true→0≤(opA L a).obj∧(opA L a).obj < objs.length
 T:∀ u,0≤u→u < 8→∀ a,a < L.length→(tk.getD a 0≤at0 (cl u) (opA L a).th↔Kn L a (edge u))
 O:∀ k a,a < L.length→(tk.getD a 0≤at0 (ob k) (opA L a).th↔Kn L a fun o=>relK o && o.obj == (numb objs k:Nat))
 mT:∀ u t,0≤u→u < 8→0≤t→t < 8→at0 (cl u) t≤at0 (cl t) t
 mO:∀ k t,0≤t→t < 8→at0 (ob k) t≤at0 (cl t) t
 cb:∀ u,0≤u→u < 8→CB (cl u) B
 co:∀ k,CB (ob k) B
theorem join_le {c d:Clk} (hc:c.length=8) (hd:d.length=8) (s v:Int):v≤at0 (joinC c d) s↔v≤at0 c s∨v≤at0 d s:=by
 rw [joinC_at hc hd]
 split <;> omega
theorem numb_inj {objs:List Ob} {x k:Ob} (hx:x∈objs) (h:numb objs k=numb objs x):k=x:=by
 have h1:objs.idxOf x < objs.length:=List.idxOf_lt_length_of_mem hx
 unfold numb at h
 have h2:objs.idxOf k < objs.length:=by omega
 have e1:objs[objs.idxOf k]=k:=List.getElem_idxOf h2
 have e2:objs[objs.idxOf x]=x:=List.getElem_idxOf h1
 rw [← e1,← e2]
 simp only [h]
theorem VI.op {cl cl':Int→Clk} {ob ob':Ob→Clk} {L:List Ord} {tk:List Int} {objs:List Ob} {B:Int} (h:VI cl ob L tk objs B) {o:Ord} {own own0:Clk} {x:Ob}
  (ht:0≤o.th∧o.th < 8)
  (hown0:∀ s v,v≤at0 own0 s↔v≤at0 (cl o.th) s∨(acqK o=true∧v≤at0 (ob x) s)∨(o.kind=6∧v≤at0 (cl o.other) s))
  (hown:∀ s,0≤s→s < 8→at0 own s=if s=o.th then at0 own0 o.th+1 else at0 own0 s) (hownB:CB own (B+1))
  (hj:o.kind=6→0≤o.other∧o.other < 8) (hf:o.kind=5→0≤o.other∧o.other < 8∧o.other≠o.th)
  (hx:relK o=true∨acqK o=true→o.obj=(numb objs x:Nat)∧x∈objs)
  (hcl:∀ u,0≤u→u < 8→cl' u=if u=o.th then own else if o.kind=5∧u=o.other then joinC (cl u) own else cl u)
  (hob:∀ k,ob' k=if relK o=true∧k=x then joinC (ob k) own else ob k) :
  VI cl' ob' (L++[o]) (tk++[at0 own o.th]) objs (B+1):=by
 have hlen:(L++[o]).length=L.length+1:=by simp
 have oN:opA (L++[o]) L.length=o:=by unfold opA; simp [List.getD]
 have oL:∀ a,a < L.length→opA (L++[o]) a=opA L a:=fun a ha=>opA_left ha
 have tN:(tk++[at0 own o.th]).getD L.length 0=at0 own o.th:=by rw [← h.len]; simp [List.getD]
 have tL:∀ a,a < L.length→(tk++[at0 own o.th]).getD a 0=tk.getD a 0:=fun a ha=>by
  have:a < tk.length:=by rw [h.len]; exact ha
  simp [List.getD,List.getElem?_append_left this]
 have split:∀ a,a < L.length+1→a < L.length∨a=L.length:=fun a ha=>by omega
 have ownT:at0 own o.th=at0 own0 o.th+1:=by rw [hown _ ht.1 ht.2,if_pos rfl]
 have clown:∀ s,at0 (cl o.th) s≤at0 own0 s:=fun s=>(hown0 s _).2 (.inl (Int.le_refl _))
 have hbL:∀ a c,c < L.length→(HB (L++[o]) a c↔HB L a c):=fun a c hc=>⟨fun h=>h.of_app hc,fun h=>h.app⟩
 have K0:∀ a,a < L.length→(tk.getD a 0≤at0 own0 (opA L a).th↔HB (L++[o]) a L.length):=by
  intro a ha
  rw [hown0,h.T _ ht.1 ht.2 a ha,HB.last (by omega)]
  constructor
  ·rintro (⟨b,hb,h1,h2⟩ | ⟨h0,h1⟩ | ⟨h0,h1⟩)
   ·exact ⟨b,hb,h1.imp id fun h=>h.app,by rw [oN,oL b hb,direct_is]; exact .inl h2⟩
   ·obtain ⟨b,hb,h1,h2⟩:=(h.O x a ha).1 h1
    rw [Bool.and_eq_true,beq_iff_eq] at h2
    exact ⟨b,hb,h1.imp id fun h=>h.app,by rw [oN,oL b hb,direct_is]; exact .inr (.inr ⟨h0,h2.1,h2.2.trans (hx (.inr h0)).1.symm⟩)⟩
   ·obtain ⟨h3,h4⟩:=hj h0
    obtain ⟨b,hb,h1,h2⟩:=(h.T _ h3 h4 a ha).1 h1
    exact ⟨b,hb,h1.imp id fun h=>h.app,by rw [oN,oL b hb,direct_is]; exact .inr (.inl ⟨h0,h2⟩)⟩
  ·rintro ⟨b,hb,h1,h2⟩
   have h1:a=b∨HB L a b:=h1.imp id fun h=>h.of_app hb
   rw [oN,oL b hb,direct_is] at h2
   rcases h2 with h2 | ⟨h0,h2⟩ | ⟨h0,h2,h3⟩
   ·exact .inl ⟨b,hb,h1,h2⟩
   ·obtain ⟨h3,h4⟩:=hj h0
    exact .inr (.inr ⟨h0,(h.T _ h3 h4 a ha).2 ⟨b,hb,h1,h2⟩⟩)
   ·refine .inr (.inl ⟨h0,(h.O x a ha).2 ⟨b,hb,h1,?_⟩⟩)
    rw [Bool.and_eq_true,beq_iff_eq]
    exact ⟨h2,h3.trans (hx (.inr h0)).1⟩
 have selfT:∀ a,a < L.length→tk.getD a 0≤at0 (cl (opA L a).th) (opA L a).th:=fun a ha=>
  (h.T _ (h.th a ha).1 (h.th a ha).2 a ha).2 ⟨a,ha,.inl rfl,by simp [edge]⟩
 have K1:∀ a,a < L.length→(tk.getD a 0≤at0 own (opA L a).th↔HB (L++[o]) a L.length):=by
  intro a ha
  rw [hown _ (h.th a ha).1 (h.th a ha).2]
  by_cases he:(opA L a).th=o.th
  ·rw [if_pos he]
   have h1:=selfT a ha
   rw [he] at h1
   have h2:=clown o.th
   have h3:tk.getD a 0≤at0 own0 (opA L a).th:=by rw [he]; omega
   constructor
   ·exact fun _=>(K0 a ha).1 h3
   ·intro _; rw [he] at h3; omega
  ·rw [if_neg he]; exact K0 a ha
 have knL:∀ a P,a < L.length→(Kn (L++[o]) a P↔Kn L a P∨(HB (L++[o]) a L.length∧P o=true)):=by
  intro a P ha
  constructor
  ·rintro ⟨b,hb,h1,h2⟩
   rcases split b (by omega) with hb | rfl
   ·rw [oL b hb] at h2
    exact .inl ⟨b,hb,h1.imp id fun h=>h.of_app hb,h2⟩
   ·rw [oN] at h2
    rcases h1 with h1 | h1
    ·omega
    ·exact .inr ⟨h1,h2⟩
  ·rintro (⟨b,hb,h1,h2⟩ | ⟨h1,h2⟩)
   ·exact ⟨b,by omega,h1.imp id fun h=>h.app,by rw [oL b hb]; exact h2⟩
   ·exact ⟨L.length,by omega,.inr h1,by rw [oN]; exact h2⟩
 have knN:∀ P,(Kn (L++[o]) L.length P↔P o=true):=by
  intro P
  constructor
  ·rintro ⟨b,hb,h1,h2⟩
   rcases h1 with rfl | h1
   ·rw [oN] at h2; exact h2
   ·have:=h1.lt; omega
  ·exact fun h2=>⟨L.length,by omega,.inl rfl,by rw [oN]; exact h2⟩
 have lowT:∀ u,0≤u→u < 8→¬ at0 own o.th≤at0 (cl u) o.th:=fun u h0 h8=>by
  have:=h.mT u o.th h0 h8 ht.1 ht.2
  have:=clown o.th
  omega
 have lowO:∀ k,¬ at0 own o.th≤at0 (ob k) o.th:=fun k=>by
  have:=h.mO k o.th ht.1 ht.2
  have:=clown o.th
  omega
 have own0M:∀ s,0≤s→s < 8→at0 own0 s≤at0 (cl s) s:=by
  intro s h0 h8
  rcases (hown0 s (at0 own0 s)).1 (Int.le_refl _) with h1 | ⟨_,h1⟩ | ⟨h6,h1⟩
  ·have:=h.mT o.th s ht.1 ht.2 h0 h8; omega
  ·have:=h.mO x s h0 h8; omega
  ·have:=h.mT o.other s (hj h6).1 (hj h6).2 h0 h8; omega
 have hL8:own.length=8:=hownB.1
 have clM:∀ s,0≤s→s < 8→at0 (cl s) s≤at0 (cl' s) s:=by
  intro s h0 h8
  rw [hcl s h0 h8]
  split
  ·rename_i he; rw [he,ownT]; have:=clown o.th; omega
  ·split
   ·exact join_l (h.cb s h0 h8).1 hL8 s
   ·exact Int.le_refl _
 have ownM:∀ s,0≤s→s < 8→at0 own s≤at0 (cl' s) s:=by
  intro s h0 h8
  by_cases he:s=o.th
  ·rw [hcl s h0 h8,if_pos he]; exact Int.le_refl _
  ·rw [hown s h0 h8,if_neg he]
   have:=own0M s h0 h8
   have:=clM s h0 h8
   omega
 refine ⟨by simp [h.len],fun a ha=>?_,fun a ha=>?_,fun a ha hr=>?_,fun u h0 h8 a ha=>?_,fun k a ha=>?_,fun u t h0 h8 t0 t8=>?_,fun k t t0 t8=>?_,fun u h0 h8=>?_,fun k=>?_⟩
 ·rcases split a (by omega) with ha | rfl
  ·rw [oL a ha]; exact h.th a ha
  ·rw [oN]; exact ht
 ·rcases split a (by omega) with ha | rfl
  ·rw [tL a ha]; exact h.pos a ha
  ·rw [tN,ownT]
   have:=(h.cb o.th ht.1 ht.2).2 o.th
   have:=clown o.th
   omega
 ·rcases split a (by omega) with ha | rfl
  ·rw [oL a ha] at hr ⊢; exact h.obj a ha hr
  ·rw [oN] at hr ⊢
   obtain ⟨h1,h2⟩:=hx (.inl hr)
   have:objs.idxOf x < objs.length:=List.idxOf_lt_length_of_mem h2
   unfold numb at h1
   omega
 ·-- threads
  rw [hcl u h0 h8]
  by_cases hu:u=o.th
  ·rw [if_pos hu]
   rcases split a (by omega) with ha | rfl
   ·rw [tL a ha,oL a ha,K1 a ha,knL a _ ha]
    constructor
    ·exact fun hh=>.inr ⟨hh,by simp [edge,hu]⟩
    ·rintro (hh | ⟨hh,_⟩)
     ·refine (K0 a ha).1 ?_
      have:=(h.T u h0 h8 a ha).2 hh
      rw [hu] at this
      have:=clown (opA L a).th
      omega
     ·exact hh
   ·rw [tN,oN,knN]
    simp [edge,hu]
  ·rw [if_neg hu]
   by_cases hfk:o.kind=5∧u=o.other
   ·rw [if_pos hfk]
    have heo:edge u o=true:=by simp [edge,hfk.1,hfk.2]
    rw [join_le (h.cb u h0 h8).1 hL8]
    rcases split a (by omega) with ha | rfl
    ·rw [tL a ha,oL a ha,K1 a ha,h.T u h0 h8 a ha,knL a _ ha]
     simp [heo]
    ·rw [tN,oN,knN]
     simp [heo]
   ·rw [if_neg hfk]
    have heo:edge u o=false:=by
     unfold edge
     rw [Bool.or_eq_false_iff,Bool.and_eq_false_iff]
     refine ⟨by simpa using fun h=>hu h.symm,?_⟩
     by_cases h5:o.kind=5
     ·right; simpa using fun h=>hfk ⟨h5,h.symm⟩
     ·left; simpa using h5
    rcases split a (by omega) with ha | rfl
    ·rw [tL a ha,oL a ha,h.T u h0 h8 a ha,knL a _ ha]
     simp [heo]
    ·rw [tN,oN,knN,heo]
     simp only [Bool.false_eq_true,iff_false]
     exact lowT u h0 h8
 ·-- objects
  rw [hob k]
  by_cases hk:relK o=true∧k=x
  ·rw [if_pos hk]
   have hP:(relK o && o.obj == (numb objs k:Nat))=true:=by rw [hk.1,hk.2,(hx (.inl hk.1)).1]; simp
   rw [join_le (h.co k).1 hL8]
   rcases split a (by omega) with ha | rfl
   ·rw [tL a ha,oL a ha,K1 a ha,h.O k a ha,knL a _ ha]
    simp only [hP,and_true]
   ·rw [tN,oN,knN]
    simp [hP]
  ·rw [if_neg hk]
   have hP:(relK o && o.obj == (numb objs k:Nat))=false:=by
    rw [Bool.and_eq_false_iff]
    by_cases hr:relK o=true
    ·right
     obtain ⟨h1,h2⟩:=hx (.inl hr)
     rw [beq_eq_false_iff_ne,h1]
     intro he
     exact hk ⟨hr,numb_inj h2 (by omega)⟩
    ·left; simpa using hr
   rcases split a (by omega) with ha | rfl
   ·rw [tL a ha,oL a ha,h.O k a ha,knL a _ ha]
    simp only [hP,Bool.false_eq_true,and_false,or_false]
   ·rw [tN,oN,knN]
    simp only [hP,Bool.false_eq_true,iff_false]
    exact lowO k
 ·have h1:=clM t t0 t8
  have h2:=ownM t t0 t8
  rw [hcl u h0 h8]
  split
  ·exact h2
  ·split
   ·have h3:=h.mT u t h0 h8 t0 t8
    rw [joinC_at (h.cb u h0 h8).1 hL8]
    split <;> omega
   ·have h3:=h.mT u t h0 h8 t0 t8
    omega
 ·have h1:=clM t t0 t8
  have h2:=ownM t t0 t8
  have h3:=h.mO k t t0 t8
  rw [hob k]
  split
  ·rw [joinC_at (h.co k).1 hL8]
   split <;> omega
  ·omega
 ·rw [hcl u h0 h8]
  have h1:=(h.cb u h0 h8).mono (by omega:B≤B+1)
  split
  ·exact hownB
  ·split
   ·exact h1.join hownB
   ·exact h1
 ·rw [hob k]
  have h1:=(h.co k).mono (by omega:B≤B+1)
  split
  ·exact h1.join hownB
  ·exact h1
theorem VI.come {cl:Int→Clk} {ob:Ob→Clk} {L:List Ord} {tk:List Int} {objs:List Ob} {B:Int} (h:VI cl ob L tk objs B) {y:Ob} (hy:y ∉ objs):VI cl ob L tk (objs++[y]) B:=by
 refine ⟨h.len,h.th,h.pos,fun a ha hr=>?_,h.T,fun k a ha=>?_,h.mT,h.mO,h.cb,h.co⟩
 ·have h1:=h.obj a ha hr
  refine ⟨h1.1,?_⟩
  have h2:=h1.2
  have h3:(objs++[y]).length=objs.length+1:=by simp
  rw [h3]
  omega
 ·rw [h.O k a ha]
  have key:∀ b,b < L.length→relK (opA L b)=true→((opA L b).obj == (numb objs k:Nat))=((opA L b).obj == (numb (objs++[y]) k:Nat)):=by
   intro b hb hr
   obtain ⟨h1,h2⟩:=h.obj b hb hr
   unfold numb
   rw [List.idxOf_append]
   by_cases hk:k∈objs
   ·rw [if_pos hk]
   ·rw [if_neg hk,List.idxOf_eq_length hk]
    have e1:((opA L b).obj == (objs.length:Int))=false:=by rw [beq_eq_false_iff_ne]; omega
    have e2:((opA L b).obj == ((List.idxOf k [y]+objs.length:Nat):Int))=false:=by rw [beq_eq_false_iff_ne]; omega
    rw [e1,e2]
  constructor
  ·rintro ⟨b,hb,h1,h2⟩
   rw [Bool.and_eq_true] at h2
   exact ⟨b,hb,h1,by rw [Bool.and_eq_true,← key b hb h2.1]; exact h2⟩
  ·rintro ⟨b,hb,h1,h2⟩
   rw [Bool.and_eq_true] at h2
   exact ⟨b,hb,h1,by rw [Bool.and_eq_true,key b hb h2.1]; exact h2⟩
theorem VI.congr {cl cl':Int→Clk} {ob ob':Ob→Clk} {L:List Ord} {tk:List Int} {objs:List Ob} {B B':Int} (h:VI cl ob L tk objs B) (h1:∀ u,0≤u→u < 8→cl' u=cl u) (h2:∀ k,ob' k=ob k) (hB:B≤B'):VI cl' ob' L tk objs B':=by
 have e:ob'=ob:=funext h2
 subst e
 refine ⟨h.len,h.th,h.pos,h.obj,fun u h0 h8 a ha=>by rw [h1 u h0 h8]; exact h.T u h0 h8 a ha,h.O,fun u t h0 h8 t0 t8=>by rw [h1 u h0 h8,h1 t t0 t8]; exact h.mT u t h0 h8 t0 t8,fun k t t0 t8=>by rw [h1 t t0 t8]; exact h.mO k t t0 t8,fun u h0 h8=>by rw [h1 u h0 h8]; exact (h.cb u h0 h8).mono hB,fun k=>(h.co k).mono hB⟩
def enumO:Nat→List Ob→List (Ob × Int)
 | _,[]=>[]
 | k,x::t=>(x,(k:Int))::enumO (k+1) t
theorem enumO_len:∀ (k:Nat) (l:List Ob),(enumO k l).length=l.length
 | _,[]=>rfl
 | k,x::t=>by simp [enumO,enumO_len (k+1) t]
theorem enumO_snoc:∀ (k:Nat) (l:List Ob) (x:Ob),enumO k (l++[x])=enumO k l++[(x,((k+l.length:Nat):Int))]
 | k,[],x=>by simp [enumO]
 | k,y::t,x=>by
  simp only [List.cons_append,enumO,enumO_snoc (k+1) t x,List.length_cons]
  rw [show k+1+t.length=k+(t.length+1) by omega]
theorem enumO_keys:∀ (k:Nat) (l:List Ob),(enumO k l).map (·.1)=l
 | _,[]=>rfl
 | k,x::t=>by simp [enumO,enumO_keys (k+1) t]
theorem look_cons {K V:Type} [DecidableEq K] (p:K × V) (m:List (K × V)) (k:K):look (p::m) k=if p.1=k then some p.2 else look m k:=by
 unfold look
 rw [List.find?_cons]
 by_cases hk:p.1=k
 ·simp [hk]
 ·have:(p.1 == k)=false:=by simpa using hk
  rw [this,if_neg hk]
theorem numb_cons (y x:Ob) (t:List Ob):numb (y::t) x=if y=x then 0 else numb t x+1:=by
 unfold numb
 rw [List.idxOf_cons]
 by_cases h:y=x
 ·simp [h]
 ·have:(y == x)=false:=by simpa using h
  rw [this,if_neg h]; rfl
theorem look_enumO:∀ (k:Nat) (l:List Ob) (x:Ob),look (enumO k l) x=if x∈l then some ((k+numb l x:Nat):Int) else none
 | k,[],x=>by simp [enumO,look]
 | k,y::t,x=>by
  have ih:=look_enumO (k+1) t x
  unfold enumO
  rw [look_cons,ih,numb_cons]
  by_cases h:y=x
  ·subst h; simp
  ·have h2:¬ x=y:=fun h'=>h h'.symm
   rw [if_neg h,if_neg h]
   by_cases hx:x∈t
   ·simp [hx]; omega
   ·simp [hx,h2]
theorem look_app {K V:Type} [DecidableEq K] (a b:List (K × V)) (k:K):look (a++b) k=(look a k).or (look b k):=by
 unfold look
 rw [List.find?_append]
 cases a.find? fun p=>p.1 == k <;> simp
theorem putAll_new {K V:Type} [DecidableEq K]:∀ (u m:List (K × V)),((m++u).map (·.1)).Nodup→putAll m u=m++u
 | [],m,_=>by simp [putAll]
 | p::r,m,h=>by
  have hn:look m p.1=none:=by
   rw [look_none]
   intro q hq he
   rw [List.map_append,List.nodup_append] at h
   exact h.2.2 q.1 (List.mem_map.2 ⟨q,hq,rfl⟩) p.1 (by simp) he
  have e:put m p.1 p.2=m++[p]:=by unfold put; rw [hn]
  rw [putAll,e,putAll_new r (m++[p]) (by simpa using h)]
  simp
theorem numb_lt {l:List Ob} {x:Ob}:numb l x < l.length↔x∈l:=List.idxOf_lt_length_iff
theorem numb_le (l:List Ob) (x:Ob):numb l x≤l.length:=List.idxOf_le_length
theorem come_mem (r:RR) (x:Ob):x∈(come r x).objs:=by
 unfold come
 split
 ·simp
 ·rename_i h
  have:=numb_le r.objs x
  exact numb_lt.1 (by omega)
theorem come_numb (r:RR) (x:Ob):numb (come r x).objs x=numb r.objs x:=by
 unfold come
 split
 ·rename_i h
  have hn:x ∉ r.objs:=fun hx=>by have:=numb_lt.2 hx; omega
  show (r.objs++[x]).idxOf x=_
  rw [List.idxOf_append,if_neg hn,h]
  simp
 ·rfl
theorem number_spec {T:Th} {p:Pl} {r:RR} {x:Ob} (hn:T.names++p.names=enumO 0 r.objs) (hl:r.objs.length≤65536) :
  (number T p x).1=(numb r.objs x:Nat)∧T.names++(number T p x).2.names=enumO 0 (come r x).objs∧(number T p x).2={ p with names:=(number T p x).2.names,bad:=p.bad || decide (numb r.objs x≥65536) }:=by
 have hlen:T.names.length+p.names.length=r.objs.length:=by
  have:=congrArg List.length hn
  simpa [enumO_len] using this
 have hlook:∀ k,(look T.names k).or (look p.names k)=if k∈r.objs then some ((numb r.objs k:Nat):Int) else none:=fun k=>by
  rw [← look_app,hn,look_enumO]; simp
 by_cases hx:x∈r.objs
 ·have h1:=hlook x
  rw [if_pos hx] at h1
  have h2:=numb_lt.2 hx
  have hc:come r x=r:=by unfold come; rw [if_neg (by omega)]
  have hb:decide (numb r.objs x≥65536)=false:=by simp; omega
  rw [hc,hb,Bool.or_false]
  unfold number
  cases h3:look T.names x with
  | some n=>
   rw [h3] at h1
   simp at h1
   exact ⟨h1,hn,rfl⟩
  | none=>
   rw [h3,Option.none_or] at h1
   rw [h1]
   exact ⟨rfl,hn,rfl⟩
 ·have h1:=hlook x
  rw [if_neg hx] at h1
  have h3:look T.names x=none:=by cases h:look T.names x <;> simp [h] at h1 ⊢
  have h4:look p.names x=none:=by rw [h3,Option.none_or] at h1; exact h1
  have h5:numb r.objs x=r.objs.length:=by
   have:=numb_le r.objs x
   have:=mt numb_lt.1 hx
   omega
  have hc:come r x={ r with objs:=r.objs++[x] }:=by unfold come; rw [if_pos h5]
  have hw:w64 ((T.names.length:Int)+(p.names.length:Int))=(r.objs.length:Int):=by rw [w64_small (by omega) (by omega)]; omega
  have e:number T p x=((r.objs.length:Int),{ p with names:=put p.names x (r.objs.length:Int),bad:=p.bad || decide ((r.objs.length:Int)≥65536) }):=by
   unfold number
   rw [h3,h4]
   dsimp only
   rw [hw]
  rw [e,hc,h5]
  refine ⟨rfl,?_,?_⟩
  ·show T.names++put p.names x (r.objs.length:Int)=enumO 0 (r.objs++[x])
   have e2:put p.names x (r.objs.length:Int)=p.names++[(x,(r.objs.length:Int))]:=by unfold put; rw [h4]
   rw [e2,enumO_snoc,← List.append_assoc,hn]
   simp
  ·have:decide ((r.objs.length:Int)≥65536)=decide (r.objs.length≥65536):=by
    by_cases h:r.objs.length≥65536
    ·rw [decide_eq_true h,decide_eq_true (by omega)]
    ·rw [decide_eq_false h,decide_eq_false (by omega)]
   rw [this]
def clP (T:Th) (e:Ev) (p:Pl) (u:Int):Clk:=if u=e.th then p.own else getC T.clocks u
structure PR (T:Th) (e:Ev) (i:Int) (r0:RR) (p:Pl) (r:RR) (tk:List Int) (B:Int):Prop where
 L:r.L=r0.L++p.orders
 of:r.of=r0.of++List.replicate p.orders.length i
 begun:r.begun=T.begun
 ended:r.ended=T.ended
 names:T.names++p.names=enumO 0 r.objs
 nd:r.objs.Nodup
 few:r.objs.length≤65536
 bad:p.bad=false
 tkp:p.tk=if p.orders=[] then 0 else tk.getD r0.L.length 0
 vi:VI (clP T e p) (clockOf T p) r.L tk r.objs B
 ndo:(p.objs.map (·.1)).Nodup
 ths:∀ o∈p.orders,o.th=e.th
theorem come_nd {r:RR} (h:r.objs.Nodup) (x:Ob):(come r x).objs.Nodup:=by
 unfold come
 split
 ·rename_i hl
  have hn:x ∉ r.objs:=fun hx=>by have:=numb_lt.2 hx; omega
  show (r.objs++[x]).Nodup
  rw [List.nodup_append]
  exact ⟨h,by simp,fun a ha b hb=>by simp at hb; subst hb; exact fun he=>hn (he ▸ ha)⟩
 ·exact h
theorem vi_come {cl:Int→Clk} {ob:Ob→Clk} {L:List Ord} {tk:List Int} {r:RR} {B:Int} (h:VI cl ob L tk r.objs B) (x:Ob):VI cl ob L tk (come r x).objs B:=by
 unfold come
 split
 ·rename_i hl
  exact VI.come h fun hx=>by have:=numb_lt.2 hx; omega
 ·exact h
def touchP (T:Th) (e:Ev) (k:Int) (p:Pl) (x:Ob):Pl:=
 let q:=(number T p x).2
 let q:=if k=3∨k=4 then acquire T q x else q
 let q:=tick e q ⟨k,0,0,(number T p x).1⟩
 if k=2∨k=4 then release T q x else q
theorem touch_step {T:Th} {e:Ev} {i:Int} {r0 r:RR} {p:Pl} {tk:List Int} {B:Int} {k:Int} {x:Ob} (h:PR T e i r0 p r tk B) (ht:0≤e.th∧e.th < 8) (hk:k=2∨k=3∨k=4) (hbe:getB T.begun e.th=true) (hen:getB T.ended e.th=false)
  (hB:B < 4611686018427387904) (hB0:0≤B) (hlen:tk.length=r.L.length) :
  (rtouch r k e x i=none∧(touchP T e k p x).bad=true)∨∃ r',rtouch r k e x i=some r'∧∃ v,PR T e i r0 (touchP T e k p x) r' (tk++[v]) (B+1):=by
 obtain ⟨n1,n2,n3⟩:=number_spec (x:=x) h.names h.few
 generalize hq:(number T p x).2=q at n2 n3
 have qo:q.own=p.own:=by rw [n3]
 have qob:q.objs=p.objs:=by rw [n3]
 have qor:q.orders=p.orders:=by rw [n3]
 have qtk:q.tk=p.tk:=by rw [n3]
 have qbad:q.bad=(p.bad || decide (numb r.objs x≥65536)):=by rw [n3]
 have qfork:q.fork=p.fork∧q.ends=p.ends:=by rw [n3]; exact ⟨rfl,rfl⟩
 have tbad:(touchP T e k p x).bad=q.bad:=by
  unfold touchP
  rw [hq]
  simp only
  split <;> split <;> rfl
 by_cases hge:numb r.objs x≥65536
 ·left
  refine ⟨by unfold rtouch; rw [if_pos hge],?_⟩
  rw [tbad,qbad,decide_eq_true hge,Bool.or_true]
 ·right
  have qb:q.bad=false:=by rw [qbad,h.bad,decide_eq_false hge]; rfl
  have hbar:barred (come r x) ⟨k,e.th,0,(numb r.objs x:Nat)⟩=false:=by
   have hc:(come r x).begun=r.begun∧(come r x).ended=r.ended:=by unfold come; split <;> exact ⟨rfl,rfl⟩
   have k5:(k == 5)=false:=by rw [beq_eq_false_iff_ne]; omega
   have k6:(k == 6)=false:=by rw [beq_eq_false_iff_ne]; omega
   unfold barred
   rw [hc.1,hc.2,h.begun,h.ended]
   simp only
   rw [hbe,hen,k5,k6]
   rfl
  have hr':rtouch r k e x i=some { (come r x) with L:=(come r x).L++[⟨k,e.th,0,(numb r.objs x:Nat)⟩],of:=(come r x).of++[i] }:=by
   unfold rtouch
   rw [if_neg hge]
   unfold rput
   rw [hbar]
   have k5:¬ k=5:=by omega
   have k6:¬ k=6:=by omega
   simp only [Bool.false_eq_true,if_false,if_neg k5,if_neg k6]
  refine ⟨_,hr',?_⟩
  have hcL:(come r x).L=r.L∧(come r x).of=r.of∧(come r x).begun=r.begun∧(come r x).ended=r.ended:=by unfold come; split <;> exact ⟨rfl,rfl,rfl,rfl⟩
  have ob0:clockOf T q x=clockOf T p x:=by unfold clockOf; rw [qob]
  let own0:Clk:=if k=3∨k=4 then joinC p.own (clockOf T p x) else p.own
  have hp8:p.own.length=8:=by have:=(h.vi.cb e.th ht.1 ht.2).1; unfold clP at this; rw [if_pos rfl] at this; exact this
  have hpB:CB p.own B:=by have:=h.vi.cb e.th ht.1 ht.2; unfold clP at this; rw [if_pos rfl] at this; exact this
  have h0B:CB own0 B:=by
   show CB (if k=3∨k=4 then joinC p.own (clockOf T p x) else p.own) B
   split
   ·exact hpB.join (h.vi.co x)
   ·exact hpB
  let q1:Pl:=if k=3∨k=4 then acquire T q x else q
  have q1own:q1.own=own0:=by
   show (if k=3∨k=4 then acquire T q x else q).own=if k=3∨k=4 then joinC p.own (clockOf T p x) else p.own
   split
   ·show joinC q.own (clockOf T q x)=_
    rw [qo,ob0]
   ·exact qo
  have q1r:q1.objs=p.objs∧q1.orders=p.orders∧q1.tk=p.tk∧q1.names=q.names∧q1.bad=q.bad:=by
   show (if k=3∨k=4 then acquire T q x else q).objs=_∧(if k=3∨k=4 then acquire T q x else q).orders=_∧(if k=3∨k=4 then acquire T q x else q).tk=_∧(if k=3∨k=4 then acquire T q x else q).names=_∧(if k=3∨k=4 then acquire T q x else q).bad=_
   split <;> exact ⟨qob,qor,qtk,rfl,rfl⟩
  let q2:Pl:=tick e q1 ⟨k,0,0,(numb r.objs x:Nat)⟩
  have q1B:CB q1.own B:=by rw [q1own]; exact h0B
  have q2own:=tick_own (e:=e) (p:=q1) (o:=⟨k,0,0,(numb r.objs x:Nat)⟩) q1B ht hB
  have q2B:=tick_CB (e:=e) (p:=q1) (o:=⟨k,0,0,(numb r.objs x:Nat)⟩) q1B ht hB
  have hT:touchP T e k p x=if k=2∨k=4 then release T q2 x else q2:=by
   unfold touchP
   rw [hq,n1]
  have f1:(touchP T e k p x).own=q2.own∧(touchP T e k p x).orders=q2.orders∧(touchP T e k p x).tk=q2.tk∧(touchP T e k p x).names=q2.names:=by
   rw [hT]
   split <;> exact ⟨rfl,rfl,rfl,rfl⟩
  have f2:∀ c,clockOf T (touchP T e k p x) c=if (k=2∨k=4)∧c=x then joinC (clockOf T p c) q2.own else clockOf T p c:=by
   intro c
   have hq2:∀ c,clockOf T q2 c=clockOf T p c:=fun c=>by
    show clockOf T (tick e q1 _) c=_
    unfold clockOf
    show (match look q1.objs c with | some c=>c | none=>_)=_
    rw [q1r.1]
    rfl
   rw [hT]
   by_cases hrel:k=2∨k=4
   ·rw [if_pos hrel,release_clock,hq2 x]
    by_cases hc:c=x
    ·rw [if_pos hc,if_pos ⟨hrel,hc⟩,hc]
    ·rw [if_neg hc,if_neg (fun hh=>hc hh.2),hq2 c]
   ·rw [if_neg hrel,if_neg (fun hh=>hrel hh.1),hq2 c]
  have q2or:q2.orders=p.orders++[⟨k,e.th,0,(numb r.objs x:Nat)⟩]:=by
   show q1.orders++[_]=_
   rw [q1r.2.1]
  have clth:clP T e p e.th=p.own:=by unfold clP; rw [if_pos rfl]
  have q2th:at0 q2.own e.th=at0 own0 e.th+1:=by
   have:=q2own e.th
   rw [if_pos rfl,q1own] at this
   exact this
  refine ⟨at0 q2.own e.th,?_,?_,hcL.2.2.1.trans h.begun,hcL.2.2.2.trans h.ended,?_,come_nd h.nd x,?_,?_,?_,?_,?_,?_⟩
  ·show (come r x).L++_=_
   rw [hcL.1,h.L,f1.2.1,q2or,List.append_assoc]
  ·show (come r x).of++_=_
   rw [hcL.2.1,h.of,f1.2.1,q2or,List.length_append,List.length_singleton,List.replicate_succ',List.append_assoc]
  ·show T.names++(touchP T e k p x).names=enumO 0 (come r x).objs
   rw [f1.2.2.2,← n2]
   show T.names++q1.names=_
   rw [q1r.2.2.2.1]
  ·show (come r x).objs.length≤65536
   unfold come
   split
   ·rename_i hl; simp; omega
   ·exact h.few
  ·rw [tbad]; exact qb
  ·rw [f1.2.2.1,f1.2.1,q2or]
   have h1:¬ (p.orders++[⟨k,e.th,0,(numb r.objs x:Nat)⟩]:List Ord)=[]:=by simp
   rw [if_neg h1]
   show (if q1.tk=0 then at0 q2.own e.th else q1.tk)=_
   rw [q1r.2.2.1,h.tkp]
   by_cases ho:p.orders=[]
   ·rw [if_pos ho,if_pos rfl]
    have hl0:r.L.length=r0.L.length:=by rw [h.L,ho]; simp
    rw [← hl0,← hlen]
    simp [List.getD]
   ·have hpos:=List.length_pos_iff.2 ho
    have hl0:r0.L.length < r.L.length:=by rw [h.L]; simp; omega
    have h1:=h.vi.pos r0.L.length hl0
    rw [if_neg ho,if_neg (by omega)]
    have h3:r0.L.length < tk.length:=by omega
    simp [List.getD,List.getElem?_append_left h3]
  ·show VI _ _ ((come r x).L++[_]) _ (come r x).objs _
   rw [hcL.1]
   have hvi:=vi_come h.vi x
   refine hvi.op (o:=⟨k,e.th,0,(numb r.objs x:Nat)⟩) (own:=q2.own) (own0:=own0) (x:=x) ht (fun s v=>?_) (fun s s0 s8=>?_) q2B (fun h6=>by simp at h6; omega) (fun h5=>by simp at h5; omega) (fun _=>⟨by rw [come_numb],come_mem r x⟩) (fun u u0 u8=>?_) (fun c=>?_)
   ·show v≤at0 (if k=3∨k=4 then joinC p.own (clockOf T p x) else p.own) s↔_
    rw [clth]
    have hacq:acqK ⟨k,e.th,0,(numb r.objs x:Nat)⟩=true↔k=3∨k=4:=by simp [acqK]
    rw [hacq]
    have h6:¬ k=6:=by omega
    by_cases ha:k=3∨k=4
    ·rw [if_pos ha,join_le hp8 (h.vi.co x).1]
     constructor
     ·rintro (h | h)
      ·exact .inl h
      ·exact .inr (.inl ⟨ha,h⟩)
     ·rintro (h | ⟨_,h⟩ | ⟨h,_⟩)
      ·exact .inl h
      ·exact .inr h
      ·exact absurd h h6
    ·rw [if_neg ha]
     constructor
     ·exact fun h=>.inl h
     ·rintro (h | ⟨h,_⟩ | ⟨h,_⟩)
      ·exact h
      ·exact absurd h ha
      ·exact absurd h h6
   ·rw [q2own s,q1own]
    by_cases hs:s=e.th
    ·subst hs; rw [if_pos rfl,if_pos rfl]
    ·have h1:¬ s.toNat=e.th.toNat:=by omega
     rw [if_neg h1]
     show _=if s=e.th then _ else _
     rw [if_neg hs]
   ·show clP T e (touchP T e k p x) u=if u=e.th then q2.own else if k=5∧u=0 then _ else _
    have h5:¬ (k=5∧u=0):=by omega
    rw [if_neg h5]
    unfold clP
    by_cases hu:u=e.th
    ·rw [if_pos hu,if_pos hu]; exact f1.1
    ·rw [if_neg hu,if_neg hu,if_neg hu]
   ·rw [f2 c]
    have hrel:relK ⟨k,e.th,0,(numb r.objs x:Nat)⟩=true↔k=2∨k=4:=by simp [relK]
    simp only [hrel]
  ·rw [hT]
   have h1:q2.objs=p.objs:=q1r.1
   split
   ·show ((put q2.objs x _).map (·.1)).Nodup
    rw [h1]
    exact put_nodup h.ndo _ _
   ·rw [h1]; exact h.ndo
  ·rw [f1.2.1,q2or]
   intro o ho
   rcases List.mem_append.1 ho with ho | ho
   ·exact h.ths o ho
   ·simp at ho; rw [ho]
def wl:List Int→Ob→List Ob
 | [],_=>[]
 | a::r,last=>if ((true,w32 (a.tdiv 4)):Ob)=last then wl r last else (true,w32 (a.tdiv 4))::wl r (true,w32 (a.tdiv 4))
theorem wl_fold:∀ (bs:List Int) (l0:List Ob),bs.foldl (fun l a=>if l.getLast?=some ((true,w32 (a.tdiv 4)):Ob) then l else l++[(true,w32 (a.tdiv 4))]) l0=l0++wl bs (l0.getLast?.getD (false,0))
 | [],l0=>by simp [wl]
 | a::r,l0=>by
  rw [List.foldl_cons]
  by_cases hx:l0.getLast?=some ((true,w32 (a.tdiv 4)):Ob)
  ·rw [if_pos hx,wl_fold r l0,wl,hx]
   simp
  ·rw [if_neg hx,wl_fold r (l0++[(true,w32 (a.tdiv 4))]),wl]
   have hne:¬ ((true,w32 (a.tdiv 4)):Ob)=l0.getLast?.getD (false,0):=by
    cases hl:l0.getLast? with
    | none=>simp
    | some y=>
     intro he
     rw [hl] at hx
     exact hx (by rw [he]; rfl)
   rw [if_neg hne,List.getLast?_append]
   simp
theorem words_wl (e:Ev):words e=wl (bytes e.a e.n) (false,0):=by
 unfold words bytes
 have h:=wl_fold ((List.range e.n.toNat).map fun i:Nat=>w32 (e.a+w32 (i:Int))) []
 rw [List.foldl_map,List.nil_append] at h
 exact h
theorem atomicL_is (T:Th) (e:Ev):∀ (bs:List Int) (last:Ob) (p:Pl),atomicL T e bs last p=(wl bs last).foldl (fun p x=>touchP T e 4 p x) p
 | [],_,_=>rfl
 | a::r,last,p=>by
  unfold atomicL wl
  dsimp only
  split
  ·exact atomicL_is T e r last p
  ·rw [List.foldl_cons,atomicL_is T e r _ _]; rfl
theorem number_bad {T:Th} {p:Pl} {x:Ob} (h:p.bad=true):(number T p x).2.bad=true:=by
 unfold number
 split
 ·exact h
 ·split
  ·exact h
  ·simp [h]
theorem touchP_bad {T:Th} {e:Ev} {k:Int} {p:Pl} {x:Ob} (h:p.bad=true):(touchP T e k p x).bad=true:=by
 have:=number_bad (T:=T) (x:=x) h
 unfold touchP
 simp only
 split <;> split <;> exact this
theorem fold_bad {T:Th} {e:Ev} {k:Int}:∀ (ws:List Ob) (p:Pl),p.bad=true→(ws.foldl (fun p x=>touchP T e k p x) p).bad=true
 | [],_,h=>h
 | x::t,p,h=>by
  rw [List.foldl_cons]
  exact fold_bad t _ (touchP_bad h)
theorem touchP_same (T:Th) (e:Ev) (k:Int) (p:Pl) (x:Ob):(touchP T e k p x).fork=p.fork∧(touchP T e k p x).ends=p.ends:=by
 have:=number_same T p x
 unfold touchP
 simp only
 split <;> split <;> exact ⟨this.1,this.2⟩
theorem fold_same (T:Th) (e:Ev) (k:Int):∀ (ws:List Ob) (p:Pl),(ws.foldl (fun p x=>touchP T e k p x) p).fork=p.fork∧(ws.foldl (fun p x=>touchP T e k p x) p).ends=p.ends
 | [],_=>⟨rfl,rfl⟩
 | x::t,p=>by
  rw [List.foldl_cons]
  have h1:=fold_same T e k t (touchP T e k p x)
  have h2:=touchP_same T e k p x
  exact ⟨h1.1.trans h2.1,h1.2.trans h2.2⟩
theorem atomics_step {T:Th} {e:Ev} {i:Int} {r0:RR} (ht:0≤e.th∧e.th < 8) (hbe:getB T.begun e.th=true) (hen:getB T.ended e.th=false):∀ (ws:List Ob) (r:RR) (p:Pl) (tk:List Int) (B:Int),PR T e i r0 p r tk B→0≤B→B+ws.length < 4611686018427387904→
  (rtouches e i ws r=none∧(ws.foldl (fun p x=>touchP T e 4 p x) p).bad=true)∨∃ r',rtouches e i ws r=some r'∧∃ ext,PR T e i r0 (ws.foldl (fun p x=>touchP T e 4 p x) p) r' (tk++ext) (B+ws.length)
 | [],r,p,tk,B,h,h0,hB=>.inr ⟨r,rfl,[],by simpa using h⟩
 | x::t,r,p,tk,B,h,h0,hB=>by
  simp only [List.length_cons] at hB
  rw [List.foldl_cons]
  rcases touch_step (x:=x) h ht (.inr (.inr rfl)) hbe hen (by omega) h0 h.vi.len with ⟨h1,h2⟩ | ⟨r',h1,v,h2⟩
  ·refine .inl ⟨?_,fold_bad t _ h2⟩
   unfold rtouches
   rw [h1]
  ·rcases atomics_step ht hbe hen t r' _ _ (B+1) h2 (by omega) (by omega) with ⟨h3,h4⟩ | ⟨r2,h3,ext,h4⟩
   ·refine .inl ⟨?_,h4⟩
    unfold rtouches
    rw [h1]
    exact h3
   ·refine .inr ⟨r2,?_,v::ext,?_⟩
    ·unfold rtouches
     rw [h1]
     exact h3
    ·have e1:tk++v::ext=(tk++[v])++ext:=by simp
     have e2:B+((x::t).length:Nat)=B+1+(t.length:Nat):=by simp only [List.length_cons]; omega
     rw [e1,e2]
     exact h4
structure SR (T:Th) (r:RR) (tk:List Int) (B:Int):Prop where
 begun:r.begun=T.begun
 ended:r.ended=T.ended
 names:T.names=enumO 0 r.objs
 nd:r.objs.Nodup
 few:r.objs.length≤65536
 vi:VI (getC T.clocks) (fun k=>(look T.objs k).getD zeroC) r.L tk r.objs B
 cl8:T.clocks.length=8
 bl:T.begun.length=8
 el:T.ended.length=8
 pos:0≤B
theorem SR.pl {T:Th} {r:RR} {tk:List Int} {B:Int} (h:SR T r tk B) (e:Ev) (i:Int):PR T e i r (pl0 T e) r tk B:=by
 refine ⟨by simp [pl0],by simp [pl0],h.begun,h.ended,by simpa [pl0] using h.names,h.nd,h.few,rfl,by simp [pl0],h.vi.congr (fun u _ _=>?_) (fun k=>rfl) (Int.le_refl B),by simp [pl0],by simp [pl0]⟩
 unfold clP
 split
 ·rename_i hu; rw [hu]; rfl
 ·rfl
theorem perform_fields (T:Th) (e:Ev) (p:Pl):(perform T e p).begun=(if p.fork≥0 then T.begun.set p.fork.toNat true else T.begun)∧(perform T e p).ended=(if p.ends≥0 then T.ended.set p.ends.toNat true else T.ended)∧
  (perform T e p).names=putAll T.names p.names∧(perform T e p).objs=putAll T.objs p.objs:=by
 unfold perform
 simp only
 split <;> split <;> split <;> exact ⟨rfl,rfl,rfl,rfl⟩
structure EvR (T:Th) (e:Ev) (i:Int) (r0:RR) (tk0:List Int) (p:Pl) (r:RR) (tk:List Int) (B:Int):Prop where
 sr:SR (perform T e p) r tk B
 L:r.L=r0.L++p.orders
 of:r.of=r0.of++List.replicate p.orders.length i
 ne:p.orders≠[]
 ths:∀ o∈p.orders,o.th=e.th
 tkp:p.tk=tk.getD r0.L.length 0
 ext:∃ ext,tk=tk0++ext
 own:∀ a,a < r.L.length→(tk.getD a 0≤at0 p.own (opA r.L a).th↔Kn r.L a (edge e.th))
 th:0≤e.th∧e.th < 8
theorem PR.finish {T:Th} {e:Ev} {i:Int} {r0 r:RR} {p:Pl} {tk0 tk:List Int} {B B':Int} (h:PR T e i r0 p r tk B) (h0:SR T r0 tk0 B') (ht:0≤e.th∧e.th < 8) (hf:p.fork=-1) (he:p.ends=-1) (hne:p.orders≠[]) (hB:B≤B'+16) (hext:∃ ext,tk=tk0++ext) :
  EvR T e i r0 tk0 p r tk (B'+16):=by
 obtain ⟨f1,f2,f3,f4⟩:=perform_fields T e p
 rw [hf,if_neg (by omega)] at f1
 rw [he,if_neg (by omega)] at f2
 have hcl:∀ u,0≤u→u < 8→getC (perform T e p).clocks u=clP T e p u:=fun u u0 u8=>by
  rw [perform_clocks,if_neg (by omega),getC_set (by rw [h0.cl8]; omega)]
  unfold clP
  by_cases hu:u=e.th
  ·rw [if_pos hu,if_pos (by rw [hu])]
  ·rw [if_neg hu,if_neg (by omega)]
 have hvi:VI (getC (perform T e p).clocks) (fun k=>(look (perform T e p).objs k).getD zeroC) r.L tk r.objs (B'+16):=h.vi.congr hcl (fun k=>perform_objs h.ndo k) hB
 refine ⟨⟨h.begun.trans f1.symm,h.ended.trans f2.symm,?_,h.nd,h.few,hvi,?_,by rw [f1]; exact h0.bl,by rw [f2]; exact h0.el,by have:=h0.pos; omega⟩,h.L,h.of,hne,h.ths,?_,hext,fun a ha=>?_,ht⟩
 ·rw [f3,putAll_new,h.names]
  rw [h.names,enumO_keys]
  exact h.nd
 ·rw [perform_clocks,if_neg (by omega),List.length_set]; exact h0.cl8
 ·rw [h.tkp,if_neg hne]
 ·have:=h.vi.T e.th ht.1 ht.2 a ha
  unfold clP at this
  rw [if_pos rfl] at this
  exact this
theorem single {T:Th} {e:Ev} {i:Int} {r0:RR} {tk:List Int} {B:Int} (h:SR T r0 tk B) (hB:B < 4611686018427387888) (ht:0≤e.th∧e.th < 8) {o:Ord} {p:Pl} {own0:Clk} (ho:o.th=e.th) (hk:o.kind=1∨o.kind=5∨o.kind=6)
  (h0B:CB own0 B) (hown0:∀ s v,v≤at0 own0 s↔v≤at0 (getC T.clocks e.th) s∨(o.kind=6∧v≤at0 (getC T.clocks o.other) s))
  (hj:o.kind=6→0≤o.other∧o.other < 8) (hf:o.kind=5→0≤o.other∧o.other < 8∧o.other≠o.th)
  (pown:p.own=own0.set e.th.toNat (w64 (at0 own0 e.th+1))) (por:p.orders=[o]) (pob:p.objs=[]) (pna:p.names=[]) (ptk:p.tk=at0 p.own e.th) (pf:p.fork=if o.kind=5 then o.other else -1) (pe:p.ends=if o.kind=6 then o.other else -1) :
  EvR T e i r0 tk p { r0 with L:=r0.L++[o],of:=r0.of++[i],begun:=if o.kind=5 then r0.begun.set o.other.toNat true else r0.begun,ended:=if o.kind=6 then r0.ended.set o.other.toNat true else r0.ended } (tk++[at0 p.own e.th]) (B+16):=by
 obtain ⟨f1,f2,f3,f4⟩:=perform_fields T e p
 have h8:own0.length=8:=h0B.1
 have ha0:=h0B.2 e.th
 have hown:∀ s,at0 p.own s=if s.toNat=e.th.toNat then at0 own0 e.th+1 else at0 own0 s:=fun s=>by
  rw [pown,set_at (by rw [h8]; omega),w64_small (by omega) (by omega)]
 have hownB:CB p.own (B+1):=by
  refine ⟨by rw [pown,List.length_set]; exact h8,fun s=>?_⟩
  rw [hown s]
  have:=h0B.2 s
  split <;> omega
 have hfork:p.fork≥0↔o.kind=5:=by
  rw [pf]
  constructor
  ·intro hh
   by_cases h5:o.kind=5
   ·exact h5
   ·rw [if_neg h5] at hh; omega
  ·intro h5
   rw [if_pos h5]
   exact (hf h5).1
 have hends:p.ends≥0↔o.kind=6:=by
  rw [pe]
  constructor
  ·intro hh
   by_cases h6:o.kind=6
   ·exact h6
   ·rw [if_neg h6] at hh; omega
  ·intro h6
   rw [if_pos h6]
   exact (hj h6).1
 have hi:e.th.toNat < T.clocks.length:=by rw [h.cl8]; omega
 have hvi:VI (getC (perform T e p).clocks) (fun k=>(look (perform T e p).objs k).getD zeroC) (r0.L++[o]) (tk++[at0 p.own o.th]) r0.objs (B+1):=by
  refine h.vi.op (own:=p.own) (own0:=own0) (x:=(false,0)) (by rw [ho]; exact ht) (fun s v=>?_) (fun s s0 s8=>?_) hownB hj hf (fun hh=>?_) (fun u u0 u8=>?_) (fun k=>?_)
  ·rw [hown0 s v,ho]
   have:acqK o=false:=by unfold acqK; rw [Bool.or_eq_false_iff,beq_eq_false_iff_ne,beq_eq_false_iff_ne]; omega
   rw [this]
   simp
  ·rw [hown s,ho]
   by_cases hs:s=e.th
   ·rw [if_pos hs,if_pos (by rw [hs])]
   ·rw [if_neg hs,if_neg (by omega)]
  ·have h1:acqK o=false:=by unfold acqK; rw [Bool.or_eq_false_iff,beq_eq_false_iff_ne,beq_eq_false_iff_ne]; omega
   have h2:relK o=false:=by unfold relK; rw [Bool.or_eq_false_iff,beq_eq_false_iff_ne,beq_eq_false_iff_ne]; omega
   rw [h1,h2] at hh
   rcases hh with hh | hh <;> cases hh
  ·rw [perform_clocks,ho]
   by_cases h5:o.kind=5
   ·obtain ⟨g0,g8,gne⟩:=hf h5
    rw [ho] at gne
    have hpf:p.fork=o.other:=by rw [pf,if_pos h5]
    have g1:∀ v,getC (T.clocks.set e.th.toNat p.own) v=if v.toNat=e.th.toNat then p.own else getC T.clocks v:=fun v=>getC_set hi _ v
    rw [if_pos (hfork.2 h5),hpf,getC_set (l:=T.clocks.set e.th.toNat p.own) (i:=o.other.toNat) (by rw [List.length_set,h.cl8]; omega) _ u,g1 u,g1 o.other]
    have n1:¬ o.other.toNat=e.th.toNat:=by omega
    rw [if_neg n1]
    by_cases hu:u=e.th
    ·subst hu
     have n2:¬ e.th.toNat=o.other.toNat:=by omega
     rw [if_neg n2,if_pos rfl,if_pos rfl]
    ·rw [if_neg hu]
     by_cases hu2:u=o.other
     ·subst hu2
      rw [if_pos rfl,if_pos ⟨h5,rfl⟩]
     ·have n2:¬ u.toNat=o.other.toNat:=by omega
      have n3:¬ u.toNat=e.th.toNat:=by omega
      rw [if_neg n2,if_neg n3,if_neg (fun hh=>hu2 hh.2)]
   ·rw [if_neg (fun hh=>h5 (hfork.1 hh)),getC_set hi]
    by_cases hu:u=e.th
    ·rw [if_pos hu,if_pos (by rw [hu])]
    ·rw [if_neg hu,if_neg (by omega),if_neg (fun hh=>h5 hh.1)]
  ·have h2:relK o=false:=by unfold relK; rw [Bool.or_eq_false_iff,beq_eq_false_iff_ne,beq_eq_false_iff_ne]; omega
   rw [h2,f4,pob]
   simp [putAll]
 rw [ho] at hvi
 have hvi2:=hvi.congr (fun _ _ _=>rfl) (fun _=>rfl) (by omega:B+1≤B+16)
 have hb5:(if p.fork≥0 then T.begun.set p.fork.toNat true else T.begun)=if o.kind=5 then T.begun.set o.other.toNat true else T.begun:=by
  by_cases h5:o.kind=5
  ·rw [if_pos (hfork.2 h5),if_pos h5,pf,if_pos h5]
  ·rw [if_neg (fun hh=>h5 (hfork.1 hh)),if_neg h5]
 have hb6:(if p.ends≥0 then T.ended.set p.ends.toNat true else T.ended)=if o.kind=6 then T.ended.set o.other.toNat true else T.ended:=by
  by_cases h6:o.kind=6
  ·rw [if_pos (hends.2 h6),if_pos h6,pe,if_pos h6]
  ·rw [if_neg (fun hh=>h6 (hends.1 hh)),if_neg h6]
 refine ⟨⟨?_,?_,?_,h.nd,h.few,hvi2,?_,?_,?_,by have:=h.pos; omega⟩,?_,?_,by rw [por]; simp,fun o' ho'=>?_,?_,⟨_,rfl⟩,fun a ha=>?_,ht⟩
 ·rw [f1,hb5]; show (if o.kind=5 then _ else _)=_; rw [h.begun]
 ·rw [f2,hb6]; show (if o.kind=6 then _ else _)=_; rw [h.ended]
 ·rw [f3,pna]; exact h.names
 ·rw [perform_clocks]; split <;> simp [h.cl8]
 ·rw [f1]; split <;> simp [h.bl]
 ·rw [f2]; split <;> simp [h.el]
 ·rw [por]
 ·rw [por]; rfl
 ·rw [por] at ho'; simp at ho'; rw [ho']; exact ho
 ·rw [ptk,← h.vi.len]
  simp [List.getD]
 ·have:=hvi.T e.th ht.1 ht.2 a ha
  have hc:getC (perform T e p).clocks e.th=p.own:=by
   rw [perform_clocks]
   by_cases h5:o.kind=5
   ·obtain ⟨g0,g8,gne⟩:=hf h5
    rw [ho] at gne
    have hpf:p.fork=o.other:=by rw [pf,if_pos h5]
    have n2:¬ e.th.toNat=o.other.toNat:=by omega
    rw [if_pos (hfork.2 h5),hpf,getC_set (l:=T.clocks.set e.th.toNat p.own) (i:=o.other.toNat) (by rw [List.length_set,h.cl8]; omega) _ e.th,if_neg n2,getC_set hi,if_pos rfl]
   ·rw [if_neg (fun hh=>h5 (hfork.1 hh)),getC_set hi,if_pos rfl]
  rw [hc] at this
  exact this
theorem rput_bar {r:RR} {o:Ord} {i:Int} (h:getB r.begun o.th=false∨getB r.ended o.th=true):rput r o i=none:=by
 unfold rput barred
 rcases h with h | h
 ·rw [h]; simp
 ·rw [h]; simp
theorem rtouch_bar {r:RR} {k:Int} {e:Ev} {x:Ob} {i:Int} (h:getB r.begun e.th=false∨getB r.ended e.th=true):rtouch r k e x i=none:=by
 unfold rtouch
 split
 ·rfl
 ·have hc:(come r x).begun=r.begun∧(come r x).ended=r.ended:=by unfold come; split <;> exact ⟨rfl,rfl⟩
  exact rput_bar (by rw [hc.1,hc.2]; exact h)
theorem words_ne {e:Ev} (h:1≤e.n):words e≠[]:=by
 rw [words_wl]
 unfold bytes
 obtain ⟨m,hm⟩:∃ m,e.n.toNat=m+1:=⟨e.n.toNat - 1,by omega⟩
 rw [hm,List.range_succ_eq_map]
 simp [wl]
theorem rtouches_len {e:Ev} {i:Int}:∀ {l:List Ob} {r r':RR},rtouches e i l r=some r'→r'.L.length=r.L.length+l.length
 | [],r,r',h=>by cases h; rfl
 | x::t,r,r',h=>by
  unfold rtouches at h
  split at h
  ·cases h
  ·rename_i r2 h2
   have h3:=rtouches_len h
   have h4:r2.L.length=r.L.length+1:=by
    unfold rtouch at h2
    split at h2
    ·cases h2
    ·unfold rput at h2
     split at h2
     ·cases h2
     ·cases h2
      have:(come r x).L=r.L:=by unfold come; split <;> rfl
      simp [this]
   rw [h3,h4,List.length_cons]; omega
theorem shaped_refused (T:Th) (e:Ev):refused T e=(!shaped e || !getB T.begun e.th || getB T.ended e.th):=by
 have hacc:(accesses e).2.2=acs e∧(accesses e).2.1=decide (e.kind=4):=by
  unfold accesses acs ld sto
  by_cases h2:e.kind=2∨e.kind=23
  ·rw [if_pos h2]
   rcases h2 with h2 | h2 <;> simp [h2]
  ·rw [if_neg h2]
   by_cases h3:e.kind=3∨e.kind=22
   ·rw [if_pos h3]
    rcases h3 with h3 | h3 <;> simp [h3]
   ·rw [if_neg h3]
    by_cases h4:e.kind=4
    ·rw [if_pos h4]; simp [h4]
    ·rw [if_neg h4]
     simp only [not_or] at h2 h3
     simp [h2,h3,h4]
 unfold refused shaped
 rw [hacc.1,hacc.2]
 by_cases h1:e.kind < 1∨e.kind > 24∨e.th < 0∨e.th≥8
 ·rw [if_pos h1]
  rcases h1 with h | h | h | h <;> simp [h]
 ·rw [if_neg h1]
  have a1:decide (e.kind < 1)=false:=by simp; omega
  have a2:decide (e.kind > 24)=false:=by simp; omega
  have a3:decide (e.th < 0)=false:=by simp; omega
  have a4:decide (e.th≥8)=false:=by simp; omega
  rw [a1,a2,a3,a4]
  by_cases h4:e.kind=4
  ·rw [if_pos h4,decide_eq_true h4]
   have ha:acs e=true:=by unfold acs sto; simp [h4]
   rw [ha]
   by_cases n1:e.n < 1
   ·have:decide (e.n≥1)=false:=by simp; omega
    rw [this,decide_eq_true n1]; simp
   ·by_cases n2:e.n > 16
    ·have:decide (e.n≤16)=false:=by simp; omega
     rw [this,decide_eq_true n2]; simp
    ·have b1:decide (e.n≥1)=true:=by simp; omega
     have b2:decide (e.n≤16)=true:=by simp; omega
     have b3:decide (e.n < 1)=false:=by simp; omega
     have b4:decide (e.n > 16)=false:=by simp; omega
     have b5:decide (e.n < 0)=false:=by simp; omega
     have b6:decide (e.n > 65536)=false:=by simp; omega
     rw [b1,b2,b3,b4,b5,b6]
     cases getB T.begun e.th <;> cases getB T.ended e.th <;> rfl
  ·rw [if_neg h4,decide_eq_false h4]
   cases ha:acs e
   ·cases getB T.begun e.th <;> cases getB T.ended e.th <;> rfl
   ·by_cases n1:e.n < 0
    ·have:decide (e.n≥0)=false:=by simp; omega
     rw [this,decide_eq_true n1]; simp
    ·by_cases n2:e.n > 65536
     ·have:decide (e.n≤65536)=false:=by simp; omega
      rw [this,decide_eq_true n2]; simp
     ·have b1:decide (e.n≥0)=true:=by simp; omega
      have b2:decide (e.n≤65536)=true:=by simp; omega
      have b5:decide (e.n < 0)=false:=by simp; omega
      have b6:decide (e.n > 65536)=false:=by simp; omega
      rw [b1,b2,b5,b6]
      cases getB T.begun e.th <;> cases getB T.ended e.th <;> rfl
theorem shaped_n {e:Ev} (h:shaped e=true):(e.kind=4→1≤e.n∧e.n≤16)∧1≤e.kind∧e.kind≤24:=by
 unfold shaped at h
 split at h
 ·cases h
 ·rename_i hk
  refine ⟨fun h4=>?_,by omega,by omega⟩
  rw [if_pos h4] at h
  simpa using h
theorem plan_both {T:Th} {r0:RR} {tk:List Int} {B:Int} (h:SR T r0 tk B) (hB:B < 4611686018427387000) (e:Ev) (i:Int) :
  (plan T e=none∧rwith r0 e i=none)∨∃ p r' tk',plan T e=some p∧rwith r0 e i=some r'∧EvR T e i r0 tk p r' tk' (B+16):=by
 have hpos:=h.pos
 have href:=shaped_refused T e
 cases hs:shaped e
 ·left
  refine ⟨?_,by unfold rwith; rw [if_pos hs]⟩
  unfold plan
  rw [href,hs]
  simp
 ·have hsf:¬ shaped e=false:=by simp [hs]
  obtain ⟨h4n,hk1,hk24⟩:=shaped_n hs
  have ht:0≤e.th∧e.th < 8:=⟨(shaped_th hs).1,(shaped_th hs).2.1⟩
  by_cases hlive:getB T.begun e.th=true∧getB T.ended e.th=false
  ·obtain ⟨hbe,hen⟩:=hlive
   have hr:refused T e=false:=by rw [href,hs,hbe,hen]; rfl
   have hplan:plan T e=if (act T e (pl0 T e)).bad then none else some (act T e (pl0 T e)):=by
    unfold plan
    rw [hr]
    simp
   rw [hplan]
   have hpl:=h.pl e i
   have pf:(pl0 T e).fork=-1:=rfl
   have pe:(pl0 T e).ends=-1:=rfl
   unfold rwith
   rw [if_neg hsf]
   have one:∀ (k:Int) (x:Ob),(k=2∨k=3∨k=4)→act T e (pl0 T e)=touchP T e k (pl0 T e) x→
     (((if (act T e (pl0 T e)).bad then none else some (act T e (pl0 T e)))=none∧rtouch r0 k e x i=none)∨∃ p r' tk',(if (act T e (pl0 T e)).bad then none else some (act T e (pl0 T e)))=some p∧rtouch r0 k e x i=some r'∧EvR T e i r0 tk p r' tk' (B+16)):=by
    intro k x hk ha
    rw [ha]
    rcases touch_step (x:=x) hpl ht hk hbe hen (by omega) hpos h.vi.len with ⟨h1,h2⟩ | ⟨r',h1,v,h2⟩
    ·left
     rw [if_pos h2]
     exact ⟨rfl,h1⟩
    ·right
     have hb:¬ (touchP T e k (pl0 T e) x).bad=true:=by rw [h2.bad]; decide
     rw [if_neg hb]
     refine ⟨_,r',_,rfl,h1,h2.finish h ht ((touchP_same T e k _ x).1.trans pf) ((touchP_same T e k _ x).2.trans pe) ?_ (by omega) ⟨[v],rfl⟩⟩
     intro hne
     have h3:=h2.L
     rw [hne,List.append_nil] at h3
     have h4:r'.L.length=r0.L.length+1:=by
      have:=rtouches_len (e:=e) (i:=i) (l:=[x]) (r:=r0) (r':=r')
      unfold rtouch at h1
      split at h1
      ·cases h1
      ·unfold rput at h1
       split at h1
       ·cases h1
       ·cases h1
        have:(come r0 x).L=r0.L:=by unfold come; split <;> rfl
        simp [this]
     rw [h3] at h4; omega
   by_cases k4:e.kind=4
   ·rw [if_pos k4]
    have ha:act T e (pl0 T e)=(words e).foldl (fun p x=>touchP T e 4 p x) (pl0 T e):=by
     unfold act
     rw [if_pos k4,words_wl]
     exact atomicL_is T e _ _ _
    rw [ha]
    have hwl:(words e).length≤16:=by
     have:=wfold_len e e.n.toNat
     have:=h4n k4
     unfold words; omega
    rcases atomics_step ht hbe hen (words e) r0 (pl0 T e) tk B hpl hpos (by omega) with ⟨h1,h2⟩ | ⟨r',h1,ext,h2⟩
    ·left
     rw [if_pos h2]
     exact ⟨rfl,h1⟩
    ·right
     have hb:¬ ((words e).foldl (fun p x=>touchP T e 4 p x) (pl0 T e)).bad=true:=by rw [h2.bad]; decide
     rw [if_neg hb]
     refine ⟨_,r',_,rfl,h1,h2.finish h ht ((fold_same T e 4 (words e) _).1.trans pf) ((fold_same T e 4 (words e) _).2.trans pe) ?_ (by omega) ⟨ext,rfl⟩⟩
     intro hne
     have h3:=h2.L
     rw [hne,List.append_nil] at h3
     have h4:=rtouches_len h1
     have h5:=List.length_pos_iff.2 (words_ne (h4n k4).1)
     rw [h3] at h4; omega
   ·rw [if_neg k4]
    by_cases k14:e.kind=14
    ·rw [if_pos k14]
     refine one 3 (false,e.a) (by omega) ?_
     unfold act
     rw [if_neg k4,if_neg (by omega),if_neg (by omega),if_pos k14]
     rfl
    ·rw [if_neg k14]
     by_cases k15:e.kind=15
     ·rw [if_pos k15]
      refine one 2 (false,e.a) (by omega) ?_
      unfold act
      rw [if_neg k4,if_neg (by omega),if_neg (by omega),if_neg k14,if_pos k15]
      rfl
     ·rw [if_neg k15]
      have hcb:=h.vi.cb e.th ht.1 ht.2
      have rbe:getB r0.begun e.th=true:=by rw [h.begun]; exact hbe
      have ren:getB r0.ended e.th=false:=by rw [h.ended]; exact hen
      by_cases k11:e.kind=11
      ·rw [if_pos k11]
       have ha:act T e (pl0 T e)=spawn T e (pl0 T e):=by unfold act; rw [if_neg k4,if_pos k11]
       rw [ha]
       by_cases hbad:(!otherIs e || getB T.begun e.n)=true
       ·left
        have hb:(spawn T e (pl0 T e)).bad=true:=by unfold spawn; rw [if_pos hbad]
        rw [if_pos hb]
        refine ⟨rfl,?_⟩
        have:barred r0 ⟨5,e.th,e.n,0⟩=true:=by
         unfold barred
         rw [h.begun]
         unfold otherIs at hbad
         by_cases hn0:e.n < 0
         ·simp [hn0]
         ·by_cases hn8:e.n≥8
          ·simp [hn8]
          ·have a1:decide (e.n≥0)=true:=by simp; omega
           have a2:decide (e.n < 8)=true:=by simp; omega
           rw [a1,a2] at hbad
           simp at hbad
           simp [hbad]
        unfold rput
        rw [if_pos this]
       ·right
        have hb0:(!otherIs e || getB T.begun e.n)=false:=by simpa using hbad
        rw [Bool.or_eq_false_iff] at hb0
        obtain ⟨ho,hbn⟩:=hb0
        have ho:otherIs e=true:=by simpa using ho
        have hn:0≤e.n∧e.n < 8:=by unfold otherIs at ho; simpa using ho
        have hne:e.n≠e.th:=fun he=>by rw [he,hbe] at hbn; cases hbn
        have hsp:spawn T e (pl0 T e)={ tick e (pl0 T e) ⟨5,0,e.n,0⟩ with fork:=e.n,rel:=true }:=by
         unfold spawn
         rw [if_neg hbad]
        have hb:¬ (spawn T e (pl0 T e)).bad=true:=by rw [hsp]; exact Bool.false_ne_true
        rw [if_neg hb]
        have hbar:barred r0 ⟨5,e.th,e.n,0⟩=false:=by
         unfold barred
         have a1:decide (e.n < 0)=false:=by simp; omega
         have a2:decide (e.n≥8)=false:=by simp; omega
         simp only
         rw [rbe,ren,a1,a2,h.begun,hbn]; rfl
        have hrp:rput r0 ⟨5,e.th,e.n,0⟩ i=some { r0 with L:=r0.L++[⟨5,e.th,e.n,0⟩],of:=r0.of++[i],begun:=if (5:Int)=5 then r0.begun.set e.n.toNat true else r0.begun,ended:=if (5:Int)=6 then r0.ended.set e.n.toNat true else r0.ended }:=by
         unfold rput
         rw [hbar]
         rfl
        refine ⟨_,_,_,rfl,hrp,single h (by omega) ht (o:=⟨5,e.th,e.n,0⟩) (own0:=getC T.clocks e.th) rfl (.inr (.inl rfl)) hcb (fun s v=>?_) (fun h6=>?_) (fun _=>⟨hn.1,hn.2,hne⟩) ?_ ?_ ?_ ?_ ?_ ?_ ?_⟩
        ·constructor
         ·exact fun hh=>.inl hh
         ·rintro (hh | ⟨hh,_⟩)
          ·exact hh
          ·cases hh
        ·cases h6
        all_goals rw [hsp]; rfl
      ·rw [if_neg k11]
       by_cases k13:e.kind=13
       ·rw [if_pos k13]
        have ha:act T e (pl0 T e)=join T e (pl0 T e):=by unfold act; rw [if_neg k4,if_neg k11,if_pos k13]
        rw [ha]
        by_cases hbad:(!otherIs e || !getB T.begun e.n || getB T.ended e.n || e.n == e.th)=true
        ·left
         have hb:(join T e (pl0 T e)).bad=true:=by unfold join; rw [if_pos hbad]
         rw [if_pos hb]
         refine ⟨rfl,?_⟩
         have:barred r0 ⟨6,e.th,e.n,0⟩=true:=by
          unfold barred
          rw [h.begun,h.ended]
          unfold otherIs at hbad
          by_cases hn0:e.n < 0
          ·simp [hn0]
          ·by_cases hn8:e.n≥8
           ·simp [hn8]
           ·have a1:decide (e.n≥0)=true:=by simp; omega
            have a2:decide (e.n < 8)=true:=by simp; omega
            rw [a1,a2] at hbad
            simp only [Bool.and_self,Bool.not_true,Bool.false_or] at hbad
            simp only
            rw [show ((6:Int) == 5)=false from rfl,show ((6:Int) == 6)=true from rfl]
            simp only [Bool.false_or,Bool.true_and,Bool.false_and]
            rw [hbad]
            simp
         unfold rput
         rw [if_pos this]
        ·right
         have hb0:(!otherIs e || !getB T.begun e.n || getB T.ended e.n || e.n == e.th)=false:=by simpa using hbad
         rw [Bool.or_eq_false_iff,Bool.or_eq_false_iff,Bool.or_eq_false_iff] at hb0
         obtain ⟨⟨⟨ho,hbn⟩,hen'⟩,hne⟩:=hb0
         have ho:otherIs e=true:=by simpa using ho
         have hn:0≤e.n∧e.n < 8:=by unfold otherIs at ho; simpa using ho
         have hjn:join T e (pl0 T e)={ tick e { pl0 T e with own:=joinC (pl0 T e).own (getC T.clocks e.n) } ⟨6,0,e.n,0⟩ with ends:=e.n }:=by
          unfold join
          rw [if_neg hbad]
         have hb:¬ (join T e (pl0 T e)).bad=true:=by rw [hjn]; exact Bool.false_ne_true
         rw [if_neg hb]
         have hbar:barred r0 ⟨6,e.th,e.n,0⟩=false:=by
          unfold barred
          have a1:decide (e.n < 0)=false:=by simp; omega
          have a2:decide (e.n≥8)=false:=by simp; omega
          simp only
          rw [rbe,ren,a1,a2,h.begun,h.ended,hbn,hen',hne]; rfl
         have hrp:rput r0 ⟨6,e.th,e.n,0⟩ i=some { r0 with L:=r0.L++[⟨6,e.th,e.n,0⟩],of:=r0.of++[i],begun:=if (6:Int)=5 then r0.begun.set e.n.toNat true else r0.begun,ended:=if (6:Int)=6 then r0.ended.set e.n.toNat true else r0.ended }:=by
          unfold rput
          rw [hbar]
          rfl
         have hcn:=h.vi.cb e.n hn.1 hn.2
         refine ⟨_,_,_,rfl,hrp,single h (by omega) ht (o:=⟨6,e.th,e.n,0⟩) (own0:=joinC (getC T.clocks e.th) (getC T.clocks e.n)) rfl (.inr (.inr rfl)) (hcb.join hcn) (fun s v=>?_) (fun _=>hn) (fun h5=>?_) ?_ ?_ ?_ ?_ ?_ ?_ ?_⟩
         ·rw [join_le hcb.1 hcn.1]
          constructor
          ·rintro (hh | hh)
           ·exact .inl hh
           ·exact .inr ⟨rfl,hh⟩
          ·rintro (hh | ⟨_,hh⟩)
           ·exact .inl hh
           ·exact .inr hh
         ·cases h5
         all_goals rw [hjn]; rfl
       ·rw [if_neg k13]
        right
        have ha:act T e (pl0 T e)=step e (pl0 T e):=by unfold act; rw [if_neg k4,if_neg k11,if_neg k13,if_neg k14,if_neg k15]
        rw [ha]
        have hb:¬ (step e (pl0 T e)).bad=true:=Bool.false_ne_true
        rw [if_neg hb]
        have hbar:barred r0 ⟨1,e.th,0,0⟩=false:=by
         unfold barred
         simp only
         rw [rbe,ren]; rfl
        have hrp:rput r0 ⟨1,e.th,0,0⟩ i=some { r0 with L:=r0.L++[⟨1,e.th,0,0⟩],of:=r0.of++[i],begun:=if (1:Int)=5 then r0.begun.set (0:Int).toNat true else r0.begun,ended:=if (1:Int)=6 then r0.ended.set (0:Int).toNat true else r0.ended }:=by
         unfold rput
         rw [hbar]
         rfl
        refine ⟨_,_,_,rfl,hrp,single h (by omega) ht (o:=⟨1,e.th,0,0⟩) (own0:=getC T.clocks e.th) rfl (.inl rfl) hcb (fun s v=>?_) (fun h6=>?_) (fun h5=>?_) ?_ ?_ ?_ ?_ ?_ ?_ ?_⟩
        ·constructor
         ·exact fun hh=>.inl hh
         ·rintro (hh | ⟨hh,_⟩)
          ·exact hh
          ·cases hh
        ·cases h6
        ·cases h5
        all_goals rfl
  ·left
   have hdead:getB T.begun e.th=false∨getB T.ended e.th=true:=by
    cases h1:getB T.begun e.th
    ·exact .inl rfl
    ·cases h2:getB T.ended e.th
     ·exact absurd ⟨h1,h2⟩ hlive
     ·exact .inr rfl
   have hr:refused T e=true:=by
    rw [href,hs]
    rcases hdead with hd | hd <;> rw [hd] <;> simp
   refine ⟨by unfold plan; rw [if_pos hr],?_⟩
   rw [← h.begun,← h.ended] at hdead
   unfold rwith
   rw [if_neg hsf]
   by_cases k4:e.kind=4
   ·rw [if_pos k4]
    obtain ⟨x,t,hw⟩:=List.exists_cons_of_ne_nil (words_ne (h4n k4).1)
    rw [hw]
    unfold rtouches
    rw [rtouch_bar hdead]
   ·rw [if_neg k4]
    split
    ·exact rtouch_bar hdead
    ·split
     ·exact rtouch_bar hdead
     ·split
      ·exact rput_bar hdead
      ·split
       ·exact rput_bar hdead
       ·exact rput_bar hdead
def EvF (th:Nat→Int) (r:RR) (tk:List Int) (ev:List Made):Prop:=∀ k,k < ev.length→∃ s f,s < f∧f≤r.L.length∧(∀ a,a < r.L.length→(r.of.getD a 0=(k:Int)↔s≤a∧a < f))∧(∀ a,a < r.L.length→f≤a→(k:Int) < r.of.getD a 0)∧
 (∀ a,s≤a→a < f→(opA r.L a).th=th k)∧(ev.getD k ⟨0,[]⟩).first=tk.getD s 0∧
 (∀ a,a < f→(tk.getD a 0≤at0 (ev.getD k ⟨0,[]⟩).last (opA r.L a).th↔∃ b,b < f∧(a=b∨HB r.L a b)∧edge (th k) (opA r.L b)=true))
theorem getD_l {α:Type} {l m:List α} {a:Nat} {d:α} (h:a < l.length):(l++m).getD a d=l.getD a d:=by
 simp [List.getD,List.getElem?_append_left h]
theorem getD_rep_r {l:List Int} {n a:Nat} {i:Int} (h:l.length≤a) (h2:a < l.length+n):(l++List.replicate n i).getD a 0=i:=by
 simp only [List.getD,List.getElem?_append_right h,List.getElem?_replicate]
 rw [if_pos (by omega)]
 rfl
theorem EvF.step {T:Th} {th:Nat→Int} {e:Ev} {i:Nat} {r0 r:RR} {tk0 tk:List Int} {p:Pl} {B:Int} {ev:List Made} (h:EvF th r0 tk0 ev) (hev:ev.length=i) (hr:EvR T e (i:Nat) r0 tk0 p r tk B)
  (hol:r0.of.length=r0.L.length) (hof:∀ x∈r0.of,0≤x∧x < (i:Int)) (ht0:tk0.length=r0.L.length) (hth:th i=e.th):EvF th r tk (ev++[⟨p.tk,p.own⟩]):=by
 have hLl:r.L.length=r0.L.length+p.orders.length:=by rw [hr.L]; simp
 have hpos:0 < p.orders.length:=List.length_pos_iff.2 hr.ne
 have ofl:∀ a,a < r0.L.length→r.of.getD a 0=r0.of.getD a 0:=fun a ha=>by rw [hr.of]; exact getD_l (by omega)
 have ofr:∀ a,r0.L.length≤a→a < r.L.length→r.of.getD a 0=(i:Int):=fun a ha hb=>by rw [hr.of]; exact getD_rep_r (by omega) (by omega)
 have opl:∀ a,a < r0.L.length→opA r.L a=opA r0.L a:=fun a ha=>by rw [hr.L]; exact opA_left ha
 obtain ⟨ext,hext⟩:=hr.ext
 have tkl:∀ a,a < r0.L.length→tk.getD a 0=tk0.getD a 0:=fun a ha=>by rw [hext]; exact getD_l (by omega)
 have hbl:∀ a b,b < r0.L.length→(HB r.L a b↔HB r0.L a b):=fun a b hb=>by
  rw [hr.L]
  exact ⟨fun h=>h.of_app hb,fun h=>h.app⟩
 intro k hk
 rw [List.length_append,List.length_singleton] at hk
 by_cases hki:k < i
 ·obtain ⟨s,f,h1,h2,h3,h3',h4,h5,h6⟩:=h k (by omega)
  refine ⟨s,f,h1,by omega,fun a ha=>?_,fun a ha hf=>?_,fun a ha hb=>?_,?_,fun a ha=>?_⟩
  ·by_cases hal:a < r0.L.length
   ·rw [ofl a hal]; exact h3 a hal
   ·rw [ofr a (by omega) ha]
    constructor
    ·intro he; omega
    ·intro he; omega
  ·by_cases hal:a < r0.L.length
   ·rw [ofl a hal]; exact h3' a hal hf
   ·rw [ofr a (by omega) ha]; omega
  ·rw [opl a (by omega)]; exact h4 a ha hb
  ·rw [getD_l (by omega),tkl s (by omega)]; exact h5
  ·rw [getD_l (by omega),tkl a (by omega),opl a (by omega),h6 a ha]
   constructor
   ·rintro ⟨b,hb,hab,he⟩
    exact ⟨b,hb,hab.imp id fun hh=>(hbl a b (by omega)).2 hh,by rw [opl b (by omega)]; exact he⟩
   ·rintro ⟨b,hb,hab,he⟩
    exact ⟨b,hb,hab.imp id fun hh=>(hbl a b (by omega)).1 hh,by rw [opl b (by omega)] at he; exact he⟩
 ·have hke:k=i:=by omega
  subst hke
  have hg:(ev++[(⟨p.tk,p.own⟩:Made)]).getD k ⟨0,[]⟩=⟨p.tk,p.own⟩:=by
   rw [← hev]
   simp [List.getD]
  refine ⟨r0.L.length,r.L.length,by omega,by omega,fun a ha=>?_,fun a ha hf=>by omega,fun a ha hb=>?_,?_,fun a ha=>?_⟩
  ·by_cases hal:a < r0.L.length
   ·rw [ofl a hal]
    have:r0.of.getD a 0∈r0.of:=by
     simp only [List.getD,List.getElem?_eq_getElem (by omega:a < r0.of.length)]
     exact List.getElem_mem _
    have:=hof _ this
    constructor
    ·intro he; omega
    ·intro he; omega
   ·rw [ofr a (by omega) ha]
    simp only [true_iff]
    omega
  ·have hm:opA r.L a∈p.orders:=by
    unfold opA
    rw [hr.L]
    simp only [List.getD,List.getElem?_append_right ha]
    rw [List.getElem?_eq_getElem (by omega)]
    exact List.getElem_mem _
   rw [hr.ths _ hm,hth]
  ·rw [hg]; exact hr.tkp
  ·rw [hg,hr.own a ha,hth]
   exact Iff.rfl
theorem SR0:SR begin' rr0 [] 0:=by
 refine ⟨rfl,rfl,rfl,List.nodup_nil,by decide,?_,rfl,rfl,rfl,Int.le_refl 0⟩
 have hz:∀ u:Int,0≤u→u < 8→getC begin'.clocks u=zeroC:=fun u h0 h8=>by
  show (List.replicate 8 zeroC).getD u.toNat zeroC=zeroC
  simp only [List.getD,List.getElem?_replicate]
  split <;> rfl
 have ho:∀ k:Ob,(look begin'.objs k).getD zeroC=zeroC:=fun k=>rfl
 refine ⟨rfl,fun a ha=>absurd ha (Nat.not_lt_zero a),fun a ha=>absurd ha (Nat.not_lt_zero a),fun a ha=>absurd ha (Nat.not_lt_zero a),fun u _ _ a ha=>absurd ha (Nat.not_lt_zero a),fun k a ha=>absurd ha (Nat.not_lt_zero a),fun u t u0 u8 t0 t8=>?_,fun k t t0 t8=>?_,fun u u0 u8=>?_,fun k=>?_⟩
 ·rw [hz u u0 u8,hz t t0 t8]; exact Int.le_refl _
 ·rw [hz t t0 t8]; exact Int.le_refl _
 ·rw [hz u u0 u8]; exact CB.zero (Int.le_refl 0)
 ·exact CB.zero (Int.le_refl 0)
theorem runL_sim (th:Nat→Int):∀ (l:List Ev) (i:Nat) (T:Th) (h:Hist) (r:RR) (tk:List Int) (B:Int),SR T r tk B→h.orders=r.L→h.of=r.of→h.events.length=i→r.of.length=r.L.length→(∀ x∈r.of,0≤x∧x < (i:Int))→
  EvF th r tk h.events→(∀ m,m < l.length→th (i+m)=(l.getD m default).th)→B+16 * l.length < 4611686018427387000→
  (runL l i T h=none∧rsteps l i r=none)∨∃ h' r' tk',runL l i T h=some h'∧rsteps l i r=some r'∧h'.orders=r'.L∧h'.of=r'.of∧EvF th r' tk' h'.events∧h'.events.length=i+l.length
 | [],i,T,h,r,tk,B,hs,ho,hf,he,hol,hof,hev,hth,hB=>.inr ⟨h,r,tk,rfl,rfl,ho,hf,hev,by simpa using he⟩
 | e::t,i,T,h,r,tk,B,hs,ho,hf,he,hol,hof,hev,hth,hB=>by
  simp only [List.length_cons] at hB
  rcases plan_both hs (by omega) e (i:Nat) with ⟨h1,h2⟩ | ⟨p,r',tk',h1,h2,h3⟩
  ·left
   constructor
   ·unfold runL; rw [h1]
   ·unfold rsteps; rw [h2]
  ·have hth0:th i=e.th:=by have:=hth 0 (by simp); simpa using this
   have hev':=hev.step he h3 hol hof hs.vi.len hth0
   have key:=runL_sim th t (i+1) (perform T e p) ⟨h.orders++p.orders,h.of++List.replicate p.orders.length ((i:Nat):Int),h.events++[⟨p.tk,p.own⟩]⟩ r' tk' (B+16) h3.sr (by rw [h3.L]; simp [ho]) (by rw [h3.of]; simp [hf]) (by simp [he])
    (by rw [h3.L,h3.of]; simp [hol]) (fun x hx=>?_) hev' (fun m hm=>?_) (by omega)
   ·unfold runL rsteps
    rw [h1,h2]
    rcases key with ⟨k1,k2⟩ | ⟨h',r2,tk2,k1,k2,k3,k4,k5,k6⟩
    ·exact .inl ⟨k1,k2⟩
    ·exact .inr ⟨h',r2,tk2,k1,k2,k3,k4,k5,by rw [k6,List.length_cons]; omega⟩
   ·rw [h3.of] at hx
    rcases List.mem_append.1 hx with hx | hx
    ·have:=hof x hx; omega
    ·have:=List.eq_of_mem_replicate hx; omega
   ·have:=hth (m+1) (by simp; omega)
    rw [show i+1+m=i+(m+1) by omega,this]
    simp
theorem run_rord (l:List Ev):(∃ x,run l=.inr x∧rord l=.inr x∧(x=2∨x=300))∨∃ h r tk,run l=.inl h∧rord l=.inl r∧h.orders=r.L∧h.of=r.of∧EvF (fun k=>(l.getD k default).th) r tk h.events∧h.events.length=l.length:=by
 unfold run rord
 by_cases hl:l.length > 20000
 ·rw [if_pos hl,if_pos hl]
  exact .inl ⟨2,rfl,rfl,.inl rfl⟩
 ·rw [if_neg hl,if_neg hl]
  rcases runL_sim (fun k=>(l.getD k default).th) l 0 begin' ⟨[],[],[]⟩ rr0 [] 0 SR0 rfl rfl rfl rfl (by simp [rr0]) (fun k hk=>absurd hk (Nat.not_lt_zero k)) (fun m _=>by simp) (by omega) with ⟨h1,h2⟩ | ⟨h',r',tk',h1,h2,h3,h4,h5,h6⟩
  ·left
   have h1:runL l 0 begin' ⟨[],[],[]⟩=none:=h1
   have h2:rsteps l 0 rr0=none:=h2
   rw [h1,h2]
   exact ⟨300,rfl,rfl,.inr rfl⟩
  ·right
   have h1:runL l 0 begin' ⟨[],[],[]⟩=some h':=h1
   have h2:rsteps l 0 rr0=some r':=h2
   rw [h1,h2]
   exact ⟨h',r',tk',rfl,rfl,h3,h4,h5,by simpa using h6⟩
theorem before_is {th:Nat→Int} {r:RR} {tk:List Int} {ev:List Made} (h:EvF th r tk ev) (hol:r.of.length=r.L.length) (hof:∀ x∈r.of,0≤x∧x < (ev.length:Int)) {i j:Nat} (hij:i < j) (hj:j < ev.length) :
  decide (at0 (ev.getD j ⟨0,[]⟩).last (th i)≥(ev.getD i ⟨0,[]⟩).first)=(afterE r (i:Nat) ev.length).getD j false:=by
 rw [Bool.eq_iff_iff,afterE_spec hol hof hj,decide_eq_true_iff]
 obtain ⟨s,f,s1,s2,s3,s3',s4,s5,s6⟩:=h i (by omega)
 obtain ⟨s',f',t1,t2,t3,t3',t4,t5,t6⟩:=h j hj
 have hmem:∀ a,a < r.L.length→r.of.getD a 0∈r.of:=fun a ha=>by
  simp only [List.getD,List.getElem?_eq_getElem (by omega:a < r.of.length)]
  exact List.getElem_mem _
 have hs:r.of.getD s 0=(i:Int):=(s3 s (by omega)).2 ⟨Nat.le_refl s,s1⟩
 have hs':r.of.getD s' 0=(j:Int):=(t3 s' (by omega)).2 ⟨Nat.le_refl s',t1⟩
 have thS:(opA r.L s).th=th i:=s4 s (Nat.le_refl s) s1
 have hd:∀ a b,a < b→b < r.L.length→(opA r.L a).th=(opA r.L b).th→HB r.L a b:=fun a b hab hb ht=>HB.one hab hb (by rw [direct_is]; left; unfold edge; rw [ht]; simp)
 rw [s5,ge_iff_le,← thS]
 constructor
 ·intro hle
  by_cases hsf:s < f'
  ·obtain ⟨b,hb,hab,he⟩:=(t6 s hsf).1 hle
   by_cases hbj:s'≤b
   ·refine ⟨s,b,by omega,by omega,hs,(t3 b (by omega)).2 ⟨hbj,hb⟩,hij,?_⟩
    rcases hab with rfl | hab
    ·have:=(t3 s (by omega)).2 ⟨hbj,hb⟩
     omega
    ·exact hab
   ·refine ⟨s,s',by omega,by omega,hs,hs',hij,?_⟩
    have hdir:direct (opA r.L b) (opA r.L s')=true:=by
     rw [direct_is,t4 s' (Nat.le_refl s') t1]
     exact .inl he
    rcases hab with rfl | hab
    ·exact .one (by omega) (by omega) hdir
    ·exact .step hab (by omega) (by omega) hdir
  ·-- the operations of the later event come first: cannot be
   exfalso
   have:=t3' s (by omega) (by omega)
   omega
 ·rintro ⟨d,c,hd1,hc1,hd2,hc2,_,hdc⟩
  have hdr:=(s3 d hd1).1 hd2
  have hcr:=(t3 c hc1).1 hc2
  have hlt:=hdc.lt
  refine (t6 s (by omega)).2 ⟨c,hcr.2,.inr ?_,?_⟩
  ·by_cases hsd:s=d
   ·rw [hsd]; exact hdc
   ·exact (hd s d (by omega) hd1 (by rw [thS,s4 d hdr.1 hdr.2])).trans hdc
  ·unfold edge
   rw [t4 c hcr.1 hcr.2]
   simp
end Go.Fx.Mo
namespace Go.Fx.Mo
section assoc
variable {K V:Type} [DecidableEq K]
end assoc
def touched (e:Ev):Nat:=if (accesses e).2.2 then e.n.toNat else 0
def Fv (T:Th) (t x:Int):Prop:=(∃ u,0≤u∧u < 8∧u≠t∧x=at0 (getC T.clocks u) t)∨∃ k,x=at0 ((look T.objs k).getD zeroC) t
def evN (l:List Ev) (n:Nat):Ev:=l.getD n default
def stN (l:List Ev):Nat→Th
 | 0=>begin'
 | n+1=>match plan (stN l n) (evN l n) with
  | none=>stN l n
  | some p=>perform (stN l n) (evN l n) p
def pN (l:List Ev) (n:Nat):Pl:=(plan (stN l n) (evN l n)).getD default
def Ok (l:List Ev) (N:Nat):Prop:=∀ n,n < N→plan (stN l n) (evN l n)=some (pN l n)
theorem Ok.th {l:List Ev} {N n:Nat} (h:Ok l N) (hn:n < N):0≤(evN l n).th∧(evN l n).th < 8:=refused_th (plan_refused (h n hn))
theorem tell_cells:∀ (out:List Race) (cs:List (Int × Cell)) (ts:List (Int × Bool)) (b:Int),(¬ b∈out.map (·.byte)→look (tell out cs ts).1 b=look cs b)∧(b∈out.map (·.byte)→(look (tell out cs ts).1 b).isSome=true)
 | [],cs,ts,b=>by simp [tell]
 | x::r,cs,ts,b=>by
  have ih:=tell_cells r (put cs x.byte { (look cs x.byte).getD cell0 with l:=[] }) (put ts x.byte true) b
  unfold tell
  constructor
  ·intro hb
   simp only [List.map_cons,List.mem_cons,not_or] at hb
   rw [ih.1 hb.2,put_look,if_neg hb.1]
  ·intro hb
   by_cases hr:b∈r.map (·.byte)
   ·exact ih.2 hr
   ·rw [ih.1 hr]
    have:b=x.byte:=by
     rcases List.mem_cons.1 hb with h | h
     ·exact h
     ·exact absurd h hr
    rw [put_look,if_pos this]
    rfl
theorem acc_is (e:Ev):accesses e=(sto e,e.kind == 4,acs e):=by
 unfold accesses acs ld sto
 by_cases h2:e.kind=2∨e.kind=23
 ·rw [if_pos h2]
  rcases h2 with h2 | h2 <;> simp [h2]
 ·rw [if_neg h2]
  by_cases h3:e.kind=3∨e.kind=22
  ·rw [if_pos h3]
   rcases h3 with h3 | h3 <;> simp [h3]
  ·rw [if_neg h3]
   by_cases h4:e.kind=4
   ·rw [if_pos h4]; simp [h4]
   ·rw [if_neg h4]
    simp only [not_or] at h2 h3
    simp [h2,h3,h4]
theorem w32_is (x:Int):w32 x=x % 4294967296:=by unfold w32; simp only [IntKind.wrap,IntKind.bits,IntKind.signed]; simp
theorem has_bytes {e:Ev} {b:Int} (hn:e.n≤65536) (h0:0≤b) (hb:b < 4294967296):has e b=true↔acs e=true∧b∈bytes e.a e.n:=by
 unfold has bytes
 rw [Bool.and_eq_true,decide_eq_true_iff]
 refine and_congr_right fun _=>?_
 have h1:0≤w32 (b - e.a)∧w32 (b - e.a) < 4294967296:=by rw [w32_is]; omega
 rw [w64_small (by omega) (by omega),List.mem_map]
 constructor
 ·intro h
  refine ⟨(w32 (b - e.a)).toNat,by simp; omega,?_⟩
  have h2:(((w32 (b - e.a)).toNat:Nat):Int)=w32 (b - e.a):=by omega
  rw [h2,w32_is,w32_is,w32_is]
  omega
 ·rintro ⟨i,hi,he⟩
  have hi:i < e.n.toNat:=by simpa using hi
  rw [w32_is,w32_is] at he
  rw [w32_is]
  omega
theorem bytes_range (a n:Int):∀ b∈bytes a n,0≤b∧b < 4294967296:=by
 intro b hb
 obtain ⟨i,_,rfl⟩:=List.mem_map.1 hb
 rw [w32_is]
 omega
def Rc (l:List Ev) (b:Int) (i j:Nat):Prop:=has (evN l i) b=true∧has (evN l j) b=true∧conflict (accO (evN l i) i) (accO (evN l j) j)=true∧at0 (pN l j).own (evN l i).th < (pN l i).tk
instance (l:List Ev) (b:Int) (i j:Nat):Decidable (Rc l b i j):=by unfold Rc; infer_instance
def prR (l:List Ev) (b:Int) (i j:Nat):Option Race:=if Rc l b i j then some ⟨b,accO (evN l i) i,accO (evN l j) j⟩ else none
def rowR (l:List Ev) (b:Int) (j:Nat):List Race:=(List.range j).filterMap fun i=>prR l b i j
def bsN (e:Ev):List Int:=if acs e then bytes e.a e.n else []
theorem bsN_n {l:List Ev} {N n:Nat} (hok:Ok l N) (hn:n < N) (ha:acs (evN l n)=true):0≤(evN l n).n∧(evN l n).n≤65536:=by
 refine refused_n (plan_refused (hok n hn)) ?_
 rw [acc_is]; exact ha
theorem mem_bsN {l:List Ev} {N n:Nat} (hok:Ok l N) (hn:n < N) {b:Int} (h0:0≤b) (hb:b < 4294967296):b∈bsN (evN l n)↔has (evN l n) b=true:=by
 unfold bsN
 cases ha:acs (evN l n)
 ·simp [has,ha]
 ·rw [has_bytes (bsN_n hok hn ha).2 h0 hb,ha]
  simp
theorem bsN_range {e:Ev}:∀ b∈bsN e,0≤b∧b < 4294967296:=by
 intro b hb
 unfold bsN at hb
 split at hb
 ·exact bytes_range _ _ b hb
 ·cases hb
theorem runL_made (l:List Ev):∀ (m n:Nat) (h h':Hist),n+m=l.length→h.events.length=n→runL (l.drop n) (n:Nat) (stN l n) h=some h'→
  (∀ k,n≤k→k < l.length→plan (stN l k) (evN l k)=some (pN l k))∧∃ ext,h'.events=h.events++ext∧∀ k,n≤k→k < l.length→h'.events.getD k ⟨0,[]⟩=⟨(pN l k).tk,(pN l k).own⟩
 | 0,n,h,h',hn,he,hr=>by
  rw [List.drop_eq_nil_of_le (by omega)] at hr
  cases hr
  exact ⟨fun k h1 h2=>by omega,[],by simp,fun k h1 h2=>by omega⟩
 | m+1,n,h,h',hn,he,hr=>by
  have hd:l.drop n=evN l n::l.drop (n+1):=by
   rw [List.drop_eq_getElem_cons (by omega)]
   unfold evN
   simp [List.getD,show n < l.length by omega]
  rw [hd] at hr
  unfold runL at hr
  split at hr
  ·cases hr
  ·rename_i p hp
   have hpn:pN l n=p:=by unfold pN; rw [hp]; rfl
   have hst:stN l (n+1)=perform (stN l n) (evN l n) p:=by rw [stN,hp]
   rw [← hst] at hr
   obtain ⟨k1,ext,k2,k3⟩:=runL_made l m (n+1) _ h' (by omega) (by simp [he]) hr
   refine ⟨fun k h1 h2=>?_,⟨p.tk,p.own⟩::ext,by rw [k2]; simp,fun k h1 h2=>?_⟩
   ·by_cases hk:k=n
    ·rw [hk,hpn]; exact hp
    ·exact k1 k (by omega) h2
   ·by_cases hk:k=n
    ·rw [hk,k2,hpn]
     have:h.events++[(⟨p.tk,p.own⟩:Made)]++ext=h.events++(⟨p.tk,p.own⟩::ext):=by simp
     rw [this]
     simp [List.getD,he]
    ·exact k3 k (by omega) h2
theorem run_Ok {l:List Ev} {h:Hist} (hr:run l=.inl h):Ok l l.length∧l.length≤20000∧∀ k,k < l.length→h.events.getD k ⟨0,[]⟩=⟨(pN l k).tk,(pN l k).own⟩:=by
 unfold run at hr
 split at hr
 ·cases hr
 ·rename_i hl
  split at hr
  ·rename_i h2 h3
   cases hr
   obtain ⟨k1,ext,_,k3⟩:=runL_made l l.length 0 ⟨[],[],[]⟩ h (by omega) rfl (by rw [List.drop_zero]; exact h3)
   exact ⟨fun k hk=>k1 k (by omega) hk,by omega,fun k hk=>k3 k (by omega) hk⟩
  ·cases hr
theorem accessAt_is {l:List Ev} {N k:Nat} (hok:Ok l N) (hk:k < N) (b:Int):accessAt (evN l k) k b=if has (evN l k) b=true then some (accO (evN l k) k) else none:=by
 unfold accessAt
 rw [acc_is]
 unfold has accO
 cases ha:acs (evN l k)
 ·simp
 ·have hn:=bsN_n hok hk ha
  have h1:0≤w32 (b - (evN l k).a)∧w32 (b - (evN l k).a) < 4294967296:=by rw [w32_is]; omega
  have u:∀ x:Int,0≤x→x < 4294967296→w64u x=x:=fun x h0 h1=>by
   unfold w64u
   simp only [IntKind.wrap,IntKind.bits,IntKind.signed]
   simp
   omega
  rw [w64_small (by omega) (by omega),u _ h1.1 h1.2,u _ hn.1 (by omega)]
  by_cases hlt:w32 (b - (evN l k).a) < (evN l k).n
  ·rw [decide_eq_true hlt,decide_eq_false (by omega)]; rfl
  ·rw [decide_eq_false hlt,decide_eq_true (by omega)]; rfl
def hadN (l:List Ev) (b:Int) (j:Nat):List Acc:=(List.range j).filterMap fun k=>if has (evN l k) b=true then some (accO (evN l k) k) else none
theorem hadN_succ (l:List Ev) (b:Int) (n:Nat):hadN l b (n+1)=hadN l b n++(if has (evN l n) b=true then [accO (evN l n) n] else []):=by
 unfold hadN
 rw [List.range_succ,List.filterMap_append]
 by_cases hh:has (evN l n) b=true
 ·simp [hh]
 ·simp [hh]
theorem hadN_len (l:List Ev) (b:Int) (n:Nat):(hadN l b n).length≤n:=by
 unfold hadN
 refine Nat.le_trans (List.length_filterMap_le _ _) ?_
 simp
theorem evN_at {l:List Ev} {i:Nat} (h:i < l.length):l[i]=evN l i:=by
 unfold evN
 simp [List.getD,h]
end Go.Fx.Mo
namespace Go.Fx.Tryz
open Go Go.Fx Go.Fx.Mo
open Go.Proofs
variable {w0 w:World} {H Y:HL} {K:KT}
set_option maxRecDepth 20000
theorem info97:P.info? 97=some Tryz.t97:=by kernel_rfl
theorem app_accZ {A Lo:HL} {oa:Option Addr} {oc nb:Nat} {out:List Mo.Acc} {p:Mo.Acc} {t:TypeId} (h:St w0 w (A++(Lo++H))) (hS:SlO 5 97 (.slice oa out.length oc) out.length (accsZ out) Lo) (hN:New w0 Lo) {j:Nat} (hj:A[j]?=some (nb,Cs (Acccs p) t)) (hb:out.length < 1000000000) :
  ∃ g cap w' L',(Builtin.append_ #[74,74] 74 [.slice oa out.length oc,.slice (some ⟨nb,0,none⟩) 1 1].toArray).run P w=.ok (.slice (some ⟨g,0,none⟩) (out++[p]).length cap) w'∧
   SlO 5 97 (.slice (some ⟨g,0,none⟩) (out++[p]).length cap) (out++[p]).length (accsZ (out++[p])) L'∧St w0 w' (A++(L'++H))∧New w0 L':=by
 rw [show (out++[p]).length=out.length+1 by simp,accsZ_snoc]
 exact St.append (P:=P) 74 74 97 Tryz.t97 (.agg #[I64 0,I64 0,.int .u32 0,.bool false,.bool false]) 5 24 Tryz.underlying74 info97 rfl rfl rfl rfl (by omega) h hS hN hj (Acccs_len _) (by simp [Acccs,Value.oneCell']) (by simp [maxLen]; omega) (by omega)
theorem box_accZ (p:Mo.Acc):(([Value.agg (Acccs p).toArray].map fun (v:Value)=>v.cells.toList).flatten)=Acccs p:=by simp [Value.cells]
theorem accessesZ_ok {l:List Ev} {ov:Value} (b:Int) (h:St w0 w H) (hrow:∀ w',St w0 w' H→Row w' 6 ov l.length (evsCs l)) (hl63:l.length < 1000000)
  (herr:∀ x,Mo.run l=.inr x→x≠0→∀ w',St w0 w' H→K (.tuple [nilS,I64 x].toArray) w')
  (hok:∀ hh,Mo.run l=.inl hh→∀ w' a c Lo,SlO 5 97 (.slice a (hadN l b l.length).length c) (hadN l b l.length).length (accsZ (hadN l b l.length)) Lo→New w0 Lo→St w0 w' (Lo++H)→K (.tuple [.slice a (hadN l b l.length).length c,I64 0].toArray) w') :
  CallL P 23 [ov,.int .u32 b] w K:=by
 obtain ⟨sa,sc,hov⟩:=(hrow w h).form
 subst hov
 refine f23_ok _ _ _ _ _ _ ?_
 rw [f23_eq,z89]
 refine run_ok h hrow (by omega) (fun x hx w1 h1=>⟨_,x,rfl,?_⟩) (fun hh hrun w1 v1 v2 v3 L1 L2 L3 hho h1=>⟨_,0,rfl,?_⟩)
 ·refine h1.newC fun n6 w2 hn6 h2=>h2.stA (k:=0) rfl rfl (by simp) (by simp [Value.oneCell']) fun w3 h3=>?_
  have hx0:x≠0:=by
   unfold Mo.run at hx
   split at hx
   ·cases hx; omega
   ·split at hx
    ·cases hx
    ·cases hx; omega
  rw [show (x != 0)=true by simpa using hx0,BIf_true]
  exact herr x hx hx0 _ (h3.tail hn6)
 ·obtain ⟨a1,c1,e1⟩:=hho.s1.form
  obtain ⟨a2,c2,e2⟩:=hho.s2.form
  obtain ⟨a3,c3,e3⟩:=hho.s3.form
  refine h1.newC fun n6 w2 hn6 h2=>h2.stA (k:=0) rfl rfl (by simp) (by simp [e1,e2,e3,Value.oneCell']) fun w3 h3=>?_
  rw [show ((0:Int) != 0)=false by decide,BIf_false,f23_s0_eq]
  have h3:St w0 w3 ((n6,Cs [v1,v2,v3] 141)::(L1++(L2++(L3++H)))):=h3
  have h4:St w0 w3 H:=(((h3.tail hn6).sub hho.n1).sub hho.n2).sub hho.n3
  obtain ⟨hokl,hl20,_⟩:=run_Ok hrun
  refine ⟨l.length,fun wq _=>run_len_22 wq,?_⟩
  refine ⟨fun m ee w=>∃ (i:Nat) (oa:Option Addr) (oc:Nat) (Lo:HL),i≤l.length∧m=l.length - i∧ee=Env.mk 39 [(22,(Value.int .i64 i)),(8,(Value.slice oa (hadN l b i).length oc)),(1,(Value.int .u32 b)),(0,(Value.slice sa l.length sc)),(4,nilS),(5,(Value.int .i64 0)),(21,(Value.int .i64 l.length))] []∧
    SlO 5 97 (.slice oa (hadN l b i).length oc) (hadN l b i).length (accsZ (hadN l b i)) Lo∧New w0 Lo∧St w0 w (Lo++H),
   ⟨l.length,0,none,0,[],by omega,rfl,rfl,SlO.nil 5 97,New.nil w0,h4⟩,?_⟩
  rintro m ee w4 ⟨i,oa,oc,Lo,hi,rfl,rfl,hS,hN,hw⟩
  show f23_lb1 ..
  rw [f23_lb1_eq,BIf_iff]
  constructor
  ·intro hlt
   have hlt:i < l.length:=by simpa using hlt
   rw [f23_s2_eq]
   have hwr:IntKind.wrap .i64 ((i:Int)+1)=((i+1:Nat):Int):=by rw [wrap_i64 (by omega) (by omega)]; rfl
   have hrw:∀ w',St w0 w' (Lo++H)→Row w' 6 (.slice sa l.length sc) l.length (evsCs l):=fun w' h'=>hrow w' (h'.sub hN)
   refine access_ok hw hrw hlt b fun w5 h5=>?_
   have hac:accessAt l[i] i b=if has (Mo.evN l i) b=true then some (accO (Mo.evN l i) i) else none:=by rw [evN_at hlt]; exact accessAt_is hokl hlt b
   rw [hac]
   have hsu:=hadN_succ l b i
   have hlen:=hadN_len l b i
   by_cases hh:has (Mo.evN l i) b=true
   ·rw [if_pos hh] at hsu ⊢
    refine ⟨_,true,rfl,?_⟩
    rw [z45]
    refine h5.newC fun n7 w6 hn7 h6=>h6.stA (k:=0) rfl rfl (by simp [Acccs_len]) (by simp [Acccs,Value.oneCell']) fun w7 h7=>?_
    have h7:St w0 w7 ((n7,Cs (Acccs (accO (Mo.evN l i) i)) 97)::(Lo++H)):=h7
    rw [BIf_true]
    refine h7.ldA (k:=0) (i:=0) rfl (by simp [Acccs_len]) ?_
    rw [show ((Acccs (accO (Mo.evN l i) i)).drop 0).take 5=Acccs (accO (Mo.evN l i) i) from rfl]
    refine ⟨⟨rfl,trivial⟩,?_⟩
    refine h7.newC fun n8 w8 hn8 h8=>?_
    rw [box_accZ] at h8
    have h8:St w0 w8 ([(n8,Cs (Acccs (accO (Mo.evN l i) i)) 97),(n7,Cs (Acccs (accO (Mo.evN l i) i)) 97)]++(Lo++H)):=h8
    obtain ⟨g,cap,w9,L',hru,hS',g9,hN'⟩:=app_accZ h8 hS hN (j:=0) rfl (by omega)
    refine ⟨_,_,_,w9,hru,?_⟩
    rw [f23_s3_eq,hwr]
    refine ⟨l.length - (i+1),by omega,i+1,some ⟨g,0,none⟩,cap,L',by omega,rfl,by rw [hsu],by rw [hsu]; exact hS',hN',?_⟩
    exact (St.tail (b:=n8) g9 hn8).tail hn7
   ·rw [if_neg hh] at hsu ⊢
    rw [List.append_nil] at hsu
    refine ⟨_,false,rfl,?_⟩
    rw [z45]
    refine h5.newC fun n7 w6 hn7 h6=>h6.stA (k:=0) rfl rfl (by simp [zacc]) (by simp [zacc,Value.oneCell']) fun w7 h7=>?_
    rw [BIf_false,f23_s3_eq,hwr]
    refine ⟨l.length - (i+1),by omega,i+1,oa,oc,Lo,by omega,rfl,by rw [hsu],by rw [hsu]; exact hS,hN,?_⟩
    exact h7.tail hn7
  ·intro hge
   have hge:l.length≤i:=by simpa using hge
   have:i=l.length:=by omega
   subst this
   rw [f23_s4_eq]
   exact hok hh hrun w4 oa oc Lo hS hN hw
set_option maxHeartbeats 1000000 in
theorem refAccesses_ok {l:List Ev} {ov:Value} (b:Int) (h:St w0 w H) (hrow:∀ w',St w0 w' H→Row w' 6 ov l.length (evsCs l))
  (herr:∀ x,rord l=.inr x→x≠0→∀ w',St w0 w' H→K (.tuple [nilS,I64 x].toArray) w')
  (hok:∀ r,rord l=.inl r→∀ w' a c Lo,SlO 5 97 (.slice a (hadN l b l.length).length c) (hadN l b l.length).length (accsZ (hadN l b l.length)) Lo→New w0 Lo→St w0 w' (Lo++H)→K (.tuple [.slice a (hadN l b l.length).length c,I64 0].toArray) w') :
  CallL P 24 [ov,.int .u32 b] w K:=by
 obtain ⟨sa,sc,hov⟩:=(hrow w h).form
 subst hov
 refine f24_ok _ _ _ _ _ _ ?_
 rw [f24_eq]
 refine order_ok' h hrow (fun x hx hx0 w1 h1=>⟨_,rfl,x,by simp [errCs],?_⟩) fun r hr hl20 hbd w1 cs g1=>⟨_,rfl,0,?_,?_⟩
 ·rw [show (x != 0)=true by simpa using hx0,BIf_true]
  exact herr x hx hx0 w1 h1
 ·obtain ⟨lv,vv,xv,LL,LO,LX,rfl,hri,hs⟩:=g1
  have:(runCs r 0 lv vv xv)[19]?=some (I64 0):=by
   show (flagCs r 0)[16]?=_
   unfold flagCs
   rw [List.getElem?_append_right (by simp [hri.bl]),List.getElem?_append_right (by simp [hri.bl,hri.el])]
   simp [hri.bl,hri.el]
  simpa using this
 ·rw [show ((0:Int) != 0)=false by decide,BIf_false,f24_s0_eq]
  refine ⟨_,_,_,_,(by kernel_rfl:(Instr.buildSlice 74 0 ([]:List (Nat × Value)).toArray).run P w1=.ok (.slice (some ⟨w1.heap.size,0,none⟩) 0 0) (w1.alloc (.cells #[] 97 (0,0)))),?_⟩
  have h2:=g1.base.alloc (.cells #[] 97 (0,0))
  have hn:=g1.base.le
  generalize w1.heap.size=n at h2 hn
  have h2:St w0 (w1.alloc (.cells #[] 97 (0,0))) ([(n,Cs [] 97)]++H):=h2
  refine ⟨fun m ee w=>∃ (i:Nat) (oa:Option Addr) (oc:Nat) (Lo:HL),i≤l.length∧m=l.length - i∧ee=Env.mk 38 [(8,(Value.int .i64 i)),(0,(Value.slice sa l.length sc)),(7,(Value.slice oa (hadN l b i).length oc)),(1,(Value.int .u32 b)),(4,nilS),(5,(Value.int .i64 0))] []∧
    SlO 5 97 (.slice oa (hadN l b i).length oc) (hadN l b i).length (accsZ (hadN l b i)) Lo∧New w0 Lo∧St w0 w (Lo++H),
   ⟨l.length,0,_,_,_,by omega,rfl,rfl,slO_nil0 5 97 n,by simpa [New] using hn,h2⟩,?_⟩
  rintro m ee w4 ⟨i,oa,oc,Lo,hi,rfl,rfl,hS,hN,hw⟩
  show f24_lb1 ..
  rw [f24_lb1_eq]
  refine ⟨l.length,fun wq _=>run_len_22 wq,?_⟩
  rw [BIf_iff]
  constructor
  ·intro hlt
   have hlt:i < l.length:=by simpa using hlt
   rw [f24_s2_eq]
   have hwr:IntKind.wrap .i64 ((i:Int)+1)=((i+1:Nat):Int):=by rw [wrap_i64 (by omega) (by omega)]; rfl
   have hrw:∀ w',St w0 w' (Lo++H)→Row w' 6 (.slice sa l.length sc) l.length (evsCs l):=fun w' h'=>hrow w' (h'.sub hN)
   obtain ⟨a,c,hac,hld⟩:=(hrw w4 hw).ldA hlt
   obtain ⟨hsa,-⟩:sa=some a∧sc=c:=by simpa using hac
   subst hsa
   have hsu:=hadN_succ l b i
   have hlen:=hadN_len l b i
   refine ⟨by omega,by omega,hld _ ?_⟩
   rw [evs_at hlt,evN_at hlt]
   refine has_ok hw (Mo.evN l i) b fun w5 h5=>⟨_,rfl,?_⟩
   rw [BIf_iff]
   constructor
   ·intro hh
    rw [if_pos hh] at hsu
    obtain ⟨a',c',hac',hld'⟩:=(hrw w5 h5).ldA hlt
    obtain ⟨hsa,-⟩:a=a'∧sc=c':=by simpa using hac'
    subst hsa
    refine ⟨by omega,by omega,hld' _ ?_⟩
    rw [evs_at hlt,evN_at hlt]
    refine acc_ok h5 (Mo.evN l i) i fun w6 h6=>⟨_,rfl,⟨rfl,trivial⟩,?_⟩
    refine h6.newC fun n8 w8 hn8 h8=>?_
    rw [box_accZ] at h8
    have h8:St w0 w8 ([(n8,Cs (Acccs (accO (Mo.evN l i) i)) 97)]++(Lo++H)):=h8
    obtain ⟨g,cap,w9,L',hru,hS',g9,hN'⟩:=app_accZ h8 hS hN (j:=0) rfl (by omega)
    refine ⟨_,_,_,w9,hru,?_⟩
    rw [f24_s3_eq,hwr]
    refine ⟨l.length - (i+1),by omega,i+1,some ⟨g,0,none⟩,cap,L',by omega,rfl,by rw [hsu],by rw [hsu]; exact hS',hN',?_⟩
    exact St.tail (b:=n8) g9 hn8
   ·intro hh
    rw [if_neg (by rw [hh]; decide),List.append_nil] at hsu
    rw [f24_s3_eq,hwr]
    exact ⟨l.length - (i+1),by omega,i+1,oa,oc,Lo,by omega,rfl,by rw [hsu],by rw [hsu]; exact hS,hN,h5⟩
  ·intro hge
   have hge:l.length≤i:=by simpa using hge
   have:i=l.length:=by omega
   subst this
   rw [f24_s4_eq]
   exact hok r hr w4 oa oc Lo hS hN hw
end Go.Fx.Tryz
namespace Go.Fx.Tryz
set_option maxRecDepth 100000
open Go Go.Fx Go.Proofs
noncomputable def c117:Code:=bodyOf Tryz.f117
noncomputable def rs117:List ResultVar:=Tryz.f117.results.toList
abbrev f117_kb (K:KT):Exit→YT:=bodyK P rs117 K
def f117 (a:OA) (b c:Nat) (d e:Int) (w:World) (K:KT):Prop:=CS P c117 none [] [] (f117_kb K) (env0 49 [(VS a b c),(VI d),(VI e)]) w
def f117_s0 (a:OA) (b c:Nat) (d e:Int) (w:World) (K:KT):Prop:=CS P (cA c117 1) none [] [] (f117_kb K) (Env.mk 49 [(0,(VS a b c)),(1,(VI d)),(2,(VI e))] []) w
abbrev f117_k0 (K:KT):Exit→YT:=kseq P (cA c117 2) (cA c117 3) none [] [] (f117_kb K)
def f117_s1 (a b c:Int) (d:OA) (e f:Nat) (g h:Int) (w:World) (K:KT):Prop:=CS P (cA c117 3) none [] [] (f117_kb K) (Env.mk 49 [(6,(VI a)),(9,(VI b)),(8,(VI c)),(0,(VS d e f)),(1,(VI g)),(2,(VI h))] []) w
abbrev f117_k1 (K:KT):Exit→YT:=kblock 0 (f117_kb K)
def f117_lp2 (K:KT) (Y2:YT) (e:Env) (w:World):Prop:=Join (fun e w=>CS P (cA c117 12) none [0,6,1,2] [] (kloop [0,6,1,2] Y2 (f117_k1 K)) e w) e w
abbrev f117_kl2 (K:KT) (Y2:YT):Exit→YT:=kloop [0,6,1,2] Y2 (f117_k1 K)
def f117_lb2 (a:OA) (b c:Nat) (d f g:Int) (w:World) (K:KT) (Y2:YT):Prop:=SG P (cA c117 12) none [0,6,1,2] [] (f117_kl2 K Y2) (Env.mk 49 [(0,(VS a b c)),(6,(VI d)),(1,(VI f)),(2,(VI g))] []) w
abbrev f117_k2 (K:KT) (Y2:YT):Exit→YT:=kseq P (cA c117 24) (cA c117 25) none [0,6,1,2] [] (f117_kl2 K Y2)
abbrev f117_k3 (K:KT) (Y2:YT):Exit→YT:=kseq P (cA c117 48) (cA c117 49) none [0,1,2,6] [] (f117_k2 K Y2)
def f117_s3 (a:OA) (b c:Nat) (d f g:Int) (w:World) (K:KT) (Y2:YT):Prop:=SG P (cA c117 25) none [0,6,1,2] [] (f117_kl2 K Y2) (Env.mk 49 [(0,(VS a b c)),(1,(VI d)),(2,(VI f)),(6,(VI g))] []) w
abbrev f117_k4 (K:KT) (Y2:YT):Exit→YT:=kseq P (cA c117 50) (cA c117 51) none [0,6,1,2] [] (f117_kl2 K Y2)
abbrev f117_k5 (K:KT) (Y2:YT):Exit→YT:=kblock 1 (f117_k4 K Y2)
abbrev f117_k6 (K:KT) (Y2:YT):Exit→YT:=kseq P (cA c117 200) (cA c117 201) none [0,1,2,6] [0,1,2,6] (f117_k5 K Y2)
def f117_s4 (a b:Int) (c:OA) (d e:Nat) (f g h:Int) (w:World) (K:KT) (Y2:YT):Prop:=CS P (cA c117 201) none [0,1,2,6] [0,1,2,6] (f117_k5 K Y2) (Env.mk 49 [(7,(VI a)),(15,(VI b)),(0,(VS c d e)),(1,(VI f)),(2,(VI g)),(6,(VI h))] []) w
abbrev f117_k7 (K:KT) (Y2:YT):Exit→YT:=kblock 2 (f117_k5 K Y2)
def f117_lp5 (K:KT) (Y2 Y5:YT) (e:Env) (w:World):Prop:=Join (fun e w=>CS P (cA c117 804) none [7,0,1,2,6] [0,1,2,6] (kloop [7,0,1,2,6] Y5 (f117_k7 K Y2)) e w) e w
abbrev f117_kl5 (K:KT) (Y2 Y5:YT):Exit→YT:=kloop [7,0,1,2,6] Y5 (f117_k7 K Y2)
def f117_lb5 (a:Int) (b:OA) (c d:Nat) (f g h:Int) (w:World) (K:KT) (Y2 Y5:YT):Prop:=SG P (cA c117 804) none [7,0,1,2,6] [0,1,2,6] (f117_kl5 K Y2 Y5) (Env.mk 49 [(7,(VI a)),(0,(VS b c d)),(1,(VI f)),(2,(VI g)),(6,(VI h))] []) w
abbrev f117_k8 (K:KT) (Y2 Y5:YT):Exit→YT:=kseq P (cA c117 1608) (cA c117 1609) none [7,0,1,2,6] [0,1,2,6] (f117_kl5 K Y2 Y5)
abbrev f117_k9 (K:KT) (Y2 Y5:YT):Exit→YT:=kseq P (cA c117 3216) (cA c117 3217) none [0,1,2,6,7] [0,1,2,6] (f117_k8 K Y2 Y5)
def f117_s6 (a:Bool) (b:OA) (c d:Nat) (f g h i:Int) (w:World) (K:KT) (Y2 Y5:YT):Prop:=SG P (cA c117 3217) none [0,1,2,6,7] [0,1,2,6] (f117_k8 K Y2 Y5) (Env.mk 49 [(30,(VB a)),(0,(VS b c d)),(1,(VI f)),(2,(VI g)),(6,(VI h)),(7,(VI i))] []) w
def f117_s7 (a:OA) (b c:Nat) (d f g h:Int) (w:World) (K:KT) (Y2 Y5:YT):Prop:=SG P (cA c117 1609) none [7,0,1,2,6] [0,1,2,6] (f117_kl5 K Y2 Y5) (Env.mk 49 [(0,(VS a b c)),(1,(VI d)),(2,(VI f)),(6,(VI g)),(7,(VI h))] []) w
abbrev f117_k10 (K:KT) (Y2 Y5:YT):Exit→YT:=kseq P (cA c117 3218) (cA c117 3219) none [7,0,1,2,6] [0,1,2,6] (f117_kl5 K Y2 Y5)
abbrev f117_k11 (K:KT) (Y2 Y5:YT):Exit→YT:=kblock 3 (f117_k10 K Y2 Y5)
def f117_s8 (a:OA) (b c:Nat) (d f g h:Int) (w:World) (K:KT) (Y2 Y5:YT):Prop:=SG P (cA c117 3219) none [7,0,1,2,6] [0,1,2,6] (f117_kl5 K Y2 Y5) (Env.mk 49 [(0,(VS a b c)),(1,(VI d)),(2,(VI f)),(6,(VI g)),(7,(VI h))] []) w
theorem f117_s8_eq (a:OA) (c d:Nat) (e f g h:Int) (w:World) (K:KT) (Y2 Y5:YT):f117_s8 a c d e f g h w K Y2 Y5=(Y5 (Env.mk 49 [(7,(Value.int .i64 (IntKind.wrap .i64 ((h:Int) - 1)))),(0,(Value.slice a c d)),(1,(Value.int .i64 e)),(2,(Value.int .i64 f)),(6,(Value.int .i64 g))] []) w):=Eq.trans SGe (by kernel_rfl)
theorem f117_s7_eq (d:OA) (e f:Nat) (g h i c:Int) (w:World) (K:KT) (Y2 Y5:YT):f117_s7 d e f g h i c w K Y2 Y5=(optS d (fun l=>0≤((IntKind.wrap .i64 ((c:Int) - 1)):Int)∧((IntKind.wrap .i64 ((c:Int) - 1)):Int) < (e:Nat)∧optS d (fun m=>0≤(c:Int)∧(c:Int) < (e:Nat)∧∃ j:Int,w.drew.cell? (l.add (Int.toNat (IntKind.wrap .i64 ((c:Int) - 1)) * 1))=some (.int .u32 j)∧∃ k:Int,w.drew.cell? (m.add (Int.toNat c * 1))=some (.int .u32 k)∧optS d (fun n=>0≤(c:Int)∧(c:Int) < (e:Nat)∧St1 (n.add (Int.toNat c * 1)) (Value.int .u32 j) w.drew (fun o=>optS d (fun p=>0≤((IntKind.wrap .i64 ((c:Int) - 1)):Int)∧((IntKind.wrap .i64 ((c:Int) - 1)):Int) < (e:Nat)∧St1 (p.add (Int.toNat (IntKind.wrap .i64 ((c:Int) - 1)) * 1)) (Value.int .u32 k) o (fun q=>f117_s8 d e f g h i c q K Y2 Y5))))))):=Eq.trans SGe (Eq.trans (CSs [0,1,2,6,7] (f117_k10 K Y2 Y5) (by kernel_rfl)) (Eq.trans (CSb 3 [0,1,2,6,7] (f117_k11 K Y2 Y5) (by kernel_rfl)) (by kernel_rfl)))
def f117_s9 (a:OA) (b c:Nat) (d f g:Int) (w:World) (K:KT) (Y2:YT):Prop:=SG P (cA c117 51) none [0,6,1,2] [] (f117_kl2 K Y2) (Env.mk 49 [(0,(VS a b c)),(1,(VI d)),(2,(VI f)),(6,(VI g))] []) w
theorem f117_s9_eq (a:OA) (c d:Nat) (e f g:Int) (w:World) (K:KT) (Y2:YT):f117_s9 a c d e f g w K Y2=(Y2 (Env.mk 49 [(0,(Value.slice a c d)),(6,(Value.int .i64 (IntKind.wrap .i64 ((g:Int)+1)))),(1,(Value.int .i64 e)),(2,(Value.int .i64 f))] []) w):=Eq.trans SGe (by kernel_rfl)
theorem f117_s6_eq (h:Bool) (a:OA) (c d:Nat) (e f g i:Int) (w:World) (K:KT) (Y2 Y5:YT):f117_s6 h a c d e f g i w K Y2 Y5=(BIf h (f117_s7 a c d e f g i w K Y2 Y5) (f117_s9 a c d e f g w K Y2)):=Eq.trans SGe (by kernel_rfl)
theorem f117_lb5_eq (c:Int) (d:OA) (e g:Nat) (f h i:Int) (w:World) (K:KT) (Y2 Y5:YT):f117_lb5 c d e g f h i w K Y2 Y5=(BIf (decide ((c:Int) > f)) (optS d (fun m=>0≤(c:Int)∧(c:Int) < (e:Nat)∧optS d (fun n=>0≤((IntKind.wrap .i64 ((c:Int) - 1)):Int)∧((IntKind.wrap .i64 ((c:Int) - 1)):Int) < (e:Nat)∧∃ j:Int,w.drew.cell? (m.add (Int.toNat c * 1))=some (.int .u32 j)∧∃ k:Int,w.drew.cell? (n.add (Int.toNat (IntKind.wrap .i64 ((c:Int) - 1)) * 1))=some (.int .u32 k)∧CallL P 123 [(Value.int .u32 j),(Value.int .u32 k)] w.drew (fun o p=>∃ l:Bool,o=(.bool l)∧f117_s6 l d e g f h i c p K Y2 Y5)))) (f117_s6 false d e g f h i c w.drew K Y2 Y5)):=Eq.trans SGe (Eq.trans (CSs [0,1,2,6,7] (f117_k8 K Y2 Y5) (by kernel_rfl)) (Eq.trans (CSs [30,0,1,2,6,7] (f117_k9 K Y2 Y5) (by kernel_rfl)) (by kernel_rfl)))
theorem f117_s4_eq (a i:Int) (c:OA) (d e:Nat) (f g h:Int) (w:World) (K:KT) (Y2:YT):f117_s4 a i c d e f g h w K Y2=(LoopE (f117_lp5 K Y2) (Env.mk 49 [(7,(Value.int .i64 a)),(0,(Value.slice c d e)),(1,(Value.int .i64 f)),(2,(Value.int .i64 g)),(6,(Value.int .i64 h))] []) w):=Eq.trans (b:=CS P (cA c117 201) none [0,1,2,6] [0,1,2,6] (f117_k5 K Y2) (Env.mk 49 [(7,(VI a)),(15,(VI i)),(0,(VS c d e)),(1,(VI f)),(2,(VI g)),(6,(VI h))] []) w) (by kernel_rfl) (Eq.trans (CSb 2 [0,1,2,6] (f117_k7 K Y2) (by kernel_rfl)) ((CS_loop' (b:=(cA c117 804)) (X':=[0,1,2,6]) (H:=[7,0,1,2,6]) (by kernel_rfl) (by kernel_rfl) (by kernel_rfl)).trans (by kernel_rfl)))
theorem f117_s3_eq (d:OA) (e f:Nat) (g h c:Int) (w:World) (K:KT) (Y2:YT):f117_s3 d e f g h c w K Y2=(f117_s4 c c d e f g h c w K Y2):=Eq.trans SGe (Eq.trans (CSs [0,1,2,6] (f117_k4 K Y2) (by kernel_rfl)) (Eq.trans (CSb 1 [0,1,2,6] (f117_k5 K Y2) (by kernel_rfl)) (Eq.trans (CSs [7,0,1,2,6] (f117_k6 K Y2) (by kernel_rfl)) (by kernel_rfl))))
theorem f117_lb2_eq (e:OA) (f g:Nat) (c h d:Int) (w:World) (K:KT) (Y2:YT):f117_lb2 e f g c h d w K Y2=(BIf (decide ((c:Int) < d)) (f117_s3 e f g h d c w K Y2) (K (Value.tuple [].toArray) w)):=Eq.trans SGe (Eq.trans (CSs [0,1,2,6] (f117_k2 K Y2) (by kernel_rfl)) (Eq.trans (CSs [12,0,1,2,6] (f117_k3 K Y2) (by kernel_rfl)) (by kernel_rfl)))
theorem f117_s1_eq (a h i:Int) (c:OA) (d e:Nat) (f g:Int) (w:World) (K:KT):f117_s1 a h i c d e f g w K=(LoopE (f117_lp2 K) (Env.mk 49 [(0,(Value.slice c d e)),(6,(Value.int .i64 a)),(1,(Value.int .i64 f)),(2,(Value.int .i64 g))] []) w):=Eq.trans (b:=CS P (cA c117 3) none [] [] (f117_kb K) (Env.mk 49 [(6,(VI a)),(9,(VI h)),(8,(VI i)),(0,(VS c d e)),(1,(VI f)),(2,(VI g))] []) w) (by kernel_rfl) (Eq.trans (CSb 0 [] (f117_k1 K) (by kernel_rfl)) ((CS_loop' (b:=(cA c117 12)) (X':=[]) (H:=[0,6,1,2]) (by kernel_rfl) (by kernel_rfl) (by kernel_rfl)).trans (by kernel_rfl)))
theorem f117_s0_eq (d:OA) (e f:Nat) (c g:Int) (w:World) (K:KT):f117_s0 d e f c g w K=(f117_s1 (IntKind.wrap .i64 ((c:Int)+1)) (IntKind.wrap .i64 ((c:Int)+1)) c d e f c g w K):=Eq.trans (b:=CS P (cA c117 1) none [] [] (f117_kb K) (Env.mk 49 [(0,(VS d e f)),(1,(VI c)),(2,(VI g))] []) w) (by kernel_rfl) (Eq.trans (CSs [0,6,1,2] (f117_k0 K) (by kernel_rfl)) (by kernel_rfl))
theorem f117_eq (a:OA) (b c:Nat) (d e:Int) (w:World) (K:KT):f117 a b c d e w K=(f117_s0 a b c d e w K):=by kernel_rfl
theorem f117_ok (a:OA) (b c:Nat) (d e:Int) (w:World) (K:KT) (h:f117 a b c d e w K):CallL P 117 [(Value.slice a b c),(Value.int .i64 d),(Value.int .i64 e)] w K:=okCS c117 Tryz.func117 (by kernel_rfl) (by kernel_rfl) h
noncomputable def c121:Code:=bodyOf Tryz.f121
noncomputable def rs121:List ResultVar:=Tryz.f121.results.toList
abbrev f121_kb (K:KT):Exit→YT:=bodyK P rs121 K
def f121 (a:OA) (b c:Nat) (d e:Int) (w:World) (K:KT):Prop:=CS P c121 none [] [] (f121_kb K) (env0 32 [(VS a b c),(VI d),(VI e)]) w
def f121_s0 (a:OA) (b c:Nat) (d e:Int) (w:World) (K:KT):Prop:=CS P (cA c121 1) none [] [] (f121_kb K) (Env.mk 32 [(0,(VS a b c)),(1,(VI d)),(2,(VI e))] []) w
abbrev f121_k0 (K:KT):Exit→YT:=kseq P (cA c121 2) (cA c121 3) none [] [] (f121_kb K)
def f121_s1 (a b:Int) (c:OA) (d e:Nat) (f g:Int) (w:World) (K:KT):Prop:=CS P (cA c121 3) none [] [] (f121_kb K) (Env.mk 32 [(6,(VI a)),(8,(VI b)),(0,(VS c d e)),(1,(VI f)),(2,(VI g))] []) w
abbrev f121_k1 (K:KT):Exit→YT:=kseq P (cA c121 6) (cA c121 7) none [] [] (f121_kb K)
def f121_s2 (a b c d e:Int) (f:OA) (g h:Nat) (i j:Int) (w:World) (K:KT):Prop:=CS P (cA c121 7) none [] [] (f121_kb K) (Env.mk 32 [(7,(VI a)),(10,(VI b)),(9,(VI c)),(6,(VI d)),(8,(VI e)),(0,(VS f g h)),(1,(VI i)),(2,(VI j))] []) w
abbrev f121_k2 (K:KT):Exit→YT:=kblock 0 (f121_kb K)
def f121_lp3 (K:KT) (Y3:YT) (e:Env) (w:World):Prop:=Join (fun e w=>CS P (cA c121 28) none [7,6,0] [] (kloop [7,6,0] Y3 (f121_k2 K)) e w) e w
abbrev f121_kl3 (K:KT) (Y3:YT):Exit→YT:=kloop [7,6,0] Y3 (f121_k2 K)
def f121_lb3 (a b:Int) (c:OA) (d f:Nat) (w:World) (K:KT) (Y3:YT):Prop:=SG P (cA c121 28) none [7,6,0] [] (f121_kl3 K Y3) (Env.mk 32 [(7,(VI a)),(6,(VI b)),(0,(VS c d f))] []) w
abbrev f121_k3 (K:KT) (Y3:YT):Exit→YT:=kseq P (cA c121 56) (cA c121 57) none [7,6,0] [] (f121_kl3 K Y3)
abbrev f121_k4 (K:KT) (Y3:YT):Exit→YT:=kseq P (cA c121 112) (cA c121 113) none [0,7,6] [] (f121_k3 K Y3)
def f121_s4 (a:OA) (b c:Nat) (d f:Int) (w:World) (K:KT) (Y3:YT):Prop:=SG P (cA c121 57) none [7,6,0] [] (f121_kl3 K Y3) (Env.mk 32 [(0,(VS a b c)),(7,(VI d)),(6,(VI f))] []) w
abbrev f121_k5 (K:KT) (Y3:YT):Exit→YT:=kblock 1 (f121_kl3 K Y3)
abbrev f121_k6 (K:KT) (Y3:YT):Exit→YT:=kseq P (cA c121 228) (cA c121 229) none [7,6,0] [7,6,0] (f121_k5 K Y3)
def f121_s5 (a:OA) (b c:Nat) (d f:Int) (w:World) (K:KT) (Y3:YT):Prop:=SG P (cA c121 229) none [7,6,0] [7,6,0] (f121_k5 K Y3) (Env.mk 32 [(0,(VS a b c)),(7,(VI d)),(6,(VI f))] []) w
abbrev f121_k7 (K:KT) (Y3:YT):Exit→YT:=kseq P (cA c121 458) (cA c121 459) none [7,6,0] [7,6,0] (f121_k5 K Y3)
theorem f121_s5_eq (c:OA) (d e:Nat) (f g:Int) (w:World) (K:KT) (Y3:YT):f121_s5 c d e f g w K Y3=(Y3 (Env.mk 32 [(7,(Value.int .i64 (IntKind.wrap .i64 ((f:Int) - 1)))),(6,(Value.int .i64 (IntKind.wrap .i64 ((g:Int)+1)))),(0,(Value.slice c d e))] []) w):=Eq.trans SGe (Eq.trans (CSs [6,0,7] (f121_k7 K Y3) (by kernel_rfl)) (by kernel_rfl))
theorem f121_s4_eq (e:OA) (f g:Nat) (c d:Int) (w:World) (K:KT) (Y3:YT):f121_s4 e f g c d w K Y3=(optS e (fun j=>0≤(c:Int)∧(c:Int) < (f:Nat)∧optS e (fun k=>0≤(d:Int)∧(d:Int) < (f:Nat)∧∃ h:Int,w.drew.cell? (j.add (Int.toNat c * 1))=some (.int .u32 h)∧∃ i:Int,w.drew.cell? (k.add (Int.toNat d * 1))=some (.int .u32 i)∧optS e (fun l=>0≤(d:Int)∧(d:Int) < (f:Nat)∧St1 (l.add (Int.toNat d * 1)) (Value.int .u32 h) w.drew (fun m=>optS e (fun n=>0≤(c:Int)∧(c:Int) < (f:Nat)∧St1 (n.add (Int.toNat c * 1)) (Value.int .u32 i) m (fun o=>f121_s5 e f g c d o K Y3))))))):=Eq.trans SGe (Eq.trans (CSb 1 [7,6,0] (f121_k5 K Y3) (by kernel_rfl)) (Eq.trans (CSs [0,7,6] (f121_k6 K Y3) (by kernel_rfl)) (by kernel_rfl)))
theorem f121_lb3_eq (c d:Int) (e:OA) (f g:Nat) (w:World) (K:KT) (Y3:YT):f121_lb3 c d e f g w K Y3=(BIf (decide ((d:Int) < c)) (f121_s4 e f g c d w K Y3) (K (Value.tuple [].toArray) w)):=Eq.trans SGe (Eq.trans (CSs [0,7,6] (f121_k3 K Y3) (by kernel_rfl)) (Eq.trans (CSs [13,0,7,6] (f121_k4 K Y3) (by kernel_rfl)) (by kernel_rfl)))
theorem f121_s2_eq (a g h c i:Int) (d:OA) (e f:Nat) (j k:Int) (w:World) (K:KT):f121_s2 a g h c i d e f j k w K=(LoopE (f121_lp3 K) (Env.mk 32 [(7,(Value.int .i64 a)),(6,(Value.int .i64 c)),(0,(Value.slice d e f))] []) w):=Eq.trans (b:=CS P (cA c121 7) none [] [] (f121_kb K) (Env.mk 32 [(7,(VI a)),(10,(VI g)),(9,(VI h)),(6,(VI c)),(8,(VI i)),(0,(VS d e f)),(1,(VI j)),(2,(VI k))] []) w) (by kernel_rfl) (Eq.trans (CSb 0 [] (f121_k2 K) (by kernel_rfl)) ((CS_loop' (b:=(cA c121 28)) (X':=[]) (H:=[7,6,0]) (by kernel_rfl) (by kernel_rfl) (by kernel_rfl)).trans (by kernel_rfl)))
theorem f121_s1_eq (d e:Int) (f:OA) (g h:Nat) (i c:Int) (w:World) (K:KT):f121_s1 d e f g h i c w K=(f121_s2 (IntKind.wrap .i64 ((c:Int) - 1)) (IntKind.wrap .i64 ((c:Int) - 1)) c d e f g h i c w K):=Eq.trans (b:=CS P (cA c121 3) none [] [] (f121_kb K) (Env.mk 32 [(6,(VI d)),(8,(VI e)),(0,(VS f g h)),(1,(VI i)),(2,(VI c))] []) w) (by kernel_rfl) (Eq.trans (CSs [7,6,0] (f121_k1 K) (by kernel_rfl)) (by kernel_rfl))
theorem f121_s0_eq (d:OA) (e f:Nat) (c g:Int) (w:World) (K:KT):f121_s0 d e f c g w K=(f121_s1 c c d e f c g w K):=Eq.trans (b:=CS P (cA c121 1) none [] [] (f121_kb K) (Env.mk 32 [(0,(VS d e f)),(1,(VI c)),(2,(VI g))] []) w) (by kernel_rfl) (Eq.trans (CSs [6,0,2] (f121_k0 K) (by kernel_rfl)) (by kernel_rfl))
theorem f121_eq (a:OA) (b c:Nat) (d e:Int) (w:World) (K:KT):f121 a b c d e w K=(f121_s0 a b c d e w K):=by kernel_rfl
theorem f121_ok (a:OA) (b c:Nat) (d e:Int) (w:World) (K:KT) (h:f121 a b c d e w K):CallL P 121 [(Value.slice a b c),(Value.int .i64 d),(Value.int .i64 e)] w K:=okCS c121 Tryz.func121 (by kernel_rfl) (by kernel_rfl) h
noncomputable def c123:Code:=bodyOf Tryz.f123
noncomputable def rs123:List ResultVar:=Tryz.f123.results.toList
abbrev f123_kb (K:KT):Exit→YT:=bodyK P rs123 K
def f123 (a b:Int) (w:World) (K:KT):Prop:=CS P c123 none [4] [4] (f123_kb K) (env0 17 [(Value.int .u32 a),(Value.int .u32 b)]) w
def f123_s0 (a:Bool) (w:World) (K:KT):Prop:=SG P (cA c123 7) none [4] [4] (f123_kb K) (Env.mk 17 [(4,(VB a))] []) w
theorem f123_s0_eq (a:Bool) (w:World) (K:KT):f123_s0 a w K=(K (Value.bool a) w):=by kernel_rfl
theorem f123_eq (a b:Int) (w:World) (K:KT):f123 a b w K=(CallL P 91 [(Value.int .u32 a)] w (fun g c=>∃ d:Bool,g=(.bool d)∧BIf d (CallL P 91 [(Value.int .u32 b)] c (fun h e=>∃ f:Bool,h=(.bool f)∧BIf (!f) (f123_s0 true e K) (f123_s0 (decide ((a:Int) < b)) e K))) (f123_s0 (decide ((a:Int) < b)) c K))):=by kernel_rfl
theorem f123_ok (a b:Int) (w:World) (K:KT) (h:f123 a b w K):CallL P 123 [(Value.int .u32 a),(Value.int .u32 b)] w K:=okCS c123 Tryz.func123 (by kernel_rfl) (by kernel_rfl) h
noncomputable def c131:Code:=bodyOf Tryz.f131
noncomputable def rs131:List ResultVar:=Tryz.f131.results.toList
abbrev f131_kb (K:KT):Exit→YT:=bodyK P rs131 K
def f131 (a:OA) (b c:Nat) (d e f:Int) (w:World) (K:KT):Prop:=CS P c131 none [] [] (f131_kb K) (env0 76 [(VS a b c),(VI d),(VI e),(VI f)]) w
def f131_s0 (a:OA) (b c:Nat) (d e f:Int) (w:World) (K:KT):Prop:=CS P (cA c131 1) none [] [] (f131_kb K) (Env.mk 76 [(0,(VS a b c)),(1,(VI d)),(2,(VI e)),(3,(VI f))] []) w
abbrev f131_k0 (K:KT):Exit→YT:=kseq P (cA c131 2) (cA c131 3) none [] [] (f131_kb K)
def f131_s1 (a b:Int) (c:OA) (d e:Nat) (f g h:Int) (w:World) (K:KT):Prop:=CS P (cA c131 3) none [] [] (f131_kb K) (Env.mk 76 [(8,(VI a)),(10,(VI b)),(0,(VS c d e)),(1,(VI f)),(2,(VI g)),(3,(VI h))] []) w
abbrev f131_k1 (K:KT):Exit→YT:=kblock 0 (f131_kb K)
def f131_lp2 (K:KT) (Y2:YT) (e:Env) (w:World):Prop:=Join (fun e w=>CS P (cA c131 12) none [8,3,0,2] [] (kloop [8,3,0,2] Y2 (f131_k1 K)) e w) e w
abbrev f131_kl2 (K:KT) (Y2:YT):Exit→YT:=kloop [8,3,0,2] Y2 (f131_k1 K)
def f131_lb2 (a b:Int) (c:OA) (d f:Nat) (g:Int) (w:World) (K:KT) (Y2:YT):Prop:=SG P (cA c131 12) none [8,3,0,2] [] (f131_kl2 K Y2) (Env.mk 76 [(8,(VI a)),(3,(VI b)),(0,(VS c d f)),(2,(VI g))] []) w
abbrev f131_k2 (K:KT) (Y2:YT):Exit→YT:=kblock 1 (f131_kl2 K Y2)
abbrev f131_k3 (K:KT) (Y2:YT):Exit→YT:=kseq P (cA c131 48) (cA c131 49) none [8,3,0,2] [8,3,0,2] (f131_k2 K Y2)
def f131_s3 (a b:Int) (c:OA) (d f:Nat) (g h:Int) (w:World) (K:KT) (Y2:YT):Prop:=SG P (cA c131 99) none [8,3,0,2] [8,3,0,2] (f131_k2 K Y2) (Env.mk 76 [(8,(VI a)),(3,(VI b)),(0,(VS c d f)),(2,(VI g)),(9,(VI h))] []) w
abbrev f131_k6 (K:KT) (Y2:YT):Exit→YT:=kseq P (cA c131 198) (cA c131 199) none [8,3,0,2] [8,3,0,2] (f131_k2 K Y2)
abbrev f131_k7 (K:KT) (Y2:YT):Exit→YT:=kseq P (cA c131 396) (cA c131 397) none [8,3,0,2,9] [8,3,0,2] (f131_k6 K Y2)
def f131_s4 (a:Bool) (b c:Int) (d:OA) (f g:Nat) (h i:Int) (w:World) (K:KT) (Y2:YT):Prop:=SG P (cA c131 397) none [8,3,0,2,9] [8,3,0,2] (f131_k6 K Y2) (Env.mk 76 [(36,(VB a)),(8,(VI b)),(3,(VI c)),(0,(VS d f g)),(2,(VI h)),(9,(VI i))] []) w
def f131_s5 (a b:Int) (c:OA) (d f:Nat) (g h:Int) (w:World) (K:KT) (Y2:YT):Prop:=SG P (cA c131 199) none [8,3,0,2] [8,3,0,2] (f131_k2 K Y2) (Env.mk 76 [(8,(VI a)),(3,(VI b)),(0,(VS c d f)),(2,(VI g)),(9,(VI h))] []) w
abbrev f131_k8 (K:KT) (Y2:YT):Exit→YT:=kseq P (cA c131 398) (cA c131 399) none [8,3,0,2] [8,3,0,2] (f131_k2 K Y2)
abbrev f131_k9 (K:KT) (Y2:YT):Exit→YT:=kseq P (cA c131 796) (cA c131 797) none [3,0,2,9,8] [8,3,0,2] (f131_k8 K Y2)
def f131_s6 (a:Bool) (b c:Int) (d:OA) (f g:Nat) (h i:Int) (w:World) (K:KT) (Y2:YT):Prop:=SG P (cA c131 797) none [3,0,2,9,8] [8,3,0,2] (f131_k8 K Y2) (Env.mk 76 [(52,(VB a)),(8,(VI b)),(3,(VI c)),(0,(VS d f g)),(2,(VI h)),(9,(VI i))] []) w
def f131_s7 (a:Int) (b:OA) (c d:Nat) (f g h:Int) (w:World) (K:KT) (Y2:YT):Prop:=SG P (cA c131 399) none [8,3,0,2] [8,3,0,2] (f131_k2 K Y2) (Env.mk 76 [(3,(VI a)),(0,(VS b c d)),(2,(VI f)),(9,(VI g)),(8,(VI h))] []) w
abbrev f131_k10 (K:KT) (Y2:YT):Exit→YT:=kseq P (cA c131 798) (cA c131 799) none [8,3,0,2] [8,3,0,2] (f131_k2 K Y2)
def f131_s8 (a:Int) (b:OA) (c d:Nat) (f g:Int) (w:World) (K:KT) (Y2:YT):Prop:=SG P (cA c131 799) none [8,3,0,2] [8,3,0,2] (f131_k2 K Y2) (Env.mk 76 [(3,(VI a)),(0,(VS b c d)),(2,(VI f)),(9,(VI g))] []) w
theorem f131_s8_eq (a:Int) (c:OA) (d e:Nat) (f g:Int) (w:World) (K:KT) (Y2:YT):f131_s8 a c d e f g w K Y2=(Y2 (Env.mk 76 [(8,(Value.int .i64 g)),(3,(Value.int .i64 a)),(0,(Value.slice c d e)),(2,(Value.int .i64 f))] []) w):=Eq.trans SGe (by kernel_rfl)
theorem f131_s7_eq (c:Int) (f:OA) (g h:Nat) (i d e:Int) (w:World) (K:KT) (Y2:YT):f131_s7 c f g h i d e w K Y2=(optS f (fun l=>0≤((IntKind.wrap .i64 ((c:Int)+d)):Int)∧((IntKind.wrap .i64 ((c:Int)+d)):Int) < (g:Nat)∧optS f (fun m=>0≤((IntKind.wrap .i64 ((c:Int)+e)):Int)∧((IntKind.wrap .i64 ((c:Int)+e)):Int) < (g:Nat)∧∃ j:Int,w.drew.cell? (l.add (Int.toNat (IntKind.wrap .i64 ((c:Int)+d)) * 1))=some (.int .u32 j)∧∃ k:Int,w.drew.cell? (m.add (Int.toNat (IntKind.wrap .i64 ((c:Int)+e)) * 1))=some (.int .u32 k)∧optS f (fun n=>0≤((IntKind.wrap .i64 ((c:Int)+e)):Int)∧((IntKind.wrap .i64 ((c:Int)+e)):Int) < (g:Nat)∧St1 (n.add (Int.toNat (IntKind.wrap .i64 ((c:Int)+e)) * 1)) (Value.int .u32 j) w.drew (fun o=>optS f (fun p=>0≤((IntKind.wrap .i64 ((c:Int)+d)):Int)∧((IntKind.wrap .i64 ((c:Int)+d)):Int) < (g:Nat)∧St1 (p.add (Int.toNat (IntKind.wrap .i64 ((c:Int)+d)) * 1)) (Value.int .u32 k) o (fun q=>f131_s8 c f g h i d q K Y2))))))):=Eq.trans SGe (Eq.trans (CSs [3,0,2,9] (f131_k10 K Y2) (by kernel_rfl)) (by kernel_rfl))
theorem f131_s6_eq (a:Bool) (c d:Int) (e:OA) (f g:Nat) (h i:Int) (w:World) (K:KT) (Y2:YT):f131_s6 a c d e f g h i w K Y2=(BIf a (K (Value.tuple [].toArray) w) (f131_s7 d e f g h i c w K Y2)):=Eq.trans SGe (by kernel_rfl)
theorem f131_s5_eq (d c:Int) (f:OA) (g h:Nat) (i e:Int) (w:World) (K:KT) (Y2:YT):f131_s5 d c f g h i e w K Y2=(optS f (fun m=>0≤((IntKind.wrap .i64 ((c:Int)+d)):Int)∧((IntKind.wrap .i64 ((c:Int)+d)):Int) < (g:Nat)∧optS f (fun n=>0≤((IntKind.wrap .i64 ((c:Int)+e)):Int)∧((IntKind.wrap .i64 ((c:Int)+e)):Int) < (g:Nat)∧∃ j:Int,w.drew.cell? (m.add (Int.toNat (IntKind.wrap .i64 ((c:Int)+d)) * 1))=some (.int .u32 j)∧∃ k:Int,w.drew.cell? (n.add (Int.toNat (IntKind.wrap .i64 ((c:Int)+e)) * 1))=some (.int .u32 k)∧CallL P 123 [(Value.int .u32 j),(Value.int .u32 k)] w.drew (fun o p=>∃ l:Bool,o=(.bool l)∧f131_s6 (!l) d c f g h i e p K Y2)))):=Eq.trans SGe (Eq.trans (CSs [3,0,2,9,8] (f131_k8 K Y2) (by kernel_rfl)) (Eq.trans (CSs [52,8,3,0,2,9] (f131_k9 K Y2) (by kernel_rfl)) (by kernel_rfl)))
theorem f131_s4_eq (i:Bool) (a c:Int) (d:OA) (e f:Nat) (g h:Int) (w:World) (K:KT) (Y2:YT):f131_s4 i a c d e f g h w K Y2=(BIf i (f131_s5 a c d e f g (IntKind.wrap .i64 ((h:Int)+1)) w K Y2) (f131_s5 a c d e f g h w K Y2)):=Eq.trans SGe (by kernel_rfl)
theorem f131_s3_eq (h d:Int) (e:OA) (f i:Nat) (g c:Int) (w:World) (K:KT) (Y2:YT):f131_s3 h d e f i g c w K Y2=(BIf (decide (((IntKind.wrap .i64 ((c:Int)+1)):Int) < g)) (optS e (fun m=>0≤((IntKind.wrap .i64 ((d:Int)+c)):Int)∧((IntKind.wrap .i64 ((d:Int)+c)):Int) < (f:Nat)∧optS e (fun n=>0≤((IntKind.wrap .i64 (((IntKind.wrap .i64 ((d:Int)+c)):Int)+1)):Int)∧((IntKind.wrap .i64 (((IntKind.wrap .i64 ((d:Int)+c)):Int)+1)):Int) < (f:Nat)∧∃ j:Int,w.drew.cell? (m.add (Int.toNat (IntKind.wrap .i64 ((d:Int)+c)) * 1))=some (.int .u32 j)∧∃ k:Int,w.drew.cell? (n.add (Int.toNat (IntKind.wrap .i64 (((IntKind.wrap .i64 ((d:Int)+c)):Int)+1)) * 1))=some (.int .u32 k)∧CallL P 123 [(Value.int .u32 j),(Value.int .u32 k)] w.drew (fun o p=>∃ l:Bool,o=(.bool l)∧f131_s4 l h d e f i g c p K Y2)))) (f131_s4 false h d e f i g c w.drew K Y2)):=Eq.trans SGe (Eq.trans (CSs [8,3,0,2,9] (f131_k6 K Y2) (by kernel_rfl)) (Eq.trans (CSs [36,8,3,0,2,9] (f131_k7 K Y2) (by kernel_rfl)) (by kernel_rfl)))
theorem f131_lb2_eq (c e:Int) (f:OA) (g h:Nat) (d:Int) (w:World) (K:KT) (Y2:YT):f131_lb2 c e f g h d w K Y2=(BIf (decide (((IntKind.wrap .i64 (((IntKind.wrap .i64 ((2:Int) * c)):Int)+1)):Int)≥d)) (K (Value.tuple [].toArray) w) (f131_s3 c e f g h d (IntKind.wrap .i64 (((IntKind.wrap .i64 ((2:Int) * c)):Int)+1)) w K Y2)):=Eq.trans SGe (Eq.trans (CSb 1 [8,3,0,2] (f131_k2 K Y2) (by kernel_rfl)) (Eq.trans (CSs [8,3,0,2,9] (f131_k3 K Y2) (by kernel_rfl)) (by kernel_rfl)))
theorem f131_s1_eq (a h:Int) (c:OA) (d e:Nat) (i f g:Int) (w:World) (K:KT):f131_s1 a h c d e i f g w K=(LoopE (f131_lp2 K) (Env.mk 76 [(8,(Value.int .i64 a)),(3,(Value.int .i64 g)),(0,(Value.slice c d e)),(2,(Value.int .i64 f))] []) w):=Eq.trans (b:=CS P (cA c131 3) none [] [] (f131_kb K) (Env.mk 76 [(8,(VI a)),(10,(VI h)),(0,(VS c d e)),(1,(VI i)),(2,(VI f)),(3,(VI g))] []) w) (by kernel_rfl) (Eq.trans (CSb 0 [] (f131_k1 K) (by kernel_rfl)) ((CS_loop' (b:=(cA c131 12)) (X':=[]) (H:=[8,3,0,2]) (by kernel_rfl) (by kernel_rfl) (by kernel_rfl)).trans (by kernel_rfl)))
theorem f131_s0_eq (d:OA) (e f:Nat) (c g h:Int) (w:World) (K:KT):f131_s0 d e f c g h w K=(f131_s1 c c d e f c g h w K):=Eq.trans (b:=CS P (cA c131 1) none [] [] (f131_kb K) (Env.mk 76 [(0,(VS d e f)),(1,(VI c)),(2,(VI g)),(3,(VI h))] []) w) (by kernel_rfl) (Eq.trans (CSs [8,3,0,2] (f131_k0 K) (by kernel_rfl)) (by kernel_rfl))
theorem f131_eq (a:OA) (b c:Nat) (d e f:Int) (w:World) (K:KT):f131 a b c d e f w K=(f131_s0 a b c d e f w K):=by kernel_rfl
theorem f131_ok (a:OA) (b c:Nat) (d e f:Int) (w:World) (K:KT) (h:f131 a b c d e f w K):CallL P 131 [(Value.slice a b c),(Value.int .i64 d),(Value.int .i64 e),(Value.int .i64 f)] w K:=okCS c131 Tryz.func131 (by kernel_rfl) (by kernel_rfl) h
noncomputable def c118:Code:=bodyOf Tryz.f118
noncomputable def rs118:List ResultVar:=Tryz.f118.results.toList
abbrev f118_kb (K:KT):Exit→YT:=bodyK P rs118 K
def f118 (a:OA) (b c:Nat) (d e:Int) (w:World) (K:KT):Prop:=CS P c118 none [] [] (f118_kb K) (env0 56 [(VS a b c),(VI d),(VI e)]) w
def f118_s0 (a:OA) (b c:Nat) (d e:Int) (w:World) (K:KT):Prop:=CS P (cA c118 1) none [] [] (f118_kb K) (Env.mk 56 [(0,(VS a b c)),(1,(VI d)),(2,(VI e))] []) w
abbrev f118_k0 (K:KT):Exit→YT:=kseq P (cA c118 2) (cA c118 3) none [] [] (f118_kb K)
def f118_s1 (a b:Int) (c:OA) (d e:Nat) (f g:Int) (w:World) (K:KT):Prop:=CS P (cA c118 3) none [] [] (f118_kb K) (Env.mk 56 [(6,(VI a)),(11,(VI b)),(0,(VS c d e)),(1,(VI f)),(2,(VI g))] []) w
abbrev f118_k1 (K:KT):Exit→YT:=kseq P (cA c118 6) (cA c118 7) none [] [] (f118_kb K)
def f118_s2 (a b c:Int) (d:OA) (e f:Nat) (g h:Int) (w:World) (K:KT):Prop:=CS P (cA c118 7) none [] [] (f118_kb K) (Env.mk 56 [(7,(VI a)),(6,(VI b)),(11,(VI c)),(0,(VS d e f)),(1,(VI g)),(2,(VI h))] []) w
abbrev f118_k2 (K:KT):Exit→YT:=kseq P (cA c118 14) (cA c118 15) none [] [] (f118_kb K)
def f118_s3 (a b c d e f g:Int) (h:OA) (i j:Nat) (k l:Int) (w:World) (K:KT):Prop:=CS P (cA c118 15) none [] [] (f118_kb K) (Env.mk 56 [(8,(VI a)),(14,(VI b)),(13,(VI c)),(12,(VI d)),(7,(VI e)),(6,(VI f)),(11,(VI g)),(0,(VS h i j)),(1,(VI k)),(2,(VI l))] []) w
abbrev f118_k3 (K:KT):Exit→YT:=kseq P (cA c118 30) (cA c118 31) none [] [] (f118_kb K)
abbrev f118_k4 (K:KT):Exit→YT:=kseq P (cA c118 60) (cA c118 61) none [6,7,0,8] [] (f118_k3 K)
def f118_s4 (a b c d e f g h i j k:Int) (l:OA) (m n:Nat) (o p:Int) (w:World) (K:KT):Prop:=CS P (cA c118 61) none [6,7,0,8] [] (f118_k3 K) (Env.mk 56 [(9,(VI a)),(17,(VI b)),(16,(VI c)),(15,(VI d)),(8,(VI e)),(14,(VI f)),(13,(VI g)),(12,(VI h)),(7,(VI i)),(6,(VI j)),(11,(VI k)),(0,(VS l m n)),(1,(VI o)),(2,(VI p))] []) w
abbrev f118_k5 (K:KT):Exit→YT:=kblock 0 (f118_k3 K)
def f118_lp5 (K:KT) (Y5:YT) (e:Env) (w:World):Prop:=Join (fun e w=>CS P (cA c118 244) none [9,6,8,0,7] [6,7,0,8] (kloop [9,6,8,0,7] Y5 (f118_k5 K)) e w) e w
abbrev f118_kl5 (K:KT) (Y5:YT):Exit→YT:=kloop [9,6,8,0,7] Y5 (f118_k5 K)
def f118_lb5 (a b c:Int) (d:OA) (f g:Nat) (h:Int) (w:World) (K:KT) (Y5:YT):Prop:=SG P (cA c118 244) none [9,6,8,0,7] [6,7,0,8] (f118_kl5 K Y5) (Env.mk 56 [(9,(VI a)),(6,(VI b)),(8,(VI c)),(0,(VS d f g)),(7,(VI h))] []) w
abbrev f118_k6 (K:KT) (Y5:YT):Exit→YT:=kseq P (cA c118 488) (cA c118 489) none [9,6,8,0,7] [6,7,0,8] (f118_kl5 K Y5)
abbrev f118_k7 (K:KT) (Y5:YT):Exit→YT:=kseq P (cA c118 976) (cA c118 977) none [6,8,0,7,9] [6,7,0,8] (f118_k6 K Y5)
def f118_s6 (a b:Int) (c:OA) (d f:Nat) (g h:Int) (w:World) (K:KT) (Y5:YT):Prop:=SG P (cA c118 489) none [9,6,8,0,7] [6,7,0,8] (f118_kl5 K Y5) (Env.mk 56 [(6,(VI a)),(8,(VI b)),(0,(VS c d f)),(7,(VI g)),(9,(VI h))] []) w
abbrev f118_k8 (K:KT) (Y5:YT):Exit→YT:=kseq P (cA c118 978) (cA c118 979) none [9,6,8,0,7] [6,7,0,8] (f118_kl5 K Y5)
abbrev f118_k9 (K:KT) (Y5:YT):Exit→YT:=kblock 1 (f118_k8 K Y5)
def f118_s7 (a b:Int) (c:OA) (d f:Nat) (g h:Int) (w:World) (K:KT) (Y5:YT):Prop:=SG P (cA c118 979) none [9,6,8,0,7] [6,7,0,8] (f118_kl5 K Y5) (Env.mk 56 [(6,(VI a)),(8,(VI b)),(0,(VS c d f)),(7,(VI g)),(9,(VI h))] []) w
theorem f118_s7_eq (a c:Int) (d:OA) (e f:Nat) (g h:Int) (w:World) (K:KT) (Y5:YT):f118_s7 a c d e f g h w K Y5=(Y5 (Env.mk 56 [(9,(Value.int .i64 (IntKind.wrap .i64 ((h:Int) - 1)))),(6,(Value.int .i64 a)),(8,(Value.int .i64 c)),(0,(Value.slice d e f)),(7,(Value.int .i64 g))] []) w):=Eq.trans SGe (by kernel_rfl)
theorem f118_s6_eq (c d:Int) (e:OA) (f g:Nat) (i h:Int) (w:World) (K:KT) (Y5:YT):f118_s6 c d e f g i h w K Y5=(CallL P 131 [(Value.slice e f g),(Value.int .i64 h),(Value.int .i64 d),(Value.int .i64 c)] w (fun j k=>j=(.tuple [].toArray)∧f118_s7 c d e f g i h k K Y5)):=Eq.trans SGe (Eq.trans (CSs [6,8,0,7,9] (f118_k8 K Y5) (by kernel_rfl)) (Eq.trans (CSb 1 [6,7,0,8,9] (f118_k9 K Y5) (by kernel_rfl)) (by kernel_rfl)))
def f118_s8 (a b:Int) (c:OA) (d f:Nat) (g:Int) (w:World) (K:KT):Prop:=SG P (cA c118 31) none [] [] (f118_kb K) (Env.mk 56 [(6,(VI a)),(7,(VI b)),(0,(VS c d f)),(8,(VI g))] []) w
abbrev f118_k10 (K:KT):Exit→YT:=kseq P (cA c118 62) (cA c118 63) none [] [] (f118_kb K)
def f118_s9 (a b c d e:Int) (f:OA) (g h:Nat) (i:Int) (w:World) (K:KT):Prop:=CS P (cA c118 63) none [] [] (f118_kb K) (Env.mk 56 [(10,(VI a)),(28,(VI b)),(27,(VI c)),(6,(VI d)),(7,(VI e)),(0,(VS f g h)),(8,(VI i))] []) w
abbrev f118_k11 (K:KT):Exit→YT:=kblock 2 (f118_kb K)
def f118_lp10 (K:KT) (Y10:YT) (e:Env) (w:World):Prop:=Join (fun e w=>CS P (cA c118 252) none [10,6,7,0] [] (kloop [10,6,7,0] Y10 (f118_k11 K)) e w) e w
abbrev f118_kl10 (K:KT) (Y10:YT):Exit→YT:=kloop [10,6,7,0] Y10 (f118_k11 K)
def f118_lb10 (a b c:Int) (d:OA) (f g:Nat) (w:World) (K:KT) (Y10:YT):Prop:=SG P (cA c118 252) none [10,6,7,0] [] (f118_kl10 K Y10) (Env.mk 56 [(10,(VI a)),(6,(VI b)),(7,(VI c)),(0,(VS d f g))] []) w
abbrev f118_k12 (K:KT) (Y10:YT):Exit→YT:=kseq P (cA c118 504) (cA c118 505) none [10,6,7,0] [] (f118_kl10 K Y10)
abbrev f118_k13 (K:KT) (Y10:YT):Exit→YT:=kseq P (cA c118 1008) (cA c118 1009) none [6,7,0,10] [] (f118_k12 K Y10)
def f118_s11 (a b:Int) (c:OA) (d f:Nat) (g:Int) (w:World) (K:KT) (Y10:YT):Prop:=SG P (cA c118 505) none [10,6,7,0] [] (f118_kl10 K Y10) (Env.mk 56 [(6,(VI a)),(7,(VI b)),(0,(VS c d f)),(10,(VI g))] []) w
abbrev f118_k14 (K:KT) (Y10:YT):Exit→YT:=kseq P (cA c118 1010) (cA c118 1011) none [10,6,7,0] [] (f118_kl10 K Y10)
abbrev f118_k15 (K:KT) (Y10:YT):Exit→YT:=kblock 3 (f118_k14 K Y10)
abbrev f118_k16 (K:KT) (Y10:YT):Exit→YT:=kseq P (cA c118 4040) (cA c118 4041) none [6,7,0,10] [6,7,0,10] (f118_k15 K Y10)
def f118_s12 (a b:Int) (c:OA) (d f:Nat) (g:Int) (w:World) (K:KT) (Y10:YT):Prop:=SG P (cA c118 4041) none [6,7,0,10] [6,7,0,10] (f118_k15 K Y10) (Env.mk 56 [(6,(VI a)),(7,(VI b)),(0,(VS c d f)),(10,(VI g))] []) w
def f118_s13 (a b:Int) (c:OA) (d f:Nat) (g:Int) (w:World) (K:KT) (Y10:YT):Prop:=SG P (cA c118 1011) none [10,6,7,0] [] (f118_kl10 K Y10) (Env.mk 56 [(6,(VI a)),(7,(VI b)),(0,(VS c d f)),(10,(VI g))] []) w
theorem f118_s13_eq (a c:Int) (d:OA) (e f:Nat) (g:Int) (w:World) (K:KT) (Y10:YT):f118_s13 a c d e f g w K Y10=(Y10 (Env.mk 56 [(10,(Value.int .i64 (IntKind.wrap .i64 ((g:Int) - 1)))),(6,(Value.int .i64 a)),(7,(Value.int .i64 c)),(0,(Value.slice d e f))] []) w):=Eq.trans SGe (by kernel_rfl)
theorem f118_s12_eq (a c:Int) (d:OA) (e f:Nat) (g:Int) (w:World) (K:KT) (Y10:YT):f118_s12 a c d e f g w K Y10=(CallL P 131 [(Value.slice d e f),(Value.int .i64 c),(Value.int .i64 g),(Value.int .i64 a)] w (fun h i=>h=(.tuple [].toArray)∧f118_s13 a c d e f g i K Y10)):=Eq.trans SGe (by kernel_rfl)
theorem f118_s11_eq (c g:Int) (e:OA) (f h:Nat) (d:Int) (w:World) (K:KT) (Y10:YT):f118_s11 c g e f h d w K Y10=(optS e (fun k=>0≤((IntKind.wrap .i64 ((c:Int)+d)):Int)∧((IntKind.wrap .i64 ((c:Int)+d)):Int) < (f:Nat)∧optS e (fun l=>0≤(c:Int)∧(c:Int) < (f:Nat)∧∃ i:Int,w.drew.cell? (k.add (Int.toNat (IntKind.wrap .i64 ((c:Int)+d)) * 1))=some (.int .u32 i)∧∃ j:Int,w.drew.cell? (l.add (Int.toNat c * 1))=some (.int .u32 j)∧optS e (fun m=>0≤(c:Int)∧(c:Int) < (f:Nat)∧St1 (m.add (Int.toNat c * 1)) (Value.int .u32 i) w.drew (fun n=>optS e (fun o=>0≤((IntKind.wrap .i64 ((c:Int)+d)):Int)∧((IntKind.wrap .i64 ((c:Int)+d)):Int) < (f:Nat)∧St1 (o.add (Int.toNat (IntKind.wrap .i64 ((c:Int)+d)) * 1)) (Value.int .u32 j) n (fun p=>f118_s12 c g e f h d p K Y10))))))):=Eq.trans SGe (Eq.trans (CSs [6,7,0,10] (f118_k14 K Y10) (by kernel_rfl)) (Eq.trans (CSb 3 [6,7,0,10] (f118_k15 K Y10) (by kernel_rfl)) (Eq.trans (CSs [6,7,0,10] (f118_k16 K Y10) (by kernel_rfl)) (by kernel_rfl))))
theorem f118_lb10_eq (c d e:Int) (f:OA) (g h:Nat) (w:World) (K:KT) (Y10:YT):f118_lb10 c d e f g h w K Y10=(BIf (decide ((c:Int)≥0)) (f118_s11 d e f g h c w K Y10) (K (Value.tuple [].toArray) w)):=Eq.trans SGe (Eq.trans (CSs [6,7,0,10] (f118_k12 K Y10) (by kernel_rfl)) (Eq.trans (CSs [30,6,7,0,10] (f118_k13 K Y10) (by kernel_rfl)) (by kernel_rfl)))
theorem f118_s9_eq (a h i c d:Int) (e:OA) (f g:Nat) (j:Int) (w:World) (K:KT):f118_s9 a h i c d e f g j w K=(LoopE (f118_lp10 K) (Env.mk 56 [(10,(Value.int .i64 a)),(6,(Value.int .i64 c)),(7,(Value.int .i64 d)),(0,(Value.slice e f g))] []) w):=Eq.trans (b:=CS P (cA c118 63) none [] [] (f118_kb K) (Env.mk 56 [(10,(VI a)),(28,(VI h)),(27,(VI i)),(6,(VI c)),(7,(VI d)),(0,(VS e f g)),(8,(VI j))] []) w) (by kernel_rfl) (Eq.trans (CSb 2 [] (f118_k11 K) (by kernel_rfl)) ((CS_loop' (b:=(cA c118 252)) (X':=[]) (H:=[10,6,7,0]) (by kernel_rfl) (by kernel_rfl) (by kernel_rfl)).trans (by kernel_rfl)))
theorem f118_s8_eq (d e:Int) (f:OA) (g h:Nat) (c:Int) (w:World) (K:KT):f118_s8 d e f g h c w K=(f118_s9 (IntKind.wrap .i64 ((c:Int) - 1)) (IntKind.wrap .i64 ((c:Int) - 1)) c d e f g h c w K):=Eq.trans SGe (Eq.trans (CSs [10,6,7,0] (f118_k10 K) (by kernel_rfl)) (by kernel_rfl))
theorem f118_lb5_eq (c d e:Int) (f:OA) (g h:Nat) (i:Int) (w:World) (K:KT) (Y5:YT):f118_lb5 c d e f g h i w K Y5=(BIf (decide ((c:Int)≥0)) (f118_s6 d e f g h i c w K Y5) (f118_s8 d i f g h e w K)):=Eq.trans SGe (Eq.trans (CSs [6,8,0,7,9] (f118_k6 K Y5) (by kernel_rfl)) (Eq.trans (CSs [19,6,8,0,7,9] (f118_k7 K Y5) (by kernel_rfl)) (by kernel_rfl)))
theorem f118_s4_eq (a i j k c l m n d e o:Int) (f:OA) (g h:Nat) (p q:Int) (w:World) (K:KT):f118_s4 a i j k c l m n d e o f g h p q w K=(LoopE (f118_lp5 K) (Env.mk 56 [(9,(Value.int .i64 a)),(6,(Value.int .i64 e)),(8,(Value.int .i64 c)),(0,(Value.slice f g h)),(7,(Value.int .i64 d))] []) w):=Eq.trans (b:=CS P (cA c118 61) none [6,7,0,8] [] (f118_k3 K) (Env.mk 56 [(9,(VI a)),(17,(VI i)),(16,(VI j)),(15,(VI k)),(8,(VI c)),(14,(VI l)),(13,(VI m)),(12,(VI n)),(7,(VI d)),(6,(VI e)),(11,(VI o)),(0,(VS f g h)),(1,(VI p)),(2,(VI q))] []) w) (by kernel_rfl) (Eq.trans (CSb 0 [6,7,0,8] (f118_k5 K) (by kernel_rfl)) ((CS_loop' (b:=(cA c118 244)) (X':=[6,7,0,8]) (H:=[9,6,8,0,7]) (by kernel_rfl) (by kernel_rfl) (by kernel_rfl)).trans (by kernel_rfl)))
theorem f118_s3_eq (c d e f g h i:Int) (j:OA) (k l:Nat) (m n:Int) (w:World) (K:KT):f118_s3 c d e f g h i j k l m n w K=((2:Int)≠0∧f118_s4 (IntKind.wrap .i64 (((IntKind.wrap .i64 ((c:Int) - 1)):Int).tdiv 2)) (IntKind.wrap .i64 (((IntKind.wrap .i64 ((c:Int) - 1)):Int).tdiv 2)) (IntKind.wrap .i64 ((c:Int) - 1)) c c d e f g h i j k l m n w K):=Eq.trans (b:=CS P (cA c118 15) none [] [] (f118_kb K) (Env.mk 56 [(8,(VI c)),(14,(VI d)),(13,(VI e)),(12,(VI f)),(7,(VI g)),(6,(VI h)),(11,(VI i)),(0,(VS j k l)),(1,(VI m)),(2,(VI n))] []) w) (by kernel_rfl) (Eq.trans (CSs [6,7,0,8] (f118_k3 K) (by kernel_rfl)) (Eq.trans (CSs [9,6,8,0,7] (f118_k4 K) (by kernel_rfl)) (by kernel_rfl)))
theorem f118_s2_eq (e f g:Int) (h:OA) (i j:Nat) (c d:Int) (w:World) (K:KT):f118_s2 e f g h i j c d w K=(f118_s3 (IntKind.wrap .i64 ((d:Int) - c)) (IntKind.wrap .i64 ((d:Int) - c)) c d e f g h i j c d w K):=Eq.trans (b:=CS P (cA c118 7) none [] [] (f118_kb K) (Env.mk 56 [(7,(VI e)),(6,(VI f)),(11,(VI g)),(0,(VS h i j)),(1,(VI c)),(2,(VI d))] []) w) (by kernel_rfl) (Eq.trans (CSs [6,8,0,7] (f118_k2 K) (by kernel_rfl)) (by kernel_rfl))
theorem f118_s1_eq (c d:Int) (e:OA) (f g:Nat) (h i:Int) (w:World) (K:KT):f118_s1 c d e f g h i w K=(f118_s2 0 c d e f g h i w K):=Eq.trans (b:=CS P (cA c118 3) none [] [] (f118_kb K) (Env.mk 56 [(6,(VI c)),(11,(VI d)),(0,(VS e f g)),(1,(VI h)),(2,(VI i))] []) w) (by kernel_rfl) (Eq.trans (CSs [6,0,7,1,2] (f118_k1 K) (by kernel_rfl)) (by kernel_rfl))
theorem f118_s0_eq (d:OA) (e f:Nat) (c g:Int) (w:World) (K:KT):f118_s0 d e f c g w K=(f118_s1 c c d e f c g w K):=Eq.trans (b:=CS P (cA c118 1) none [] [] (f118_kb K) (Env.mk 56 [(0,(VS d e f)),(1,(VI c)),(2,(VI g))] []) w) (by kernel_rfl) (Eq.trans (CSs [6,0,1,2] (f118_k0 K) (by kernel_rfl)) (by kernel_rfl))
theorem f118_eq (a:OA) (b c:Nat) (d e:Int) (w:World) (K:KT):f118 a b c d e w K=(f118_s0 a b c d e w K):=by kernel_rfl
theorem f118_ok (a:OA) (b c:Nat) (d e:Int) (w:World) (K:KT) (h:f118 a b c d e w K):CallL P 118 [(Value.slice a b c),(Value.int .i64 d),(Value.int .i64 e)] w K:=okCS c118 Tryz.func118 (by kernel_rfl) (by kernel_rfl) h
noncomputable def c132:Code:=bodyOf Tryz.f132
noncomputable def rs132:List ResultVar:=Tryz.f132.results.toList
abbrev f132_kb (K:KT):Exit→YT:=bodyK P rs132 K
def f132 (a:OA) (b c:Nat) (d:Int) (e:OA) (w:World) (K:KT):Prop:=CS P c132 none [6] [6] (f132_kb K) (env0 15 [(VS a b c),(VI d),(VP e)]) w
theorem f132_eq (b:OA) (c d:Nat) (a:Int) (e:OA) (w:World) (K:KT):f132 b c d a e w K=(CallL P 133 [(Value.slice b c d),(Value.int .i64 (IntKind.wrap .i64 ((a:Int) - 1))),(Value.int .i64 a),(Value.int .i64 (IntKind.wrap .i64 ((a:Int)+1))),(Value.pointer e)] w (fun g h=>∃ f:Int,g=(.int .i64 f)∧K (Value.int .i64 f) h)):=by kernel_rfl
theorem f132_ok (a:OA) (b c:Nat) (d:Int) (e:OA) (w:World) (K:KT) (h:f132 a b c d e w K):CallL P 132 [(Value.slice a b c),(Value.int .i64 d),(Value.pointer e)] w K:=okCS c132 Tryz.func132 (by kernel_rfl) (by kernel_rfl) h
noncomputable def c133:Code:=bodyOf Tryz.f133
noncomputable def rs133:List ResultVar:=Tryz.f133.results.toList
abbrev f133_kb (K:KT):Exit→YT:=bodyK P rs133 K
def f133 (a:OA) (b c:Nat) (d e f:Int) (g:OA) (w:World) (K:KT):Prop:=CS P c133 none [10] [10] (f133_kb K) (env0 36 [(VS a b c),(VI d),(VI e),(VI f),(VP g)]) w
theorem f133_eq (a:OA) (b c:Nat) (e f g:Int) (d:OA) (w:World) (K:KT):f133 a b c e f g d w K=(CallL P 135 [(Value.slice a b c),(Value.int .i64 e),(Value.int .i64 f),(Value.pointer d)] w (fun l m=>∃ h:Int,∃ i:Int,l=(.tuple [(Value.int .i64 h),(Value.int .i64 i)].toArray)∧CallL P 135 [(Value.slice a b c),(Value.int .i64 i),(Value.int .i64 g),(Value.pointer d)] m (fun n o=>∃ j:Int,∃ p:Int,n=(.tuple [(Value.int .i64 j),(Value.int .i64 p)].toArray)∧CallL P 135 [(Value.slice a b c),(Value.int .i64 h),(Value.int .i64 j),(Value.pointer d)] o (fun q r=>∃ s:Int,∃ k:Int,q=(.tuple [(Value.int .i64 s),(Value.int .i64 k)].toArray)∧K (Value.int .i64 k) r)))):=by kernel_rfl
theorem f133_ok (a:OA) (b c:Nat) (d e f:Int) (g:OA) (w:World) (K:KT) (h:f133 a b c d e f g w K):CallL P 133 [(Value.slice a b c),(Value.int .i64 d),(Value.int .i64 e),(Value.int .i64 f),(Value.pointer g)] w K:=okCS c133 Tryz.func133 (by kernel_rfl) (by kernel_rfl) h
noncomputable def c135:Code:=bodyOf Tryz.f135
noncomputable def rs135:List ResultVar:=Tryz.f135.results.toList
abbrev f135_kb (K:KT):Exit→YT:=bodyK P rs135 K
def f135 (a:OA) (b c:Nat) (d e:Int) (f:OA) (w:World) (K:KT):Prop:=CS P c135 none [8,9] [8,9] (f135_kb K) (env0 28 [(VS a b c),(VI d),(VI e),(VP f)]) w
abbrev f135_k1 (K:KT):Exit→YT:=kseq P (cA c135 6) (cA c135 7) none [8,9] [8,9] (f135_kb K)
def f135_s0 (a:Bool) (b c:Int) (d:OA) (w:World) (K:KT):Prop:=SG P (cA c135 13) none [2,1] [8,9] (f135_k1 K) (Env.mk 28 [(18,(VB a)),(1,(VI b)),(2,(VI c)),(3,(VP d))] []) w
def f135_s1 (a b:Int) (w:World) (K:KT):Prop:=SG P (cA c135 7) none [8,9] [8,9] (f135_kb K) (Env.mk 28 [(2,(VI a)),(1,(VI b))] []) w
abbrev f135_k5 (K:KT):Exit→YT:=kseq P (cA c135 14) (cA c135 15) none [8,9] [8,9] (f135_kb K)
theorem f135_s1_eq (c d:Int) (w:World) (K:KT):f135_s1 c d w K=(K (Value.tuple [(Value.int .i64 d),(Value.int .i64 c)].toArray) w):=Eq.trans SGe (Eq.trans (CSs [8,9] (f135_k5 K) (by kernel_rfl)) (by kernel_rfl))
theorem f135_s0_eq (e:Bool) (a c:Int) (d:OA) (w:World) (K:KT):f135_s0 e a c d w K=(BIf e (optS d (fun g=>∃ f:Int,w.cell? g=some (.int .i64 f)∧optS d (fun h=>St1 h (Value.int .i64 (IntKind.wrap .i64 ((f:Int)+1))) w (fun i=>K (Value.tuple [(Value.int .i64 c),(Value.int .i64 a)].toArray) i)))) (f135_s1 c a w K)):=Eq.trans SGe (by kernel_rfl)
theorem f135_eq (c:OA) (d i:Nat) (a b:Int) (e:OA) (w:World) (K:KT):f135 c d i a b e w K=(optS c (fun j=>0≤(b:Int)∧(b:Int) < (d:Nat)∧optS c (fun k=>0≤(a:Int)∧(a:Int) < (d:Nat)∧∃ f:Int,w.drew.cell? (j.add (Int.toNat b * 1))=some (.int .u32 f)∧∃ g:Int,w.drew.cell? (k.add (Int.toNat a * 1))=some (.int .u32 g)∧CallL P 123 [(Value.int .u32 f),(Value.int .u32 g)] w.drew (fun l m=>∃ h:Bool,l=(.bool h)∧f135_s0 h a b e m K)))):=by kernel_rfl
theorem f135_ok (a:OA) (b c:Nat) (d e:Int) (f:OA) (w:World) (K:KT) (h:f135 a b c d e f w K):CallL P 135 [(Value.slice a b c),(Value.int .i64 d),(Value.int .i64 e),(Value.pointer f)] w K:=okCS c135 Tryz.func135 (by kernel_rfl) (by kernel_rfl) h
end Go.Fx.Tryz
namespace Go.Fx.Tryz
open Go Go.Fx Go.Fx.Mo
open Go.Proofs
open Go.Sort (swp swp_size insInner insOuter insertionSort siftDown heapBuild heapPop heapSort ltInt)
variable {w0 w:World} {H X:HL} {K:KT}
set_option maxRecDepth 20000
abbrev uCs (d:Array Int) (z:List Value):List Value:=d.toList.map encU++z
theorem uCs_get {d:Array Int} {z:List Value} {i:Nat} (hi:i < d.size):(uCs d z)[i]?=some (.int .u32 d[i]!):=by
 rw [List.getElem?_append_left (by simpa using hi),List.getElem?_map]
 simp [hi]
theorem uCs_len (d:Array Int) (z:List Value):(uCs d z).length=d.size+z.length:=by simp
theorem uCs_swp {d:Array Int} {z:List Value} {p q:Nat} (hp:p < d.size) (hq:q < d.size):((uCs d z).set p (.int .u32 d[q]!)).set q (.int .u32 d[p]!)=uCs (swp d p q) z:=by
 unfold uCs swp
 rw [List.set_append_left _ _ (by simpa using hp),List.set_append_left _ _ (by simpa using hq)]
 congr 1
 simp only [Array.toList_setIfInBounds,List.map_set]
theorem less_ok (h:St w0 w X) (x y:Int) (hK:∀ w',St w0 w' X→K (.bool (ltInt x y)) w'):CallL P 123 [.int .u32 x,.int .u32 y] w K:=by
 refine f123_ok _ _ _ _ ?_
 rw [f123_eq]
 refine isnan52 x ⟨_,rfl,?_⟩
 rw [BIf_false,f123_s0_eq]
 exact hK w h
section
variable {g:Nat} {T:TypeId} {d:Array Int} {z:List Value} {ei ej:Int} {i j:Nat}
theorem less_at (hi:ei=(i:Int)) (hj:ej=(j:Int)) (hin:i < d.size) (hjn:j < d.size) (h:St w0 w X) (hm:(g,Cs (uCs d z) T)∈X) (hK:∀ w',St w0 w' X→K (.bool (ltInt d[i]! d[j]!)) w') :
  optS (some (Addr.mk g 0 none)) (fun a=>0≤ei∧ei < (d.size:Nat)∧optS (some (Addr.mk g 0 none)) (fun a'=>0≤ej∧ej < (d.size:Nat)∧∃ x:Int,w.drew.cell? (a.add (Int.toNat ei * 1))=some (Value.int .u32 x)∧∃ y:Int,w.drew.cell? (a'.add (Int.toNat ej * 1))=some (Value.int .u32 y)∧
   CallL P 123 [(Value.int .u32 x),(Value.int .u32 y)] w.drew K)):=by
 subst hi hj
 have hd:=h.drew
 refine ⟨by omega,by omega,by omega,by omega,d[i]!,?_,d[j]!,?_,less_ok hd _ _ hK⟩
 ·rw [add_lit',cell_of (hd.has _ _ hm),show 0+Int.toNat (i:Int) * 1=i by omega]; exact uCs_get hin
 ·rw [add_lit',cell_of (hd.has _ _ hm),show 0+Int.toNat (j:Int) * 1=j by omega]; exact uCs_get hjn
theorem swap_at {Q:World→Prop} (hi:ei=(i:Int)) (hj:ej=(j:Int)) (hin:i < d.size) (hjn:j < d.size) (h:St w0 w ((g,Cs (uCs d z) T)::H)) (hK:∀ w',St w0 w' ((g,Cs (uCs (swp d i j) z) T)::H)→Q w') :
  optS (some (Addr.mk g 0 none)) (fun a=>0≤ej∧ej < (d.size:Nat)∧optS (some (Addr.mk g 0 none)) (fun a'=>0≤ei∧ei < (d.size:Nat)∧∃ x:Int,w.drew.cell? (a.add (Int.toNat ej * 1))=some (Value.int .u32 x)∧∃ y:Int,w.drew.cell? (a'.add (Int.toNat ei * 1))=some (Value.int .u32 y)∧
   optS (some (Addr.mk g 0 none)) (fun a2=>0≤ei∧ei < (d.size:Nat)∧St1 (a2.add (Int.toNat ei * 1)) (Value.int .u32 x) w.drew (fun w2=>optS (some (Addr.mk g 0 none)) (fun a3=>0≤ej∧ej < (d.size:Nat)∧St1 (a3.add (Int.toNat ej * 1)) (Value.int .u32 y) w2 Q))))):=by
 subst hi hj
 have hd:=h.drew
 refine ⟨by omega,by omega,by omega,by omega,d[j]!,?_,d[i]!,?_,by omega,by omega,?_⟩
 ·rw [add_lit',hd.cell (k:=0) rfl,show 0+Int.toNat (j:Int) * 1=j by omega]; exact uCs_get hjn
 ·rw [add_lit',hd.cell (k:=0) rfl,show 0+Int.toNat (i:Int) * 1=i by omega]; exact uCs_get hin
 rw [add_lit',show 0+Int.toNat (i:Int) * 1=i by omega]
 refine hd.st1 (k:=0) rfl (by rw [uCs_len]; omega) rfl fun w2 h2=>⟨by omega,by omega,?_⟩
 rw [add_lit',show 0+Int.toNat (j:Int) * 1=j by omega]
 refine h2.st1 (k:=0) rfl (by rw [List.length_set,uCs_len]; omega) rfl fun w3 h3=>hK w3 ?_
 have h3:St w0 w3 ((g,Cs (((uCs d z).set i (.int .u32 d[j]!)).set j (.int .u32 d[i]!)) T)::H):=h3
 rw [uCs_swp hin hjn] at h3
 exact h3
end
section
variable {g c:Nat} {T:TypeId} {z:List Value}
theorem insInner_size (a:Nat):∀ (j:Nat) (d:Array Int),(insInner ltInt a j d).size=d.size
 | 0,d=>rfl
 | j+1,d=>by
  unfold insInner
  split
  ·rw [insInner_size a j,swp_size]
  ·rfl
def I1Inv (w0:World) (H:HL) (g c:Nat) (T:TypeId) (z:List Value) (a b n:Nat) (D:Array Int) (m:Nat) (ee:Env) (w:World):Prop:=
 ∃ (i:Nat) (d:Array Int),a < i∧i≤max b (a+1)∧m=b - i∧d.size=n∧insOuter ltInt a b i d=D∧ee=Env.mk 49 [(0,(Value.slice (some (Addr.mk g 0 none)) n c)),(6,(Value.int .i64 i)),(1,(Value.int .i64 a)),(2,(Value.int .i64 b))] []∧St w0 w ((g,Cs (uCs d z) T)::H)
def I2Inv (w0:World) (H:HL) (g c:Nat) (T:TypeId) (z:List Value) (a b i n:Nat) (D:Array Int) (m:Nat) (ee:Env) (w:World):Prop:=
 ∃ (j:Nat) (d:Array Int),a≤j∧j≤i∧m=j∧d.size=n∧insInner ltInt a j d=D∧ee=Env.mk 49 [(7,(Value.int .i64 j)),(0,(Value.slice (some (Addr.mk g 0 none)) n c)),(1,(Value.int .i64 a)),(2,(Value.int .i64 b)),(6,(Value.int .i64 i))] []∧St w0 w ((g,Cs (uCs d z) T)::H)
theorem insertion_ok {d:Array Int} {a b:Nat} (h:St w0 w ((g,Cs (uCs d z) T)::H)) (hab:a≤b) (hb:b≤d.size) (hn:d.size < 1000000000000) (hK:∀ w',St w0 w' ((g,Cs (uCs (insertionSort ltInt d a b) z) T)::H)→K (.tuple [].toArray) w') :
  CallL P 117 [.slice (some (Addr.mk g 0 none)) d.size c,.int .i64 a,.int .i64 b] w K:=by
 refine f117_ok _ _ _ _ _ _ _ ?_
 rw [f117_eq,f117_s0_eq,f117_s1_eq]
 refine ⟨I1Inv w0 H g c T z a b d.size (insertionSort ltInt d a b),⟨b - (a+1),a+1,d,by omega,by omega,rfl,rfl,rfl,?_,h⟩,?_⟩
 ·rw [wrap_i64 (by omega) (by omega)]; rfl
 generalize hnn:d.size=n at hb hn
 generalize insertionSort ltInt d a b=D at hK
 rintro m ee w1 ⟨i,d1,hai,hib,rfl,hd1,hD,rfl,h1⟩
 show f117_lb2 ..
 rw [f117_lb2_eq,BIf_iff]
 constructor
 ·intro hlt
  have hlt:i < b:=by simpa using hlt
  rw [f117_s3_eq,f117_s4_eq]
  rw [insOuter,if_pos hlt] at hD
  have out:∀ w2 d2,d2.size=n→insOuter ltInt a b (i+1) d2=D→St w0 w2 ((g,Cs (uCs d2 z) T)::H)→f117_s9 (some (Addr.mk g 0 none)) n c a b i w2 K (fun e' w'=>∃ m,m < b - i∧I1Inv w0 H g c T z a b n D m e' w'):=by
   intro w2 d2 k1 k2 k3
   rw [f117_s9_eq]
   refine ⟨b - (i+1),by omega,i+1,d2,by omega,by omega,rfl,k1,k2,?_,k3⟩
   rw [wrap_i64 (by omega) (by omega)]; rfl
  refine ⟨I2Inv w0 H g c T z a b i n (insInner ltInt a i d1),⟨i,i,d1,by omega,by omega,rfl,hd1,rfl,rfl,h1⟩,?_⟩
  rintro j ee w2 ⟨_,d2,haj,hji,rfl,hd2,hD2,rfl,h2⟩
  show f117_lb5 ..
  rw [f117_lb5_eq,BIf_iff]
  have stop:∀ w3,insInner ltInt a j d2=d2→St w0 w3 ((g,Cs (uCs d2 z) T)::H)→f117_s9 (some (Addr.mk g 0 none)) n c a b i w3 K (fun e' w'=>∃ m,m < b - i∧I1Inv w0 H g c T z a b n D m e' w'):=by
   intro w3 k1 k2
   refine out w3 d2 hd2 ?_ k2
   rw [← hD,← hD2,k1]
  constructor
  ·intro hja
   have hja:j > a:=by simpa using hja
   obtain ⟨q,rfl⟩:∃ k,j=k+1:=⟨j - 1,by omega⟩
   have ej:IntKind.wrap .i64 (((q+1:Nat):Int) - 1)=(q:Int):=by rw [wrap_i64 (by omega) (by omega)]; omega
   have hjn:q+1 < n:=by omega
   subst hd2
   refine less_at (i:=q+1) (j:=q) rfl ej hjn (by omega) h2 (.head _) fun w3 h3=>⟨_,rfl,?_⟩
   rw [f117_s6_eq,BIf_iff]
   constructor
   ·intro hl
    rw [f117_s7_eq]
    refine swap_at (i:=q+1) (j:=q) rfl ej hjn (by omega) h3 fun w4 h4=>?_
    rw [f117_s8_eq]
    refine ⟨q,by omega,q,swp d2 (q+1) q,by omega,by omega,rfl,by rw [swp_size],?_,by rw [ej],h4⟩
    rw [← hD2,insInner,if_pos (by simp [hl]; omega)]
   ·intro hl
    refine stop w3 ?_ h3
    rw [insInner,if_neg (by simp [hl])]
  ·intro hja
   have hja:¬ j > a:=by simpa using hja
   rw [f117_s6_eq,BIf_false]
   refine stop _ ?_ h2.drew
   cases j with
   | zero=>rfl
   | succ j=>rw [insInner,if_neg (by simp; omega)]
 ·intro hge
  have hge:¬ i < b:=by simpa using hge
  rw [insOuter,if_neg hge] at hD
  subst hD
  exact hK w1 h1
theorem siftDown_size (hi first:Nat) (root:Nat) (d:Array Int):(siftDown ltInt hi first root d).size=d.size:=by
 induction hm:hi - root using Nat.strongRecOn generalizing root d with
 | ind m ih=>
  subst hm
  rw [siftDown]
  split
  ·rfl
  ·rename_i h1
   split
   ·split
    ·rfl
    ·split
     ·rename_i h2; rw [ih (hi - (2 * root+2)) (by omega) _ _ rfl,swp_size]
     ·rfl
   ·split
    ·rfl
    ·rw [ih (hi - (2 * root+1)) (by omega) _ _ rfl,swp_size]
theorem heapBuild_size (hi first:Nat):∀ (k:Nat) (d:Array Int),(heapBuild ltInt hi first k d).size=d.size
 | 0,d=>rfl
 | k+1,d=>by unfold heapBuild; rw [heapBuild_size hi first k,siftDown_size]
def SdInv (w0:World) (H:HL) (g c:Nat) (T:TypeId) (z:List Value) (hi first n:Nat) (D:Array Int) (m:Nat) (ee:Env) (w:World):Prop:=
 ∃ (root:Nat) (d:Array Int),m=hi - root∧root≤1000000000000∧d.size=n∧siftDown ltInt hi first root d=D∧ee=Env.mk 76 [(8,(Value.int .i64 root)),(3,(Value.int .i64 first)),(0,(Value.slice (some (Addr.mk g 0 none)) n c)),(2,(Value.int .i64 hi))] []∧St w0 w ((g,Cs (uCs d z) T)::H)
theorem siftDown_ok {d:Array Int} {lo hi first:Nat} {elo ehi:Int} (he1:elo=(lo:Int)) (he2:ehi=(hi:Int)) (h:St w0 w ((g,Cs (uCs d z) T)::H)) (hlo:lo≤1000000000000) (hb:first+hi≤d.size) (hn:d.size < 1000000000000) (hK:∀ w',St w0 w' ((g,Cs (uCs (siftDown ltInt hi first lo d) z) T)::H)→K (.tuple [].toArray) w') :
  CallL P 131 [.slice (some (Addr.mk g 0 none)) d.size c,.int .i64 elo,.int .i64 ehi,.int .i64 first] w K:=by
 subst he1 he2
 refine f131_ok _ _ _ _ _ _ _ _ ?_
 rw [f131_eq,f131_s0_eq,f131_s1_eq]
 refine ⟨SdInv w0 H g c T z hi first d.size (siftDown ltInt hi first lo d),⟨hi - lo,lo,d,rfl,hlo,rfl,rfl,rfl,h⟩,?_⟩
 generalize hnn:d.size=n at hb hn
 generalize siftDown ltInt hi first lo d=D at hK
 rintro m ee w1 ⟨root,d1,rfl,hr,hd1,hD,rfl,h1⟩
 show f131_lb2 ..
 have e1:IntKind.wrap .i64 (IntKind.wrap .i64 ((2:Int) * (root:Int))+1)=((2 * root+1:Nat):Int):=by
  rw [wrap_i64 (x:=2 * (root:Int)) (by omega) (by omega),wrap_i64 (by omega) (by omega)]; omega
 rw [f131_lb2_eq,BIf_iff,e1]
 rw [siftDown] at hD
 constructor
 ·intro hge
  have hge:2 * root+1≥hi:=by simp at hge; omega
  rw [dif_pos hge] at hD
  subst hD
  exact hK w1 h1
 ·intro hlt
  have hlt:¬ 2 * root+1≥hi:=by simp at hlt; omega
  rw [dif_neg hlt] at hD
  subst hd1
  have step:∀ w2 (ch:Nat),2 * root+1≤ch→ch < hi→(if (!ltInt d1[first+root]! d1[first+ch]!)=true then d1 else siftDown ltInt hi first ch (swp d1 (first+root) (first+ch)))=D→St w0 w2 ((g,Cs (uCs d1 z) T)::H)→
    f131_s5 root first (some (Addr.mk g 0 none)) d1.size c hi ch w2 K (fun e' w'=>∃ m,m < hi - root∧SdInv w0 H g c T z hi first d1.size D m e' w'):=by
   intro w2 ch c1 c2 hD2 h2
   have ea:IntKind.wrap .i64 ((first:Int)+(root:Int))=((first+root:Nat):Int):=by rw [wrap_i64 (by omega) (by omega)]; omega
   have eb:IntKind.wrap .i64 ((first:Int)+(ch:Int))=((first+ch:Nat):Int):=by rw [wrap_i64 (by omega) (by omega)]; omega
   rw [f131_s5_eq]
   refine less_at (i:=first+root) (j:=first+ch) ea eb (by omega) (by omega) h2 (.head _) fun w3 h3=>⟨_,rfl,?_⟩
   rw [f131_s6_eq,BIf_iff]
   constructor
   ·intro hl
    rw [if_pos hl] at hD2
    subst hD2
    exact hK w3 h3
   ·intro hl
    rw [if_neg (by simp [hl])] at hD2
    rw [f131_s7_eq]
    refine swap_at (i:=first+root) (j:=first+ch) ea eb (by omega) (by omega) h3 fun w4 h4=>?_
    rw [f131_s8_eq]
    exact ⟨hi - ch,by omega,ch,_,rfl,by omega,by rw [swp_size],hD2,rfl,h4⟩
  rw [f131_s3_eq,BIf_iff]
  have e2:IntKind.wrap .i64 (((2 * root+1:Nat):Int)+1)=((2 * root+2:Nat):Int):=by rw [wrap_i64 (by omega) (by omega)]; omega
  rw [e2]
  constructor
  ·intro hc
   have hc:2 * root+2 < hi:=by simp at hc; omega
   have ea:IntKind.wrap .i64 ((first:Int)+((2 * root+1:Nat):Int))=((first+(2 * root+1):Nat):Int):=by rw [wrap_i64 (by omega) (by omega)]; omega
   have eb:IntKind.wrap .i64 (IntKind.wrap .i64 ((first:Int)+((2 * root+1:Nat):Int))+1)=((first+(2 * root+1)+1:Nat):Int):=by rw [ea,wrap_i64 (by omega) (by omega)]; omega
   refine less_at (i:=first+(2 * root+1)) (j:=first+(2 * root+1)+1) ea eb (by omega) (by omega) h1 (.head _) fun w2 h2=>⟨_,rfl,?_⟩
   rw [f131_s4_eq,BIf_iff]
   constructor
   ·intro hl
    rw [if_pos (by simp [hl]; omega)] at hD
    rw [e2]
    refine step w2 (2 * root+2) (by omega) hc ?_ h2
    rw [← hD]
    split <;> rfl
   ·intro hl
    rw [if_neg (by simp [hl])] at hD
    exact step w2 (2 * root+1) (by omega) (by omega) hD h2
  ·intro hc
   have hc:¬ 2 * root+2 < hi:=by simp at hc; omega
   rw [if_neg (by simp; omega)] at hD
   rw [f131_s4_eq,BIf_false]
   exact step _ (2 * root+1) (by omega) (by omega) hD h1.drew
def HbInv (w0:World) (H:HL) (g c:Nat) (T:TypeId) (z:List Value) (first hi n:Nat) (D:Array Int) (m:Nat) (ee:Env) (w:World):Prop:=
 ∃ (d:Array Int),m≤1000000000000∧d.size=n∧heapBuild ltInt hi first m d=D∧ee=Env.mk 56 [(9,(Value.int .i64 ((m:Int) - 1))),(6,(Value.int .i64 first)),(8,(Value.int .i64 hi)),(0,(Value.slice (some (Addr.mk g 0 none)) n c)),(7,(Value.int .i64 0))] []∧St w0 w ((g,Cs (uCs d z) T)::H)
def HpInv (w0:World) (H:HL) (g c:Nat) (T:TypeId) (z:List Value) (first hi n:Nat) (D:Array Int) (m:Nat) (ee:Env) (w:World):Prop:=
 ∃ (d:Array Int),m≤hi∧d.size=n∧heapPop ltInt first m d=D∧ee=Env.mk 56 [(10,(Value.int .i64 ((m:Int) - 1))),(6,(Value.int .i64 first)),(7,(Value.int .i64 0)),(0,(Value.slice (some (Addr.mk g 0 none)) n c))] []∧St w0 w ((g,Cs (uCs d z) T)::H)
theorem heap_ok {d:Array Int} {a b:Nat} (h:St w0 w ((g,Cs (uCs d z) T)::H)) (hab:a≤b) (hb:b≤d.size) (hn:d.size < 1000000000000) (hK:∀ w',St w0 w' ((g,Cs (uCs (heapSort ltInt d a b) z) T)::H)→K (.tuple [].toArray) w') :
  CallL P 118 [.slice (some (Addr.mk g 0 none)) d.size c,.int .i64 a,.int .i64 b] w K:=by
 refine f118_ok _ _ _ _ _ _ _ ?_
 have e1:IntKind.wrap .i64 ((b:Int) - (a:Int))=((b - a:Nat):Int):=by rw [wrap_i64 (by omega) (by omega)]; omega
 rw [f118_eq,f118_s0_eq,f118_s1_eq,f118_s2_eq,e1,f118_s3_eq]
 have e2:IntKind.wrap .i64 ((IntKind.wrap .i64 (((b - a:Nat):Int) - 1)).tdiv 2)=(((b - a - 1) / 2+1:Nat):Int) - 1:=by
  rw [wrap_i64 (x:=((b - a:Nat):Int) - 1) (by omega) (by omega)]
  by_cases hz:b - a=0
  ·rw [hz]; rfl
  ·rw [Int.tdiv_eq_ediv_of_nonneg (by omega),wrap_i64 (by omega) (by omega)]
   omega
 rw [e2]
 unfold heapSort at hK
 refine ⟨by omega,?_⟩
 rw [f118_s4_eq]
 refine ⟨HbInv w0 H g c T z a (b - a) d.size (heapBuild ltInt (b - a) a ((b - a - 1) / 2+1) d),⟨(b - a - 1) / 2+1,d,by omega,rfl,rfl,rfl,h⟩,?_⟩
 generalize hnn:d.size=n at hb hn
 generalize hBB:heapBuild ltInt (b - a) a ((b - a - 1) / 2+1) d=D0 at hK
 have hD0:D0.size=n:=by rw [← hBB,heapBuild_size,hnn]
 rintro m ee w1 ⟨d1,hm,hd1,hD,rfl,h1⟩
 show f118_lb5 ..
 rw [f118_lb5_eq,BIf_iff]
 constructor
 ·intro hge
  obtain ⟨m,rfl⟩:∃ k,m=k+1:=⟨m - 1,by simp at hge; omega⟩
  rw [f118_s6_eq]
  subst hd1
  refine siftDown_ok (lo:=m) (by omega) rfl h1 (by omega) (by omega) hn fun w2 h2=>⟨rfl,?_⟩
  rw [f118_s7_eq]
  refine ⟨m,by omega,_,by omega,siftDown_size _ _ _ _,hD,?_,h2⟩
  rw [wrap_i64 (by omega) (by omega)]
  have:((m+1:Nat):Int) - 1 - 1=(m:Int) - 1:=by omega
  rw [this]
 ·intro hlt
  have:m=0:=by simp at hlt; omega
  subst this
  have hD:d1=D0:=hD
  subst hD
  rw [f118_s8_eq,f118_s9_eq]
  have e3:IntKind.wrap .i64 (((b - a:Nat):Int) - 1)=((b - a:Nat):Int) - 1:=by rw [wrap_i64 (by omega) (by omega)]
  rw [e3]
  refine ⟨HpInv w0 H g c T z a (b - a) n (heapPop ltInt a (b - a) d1),⟨b - a,d1,by omega,hd1,rfl,rfl,h1⟩,?_⟩
  generalize heapPop ltInt a (b - a) d1=D at hK
  rintro m ee w2 ⟨d2,hm2,hd2,hD2,rfl,h2⟩
  show f118_lb10 ..
  rw [f118_lb10_eq,BIf_iff]
  constructor
  ·intro hge
   obtain ⟨m,rfl⟩:∃ k,m=k+1:=⟨m - 1,by simp at hge; omega⟩
   rw [f118_s11_eq]
   have ei:IntKind.wrap .i64 ((a:Int)+(((m+1:Nat):Int) - 1))=((a+m:Nat):Int):=by rw [wrap_i64 (by omega) (by omega)]; omega
   subst hd2
   refine swap_at (i:=a) (j:=a+m) rfl ei (by omega) (by omega) h2 fun w3 h3=>?_
   rw [f118_s12_eq]
   have es:(swp d2 a (a+m)).size=d2.size:=swp_size _ _ _
   rw [← es]
   refine siftDown_ok (lo:=0) (hi:=m) rfl (by omega) h3 (by omega) (by omega) (by omega) fun w4 h4=>⟨rfl,?_⟩
   rw [f118_s13_eq]
   refine ⟨m,by omega,_,by omega,by rw [siftDown_size,swp_size],hD2,?_,h4⟩
   rw [wrap_i64 (by omega) (by omega),es]
   have:((m+1:Nat):Int) - 1 - 1=(m:Int) - 1:=by omega
   rw [this]
  ·intro hlt
   have:m=0:=by simp at hlt; omega
   subst this
   have hD2:d2=D:=hD2
   subst hD2
   exact hK w2 h2
end
end Go.Fx.Tryz
namespace Go.Fx.Tryz
set_option maxRecDepth 100000
open Go Go.Fx Go.Proofs
noncomputable def c119:Code:=bodyOf Tryz.f119
noncomputable def rs119:List ResultVar:=Tryz.f119.results.toList
abbrev f119_kb (K:KT):Exit→YT:=bodyK P rs119 K
def f119 (a:OA) (b c:Nat) (d e:Int) (w:World) (K:KT):Prop:=CS P c119 none [] [] (f119_kb K) (env0 65 [(VS a b c),(VI d),(VI e)]) w
def f119_s0 (a:OA) (b c:Nat) (d e:Int) (w:World) (K:KT):Prop:=CS P (cA c119 1) none [] [] (f119_kb K) (Env.mk 65 [(0,(VS a b c)),(1,(VI d)),(2,(VI e))] []) w
abbrev f119_k0 (K:KT):Exit→YT:=kseq P (cA c119 2) (cA c119 3) none [] [] (f119_kb K)
def f119_s1 (a b c d:Int) (e:OA) (f g:Nat) (h i:Int) (w:World) (K:KT):Prop:=CS P (cA c119 3) none [] [] (f119_kb K) (Env.mk 65 [(6,(VI a)),(13,(VI b)),(12,(VI c)),(11,(VI d)),(0,(VS e f g)),(1,(VI h)),(2,(VI i))] []) w
abbrev f119_k1 (K:KT):Exit→YT:=kseq P (cA c119 6) (cA c119 7) none [] [] (f119_kb K)
def f119_s2 (a:Bool) (b c d e f:Int) (g:OA) (h i:Nat) (j k:Int) (w:World) (K:KT):Prop:=CS P (cA c119 14) none [] [] (f119_kb K) (Env.mk 65 [(15,(VB true)),(15,(VB a)),(14,(VI b)),(6,(VI c)),(13,(VI d)),(12,(VI e)),(11,(VI f)),(0,(VS g h i)),(1,(VI j)),(2,(VI k))] []) w
abbrev f119_k2 (K:KT):Exit→YT:=kseq P (cA c119 28) (cA c119 29) none [] [] (f119_kb K)
def f119_s3 (a:Addr) (b c:Int) (d:Bool) (e f g h i:Int) (j:OA) (k l:Nat) (m n:Int) (w:World) (K:KT):Prop:=CS P (cA c119 29) none [] [] (f119_kb K) (Env.mk 65 [(7,(VP (some a))),(17,(Value.int .u64 b)),(16,(VI c)),(15,(VB true)),(15,(VB d)),(14,(VI e)),(6,(VI f)),(13,(VI g)),(12,(VI h)),(11,(VI i)),(0,(VS j k l)),(1,(VI m)),(2,(VI n))] []) w
abbrev f119_k3 (K:KT):Exit→YT:=kseq P (cA c119 58) (cA c119 59) none [] [] (f119_kb K)
def f119_s4 (a b c:Int) (d:Addr) (e f:Int) (g:Bool) (h i j k l:Int) (m:OA) (n o:Nat) (p q:Int) (w:World) (K:KT):Prop:=CS P (cA c119 59) none [] [] (f119_kb K) (Env.mk 65 [(8,(Value.int .u64 a)),(19,(Value.int .u64 b)),(18,(VI c)),(7,(VP (some d))),(17,(Value.int .u64 e)),(16,(VI f)),(15,(VB true)),(15,(VB g)),(14,(VI h)),(6,(VI i)),(13,(VI j)),(12,(VI k)),(11,(VI l)),(0,(VS m n o)),(1,(VI p)),(2,(VI q))] []) w
abbrev f119_k4 (K:KT):Exit→YT:=kseq P (cA c119 118) (cA c119 119) none [] [] (f119_kb K)
def f119_s5 (a b c d e f g h i j:Int) (k:Addr) (l m:Int) (n:Bool) (o p q r s:Int) (t:OA) (u v:Nat) (x y:Int) (w:World) (K:KT):Prop:=CS P (cA c119 119) none [] [] (f119_kb K) (Env.mk 65 [(9,(VI a)),(25,(VI b)),(24,(VI c)),(23,(VI d)),(22,(VI e)),(21,(VI f)),(20,(VI g)),(8,(Value.int .u64 h)),(19,(Value.int .u64 i)),(18,(VI j)),(7,(VP (some k))),(17,(Value.int .u64 l)),(16,(VI m)),(15,(VB true)),(15,(VB n)),(14,(VI o)),(6,(VI p)),(13,(VI q)),(12,(VI r)),(11,(VI s)),(0,(VS t u v)),(1,(VI x)),(2,(VI y))] []) w
abbrev f119_k5 (K:KT):Exit→YT:=kblock 0 (f119_kb K)
def f119_lp6 (K:KT) (Y6:YT) (e:Env) (w:World):Prop:=Join (fun e w=>CS P (cA c119 476) none [9,0,1,6,8,7] [] (kloop [9,0,1,6,8,7] Y6 (f119_k5 K)) e w) e w
abbrev f119_kl6 (K:KT) (Y6:YT):Exit→YT:=kloop [9,0,1,6,8,7] Y6 (f119_k5 K)
def f119_lb6 (a:Int) (b:OA) (c d:Nat) (f g h:Int) (i:Addr) (w:World) (K:KT) (Y6:YT):Prop:=SG P (cA c119 476) none [9,0,1,6,8,7] [] (f119_kl6 K Y6) (Env.mk 65 [(9,(VI a)),(0,(VS b c d)),(1,(VI f)),(6,(VI g)),(8,(Value.int .u64 h)),(7,(VP (some i)))] []) w
abbrev f119_k6 (K:KT) (Y6:YT):Exit→YT:=kseq P (cA c119 952) (cA c119 953) none [9,0,1,6,8,7] [] (f119_kl6 K Y6)
abbrev f119_k7 (K:KT) (Y6:YT):Exit→YT:=kseq P (cA c119 1904) (cA c119 1905) none [0,1,6,8,7,9] [] (f119_k6 K Y6)
def f119_s7 (a:OA) (b c:Nat) (d f g:Int) (h:Addr) (i:Int) (w:World) (K:KT) (Y6:YT):Prop:=SG P (cA c119 953) none [9,0,1,6,8,7] [] (f119_kl6 K Y6) (Env.mk 65 [(0,(VS a b c)),(1,(VI d)),(6,(VI f)),(8,(Value.int .u64 g)),(7,(VP (some h))),(9,(VI i))] []) w
abbrev f119_k8 (K:KT) (Y6:YT):Exit→YT:=kseq P (cA c119 1906) (cA c119 1907) none [9,0,1,6,8,7] [] (f119_kl6 K Y6)
abbrev f119_k9 (K:KT) (Y6:YT):Exit→YT:=kblock 1 (f119_k8 K Y6)
abbrev f119_k10 (K:KT) (Y6:YT):Exit→YT:=kseq P (cA c119 7624) (cA c119 7625) none [0,1,6,8,7,9] [0,1,6,8,7,9] (f119_k9 K Y6)
def f119_s8 (a:OA) (b c:Nat) (d f g:Int) (h:Addr) (i j:Int) (w:World) (K:KT) (Y6:YT):Prop:=SG P (cA c119 15251) none [0,1,6,8,7,9] [0,1,6,8,7,9] (f119_k9 K Y6) (Env.mk 65 [(0,(VS a b c)),(1,(VI d)),(6,(VI f)),(8,(Value.int .u64 g)),(7,(VP (some h))),(9,(VI i)),(10,(VI j))] []) w
def f119_s9 (a:OA) (b c:Nat) (d f g:Int) (h:Addr) (i:Int) (w:World) (K:KT) (Y6:YT):Prop:=SG P (cA c119 1907) none [9,0,1,6,8,7] [] (f119_kl6 K Y6) (Env.mk 65 [(0,(VS a b c)),(1,(VI d)),(6,(VI f)),(8,(Value.int .u64 g)),(7,(VP (some h))),(9,(VI i))] []) w
theorem f119_s9_eq (a:OA) (c d:Nat) (e f g:Int) (h:Addr) (i:Int) (w:World) (K:KT) (Y6:YT):f119_s9 a c d e f g h i w K Y6=(Y6 (Env.mk 65 [(9,(Value.int .i64 (IntKind.wrap .i64 ((i:Int)+1)))),(0,(Value.slice a c d)),(1,(Value.int .i64 e)),(6,(Value.int .i64 f)),(8,(Value.int .u64 g)),(7,(Value.pointer (some h)))] []) w):=Eq.trans SGe (by kernel_rfl)
theorem f119_s8_eq (e:OA) (f g:Nat) (a h i:Int) (j:Addr) (c d:Int) (w:World) (K:KT) (Y6:YT):f119_s8 e f g a h i j c d w K Y6=(optS e (fun m=>0≤((IntKind.wrap .i64 ((a:Int)+d)):Int)∧((IntKind.wrap .i64 ((a:Int)+d)):Int) < (f:Nat)∧optS e (fun n=>0≤(c:Int)∧(c:Int) < (f:Nat)∧∃ k:Int,w.drew.cell? (m.add (Int.toNat (IntKind.wrap .i64 ((a:Int)+d)) * 1))=some (.int .u32 k)∧∃ l:Int,w.drew.cell? (n.add (Int.toNat c * 1))=some (.int .u32 l)∧optS e (fun o=>0≤(c:Int)∧(c:Int) < (f:Nat)∧St1 (o.add (Int.toNat c * 1)) (Value.int .u32 k) w.drew (fun p=>optS e (fun q=>0≤((IntKind.wrap .i64 ((a:Int)+d)):Int)∧((IntKind.wrap .i64 ((a:Int)+d)):Int) < (f:Nat)∧St1 (q.add (Int.toNat (IntKind.wrap .i64 ((a:Int)+d)) * 1)) (Value.int .u32 l) p (fun r=>f119_s9 e f g a h i j c r K Y6))))))):=Eq.trans SGe (by kernel_rfl)
theorem f119_s7_eq (f:OA) (g h:Nat) (i d c:Int) (e:Addr) (j:Int) (w:World) (K:KT) (Y6:YT):f119_s7 f g h i d c e j w K Y6=(CallL P 128 [(Value.pointer (some e))] w (fun m l=>∃ k:Int,m=(.int .u64 k)∧BIf (decide (((IntKind.wrap .i64 (IntKind.wrap .u64 ((BitVec.ofInt (IntKind.bits .u64) (k:Int) &&& BitVec.ofInt (IntKind.bits .u64) (IntKind.wrap .u64 ((c:Int) - 1))).toNat:Int))):Int)≥d)) (f119_s8 f g h i d c e j (IntKind.wrap .i64 (((IntKind.wrap .i64 (IntKind.wrap .u64 ((BitVec.ofInt (IntKind.bits .u64) (k:Int) &&& BitVec.ofInt (IntKind.bits .u64) (IntKind.wrap .u64 ((c:Int) - 1))).toNat:Int))):Int) - d)) l K Y6) (f119_s8 f g h i d c e j (IntKind.wrap .i64 (IntKind.wrap .u64 ((BitVec.ofInt (IntKind.bits .u64) (k:Int) &&& BitVec.ofInt (IntKind.bits .u64) (IntKind.wrap .u64 ((c:Int) - 1))).toNat:Int))) l K Y6))):=Eq.trans SGe (Eq.trans (CSs [0,1,6,8,7,9] (f119_k8 K Y6) (by kernel_rfl)) (Eq.trans (CSb 1 [0,1,6,8,7,9] (f119_k9 K Y6) (by kernel_rfl)) (Eq.trans (CSs [0,1,6,8,7,9,10] (f119_k10 K Y6) (by kernel_rfl)) (by kernel_rfl))))
theorem f119_lb6_eq (c:Int) (f:OA) (g h:Nat) (d e i:Int) (j:Addr) (w:World) (K:KT) (Y6:YT):f119_lb6 c f g h d e i j w K Y6=((4:Int)≠0∧BIf (decide ((c:Int)≤(IntKind.wrap .i64 (((IntKind.wrap .i64 ((d:Int)+(IntKind.wrap .i64 (((IntKind.wrap .i64 ((e:Int).tdiv 4)):Int) * 2)))):Int)+1)))) (f119_s7 f g h d e i j c w K Y6) (K (Value.tuple [].toArray) w)):=Eq.trans SGe (Eq.trans (CSs [0,1,6,8,7,9] (f119_k6 K Y6) (by kernel_rfl)) (Eq.trans (CSs [33,0,1,6,8,7,9] (f119_k7 K Y6) (by kernel_rfl)) (by kernel_rfl)))
theorem f119_s5_eq (a j k l m n o c p q:Int) (d:Addr) (r s:Int) (t:Bool) (u e v x y:Int) (f:OA) (g h:Nat) (i z:Int) (w:World) (K:KT):f119_s5 a j k l m n o c p q d r s t u e v x y f g h i z w K=(LoopE (f119_lp6 K) (Env.mk 65 [(9,(Value.int .i64 a)),(0,(Value.slice f g h)),(1,(Value.int .i64 i)),(6,(Value.int .i64 e)),(8,(Value.int .u64 c)),(7,(Value.pointer (some d)))] []) w):=Eq.trans (b:=CS P (cA c119 119) none [] [] (f119_kb K) (Env.mk 65 [(9,(VI a)),(25,(VI j)),(24,(VI k)),(23,(VI l)),(22,(VI m)),(21,(VI n)),(20,(VI o)),(8,(Value.int .u64 c)),(19,(Value.int .u64 p)),(18,(VI q)),(7,(VP (some d))),(17,(Value.int .u64 r)),(16,(VI s)),(15,(VB true)),(15,(VB t)),(14,(VI u)),(6,(VI e)),(13,(VI v)),(12,(VI x)),(11,(VI y)),(0,(VS f g h)),(1,(VI i)),(2,(VI z))] []) w) (by kernel_rfl) (Eq.trans (CSb 0 [] (f119_k5 K) (by kernel_rfl)) ((CS_loop' (b:=(cA c119 476)) (X':=[]) (H:=[9,0,1,6,8,7]) (by kernel_rfl) (by kernel_rfl) (by kernel_rfl)).trans (by kernel_rfl)))
theorem f119_s4_eq (e f g:Int) (h:Addr) (i j:Int) (k:Bool) (l c m n o:Int) (p:OA) (q r:Nat) (d s:Int) (w:World) (K:KT):f119_s4 e f g h i j k l c m n o p q r d s w K=((4:Int)≠0∧f119_s5 (IntKind.wrap .i64 (((IntKind.wrap .i64 ((d:Int)+(IntKind.wrap .i64 (((IntKind.wrap .i64 ((c:Int).tdiv 4)):Int) * 2)))):Int) - 1)) (IntKind.wrap .i64 (((IntKind.wrap .i64 ((d:Int)+(IntKind.wrap .i64 (((IntKind.wrap .i64 ((c:Int).tdiv 4)):Int) * 2)))):Int) - 1)) (IntKind.wrap .i64 ((d:Int)+(IntKind.wrap .i64 (((IntKind.wrap .i64 ((c:Int).tdiv 4)):Int) * 2)))) (IntKind.wrap .i64 (((IntKind.wrap .i64 ((c:Int).tdiv 4)):Int) * 2)) (IntKind.wrap .i64 ((c:Int).tdiv 4)) c d e f g h i j k l c m n o p q r d s w K):=Eq.trans (b:=CS P (cA c119 59) none [] [] (f119_kb K) (Env.mk 65 [(8,(Value.int .u64 e)),(19,(Value.int .u64 f)),(18,(VI g)),(7,(VP (some h))),(17,(Value.int .u64 i)),(16,(VI j)),(15,(VB true)),(15,(VB k)),(14,(VI l)),(6,(VI c)),(13,(VI m)),(12,(VI n)),(11,(VI o)),(0,(VS p q r)),(1,(VI d)),(2,(VI s))] []) w) (by kernel_rfl) (Eq.trans (CSs [9,0,1,6,8,7] (f119_k4 K) (by kernel_rfl)) (by kernel_rfl))
theorem f119_s3_eq (d:Addr) (e f:Int) (g:Bool) (h c i j k:Int) (l:OA) (m n:Nat) (o p:Int) (w:World) (K:KT):f119_s3 d e f g h c i j k l m n o p w K=(CallL P 127 [(Value.int .i64 c)] w (fun r s=>∃ q:Int,r=(.int .u64 q)∧f119_s4 q q c d e f g h c i j k l m n o p s K)):=Eq.trans (b:=CS P (cA c119 29) none [] [] (f119_kb K) (Env.mk 65 [(7,(VP (some d))),(17,(Value.int .u64 e)),(16,(VI f)),(15,(VB true)),(15,(VB g)),(14,(VI h)),(6,(VI c)),(13,(VI i)),(12,(VI j)),(11,(VI k)),(0,(VS l m n)),(1,(VI o)),(2,(VI p))] []) w) (by kernel_rfl) (Eq.trans (CSs [0,1,6,8,7] (f119_k3 K) (by kernel_rfl)) (by kernel_rfl))
theorem f119_s2_eq (d:Bool) (e c f g h:Int) (i:OA) (j k:Nat) (l m:Int) (w:World) (K:KT):f119_s2 d e c f g h i j k l m w K=(NewC (zcells P 205) 205 w (fun n o=>St1 (Addr.mk n 0 none) (Value.int .u64 (IntKind.wrap .u64 c)) o (fun p=>f119_s3 (Addr.mk n 0 none) (IntKind.wrap .u64 c) c d e c f g h i j k l m p K))):=Eq.trans (b:=CS P (cA c119 14) none [] [] (f119_kb K) (Env.mk 65 [(15,(VB true)),(15,(VB d)),(14,(VI e)),(6,(VI c)),(13,(VI f)),(12,(VI g)),(11,(VI h)),(0,(VS i j k)),(1,(VI l)),(2,(VI m))] []) w) (by kernel_rfl) (Eq.trans (CSs [0,1,6,7] (f119_k2 K) (by kernel_rfl)) (by kernel_rfl))
theorem f119_s1_eq (c d e f:Int) (g:OA) (h i:Nat) (j k:Int) (w:World) (K:KT):f119_s1 c d e f g h i j k w K=(BIf (decide ((c:Int)≥8)) (f119_s2 (decide ((c:Int)≥8)) c c d e f g h i j k w K) (K (Value.tuple [].toArray) w)):=Eq.trans (b:=CS P (cA c119 3) none [] [] (f119_kb K) (Env.mk 65 [(6,(VI c)),(13,(VI d)),(12,(VI e)),(11,(VI f)),(0,(VS g h i)),(1,(VI j)),(2,(VI k))] []) w) (by kernel_rfl) (Eq.trans (CSs [15,0,1,6] (f119_k1 K) (by kernel_rfl)) (by kernel_rfl))
theorem f119_s0_eq (e:OA) (f g:Nat) (c d:Int) (w:World) (K:KT):f119_s0 e f g c d w K=(f119_s1 (IntKind.wrap .i64 ((d:Int) - c)) (IntKind.wrap .i64 ((d:Int) - c)) c d e f g c d w K):=Eq.trans (b:=CS P (cA c119 1) none [] [] (f119_kb K) (Env.mk 65 [(0,(VS e f g)),(1,(VI c)),(2,(VI d))] []) w) (by kernel_rfl) (Eq.trans (CSs [0,1,6] (f119_k0 K) (by kernel_rfl)) (by kernel_rfl))
theorem f119_eq (a:OA) (b c:Nat) (d e:Int) (w:World) (K:KT):f119 a b c d e w K=(f119_s0 a b c d e w K):=by kernel_rfl
theorem f119_ok (a:OA) (b c:Nat) (d e:Int) (w:World) (K:KT) (h:f119 a b c d e w K):CallL P 119 [(Value.slice a b c),(Value.int .i64 d),(Value.int .i64 e)] w K:=okCS c119 Tryz.func119 (by kernel_rfl) (by kernel_rfl) h
noncomputable def c120:Code:=bodyOf Tryz.f120
noncomputable def rs120:List ResultVar:=Tryz.f120.results.toList
abbrev f120_kb (K:KT):Exit→YT:=bodyK P rs120 K
def f120 (a:OA) (b c:Nat) (d e:Int) (w:World) (K:KT):Prop:=CS P c120 none [6,7] [6,7] (f120_kb K) (env0 57 [(VS a b c),(VI d),(VI e)]) w
def f120_s0 (a:OA) (b c:Nat) (d e:Int) (w:World) (K:KT):Prop:=CS P (cA c120 1) none [6,7] [6,7] (f120_kb K) (Env.mk 57 [(0,(VS a b c)),(1,(VI d)),(2,(VI e))] []) w
abbrev f120_k0 (K:KT):Exit→YT:=kseq P (cA c120 2) (cA c120 3) none [6,7] [6,7] (f120_kb K)
def f120_s1 (a b:Int) (c:OA) (d e:Nat) (f g:Int) (w:World) (K:KT):Prop:=CS P (cA c120 3) none [6,7] [6,7] (f120_kb K) (Env.mk 57 [(7,(VI a)),(6,(VI b)),(0,(VS c d e)),(1,(VI f)),(2,(VI g))] []) w
abbrev f120_k1 (K:KT):Exit→YT:=kseq P (cA c120 6) (cA c120 7) none [6,7] [6,7] (f120_kb K)
def f120_s2 (a b c d e f:Int) (g:OA) (h i:Nat) (j k:Int) (w:World) (K:KT):Prop:=CS P (cA c120 7) none [6,7] [6,7] (f120_kb K) (Env.mk 57 [(8,(VI a)),(15,(VI b)),(14,(VI c)),(13,(VI d)),(7,(VI e)),(6,(VI f)),(0,(VS g h i)),(1,(VI j)),(2,(VI k))] []) w
abbrev f120_k2 (K:KT):Exit→YT:=kseq P (cA c120 14) (cA c120 15) none [6,7] [6,7] (f120_kb K)
def f120_s3 (a:Addr) (b c d e f g:Int) (h:OA) (i j:Nat) (k l:Int) (w:World) (K:KT):Prop:=CS P (cA c120 15) none [6,7] [6,7] (f120_kb K) (Env.mk 57 [(9,(VP (some a))),(8,(VI b)),(15,(VI c)),(14,(VI d)),(13,(VI e)),(7,(VI f)),(6,(VI g)),(0,(VS h i j)),(1,(VI k)),(2,(VI l))] []) w
abbrev f120_k3 (K:KT):Exit→YT:=kseq P (cA c120 30) (cA c120 31) none [6,7] [6,7] (f120_kb K)
def f120_s4 (a b c d e f:Int) (g:Addr) (h i j k l m:Int) (n:OA) (o p:Nat) (q r:Int) (w:World) (K:KT):Prop:=CS P (cA c120 31) none [6,7] [6,7] (f120_kb K) (Env.mk 57 [(10,(VI a)),(20,(VI b)),(19,(VI c)),(18,(VI d)),(17,(VI e)),(16,(VI f)),(9,(VP (some g))),(8,(VI h)),(15,(VI i)),(14,(VI j)),(13,(VI k)),(7,(VI l)),(6,(VI m)),(0,(VS n o p)),(1,(VI q)),(2,(VI r))] []) w
abbrev f120_k4 (K:KT):Exit→YT:=kseq P (cA c120 62) (cA c120 63) none [6,7] [6,7] (f120_kb K)
def f120_s5 (a b c d e f g h i j k l:Int) (m:Addr) (n o p q r s:Int) (t:OA) (u v:Nat) (x y:Int) (w:World) (K:KT):Prop:=CS P (cA c120 63) none [6,7] [6,7] (f120_kb K) (Env.mk 57 [(11,(VI a)),(25,(VI b)),(24,(VI c)),(23,(VI d)),(22,(VI e)),(21,(VI f)),(10,(VI g)),(20,(VI h)),(19,(VI i)),(18,(VI j)),(17,(VI k)),(16,(VI l)),(9,(VP (some m))),(8,(VI n)),(15,(VI o)),(14,(VI p)),(13,(VI q)),(7,(VI r)),(6,(VI s)),(0,(VS t u v)),(1,(VI x)),(2,(VI y))] []) w
abbrev f120_k5 (K:KT):Exit→YT:=kseq P (cA c120 126) (cA c120 127) none [6,7] [6,7] (f120_kb K)
def f120_s6 (a b c d e f g h i j k l m n o p q r:Int) (s:Addr) (t u v x y z:Int) (a0:OA) (b0 c0:Nat) (d0 e0:Int) (w:World) (K:KT):Prop:=CS P (cA c120 127) none [6,7] [6,7] (f120_kb K) (Env.mk 57 [(12,(VI a)),(30,(VI b)),(29,(VI c)),(28,(VI d)),(27,(VI e)),(26,(VI f)),(11,(VI g)),(25,(VI h)),(24,(VI i)),(23,(VI j)),(22,(VI k)),(21,(VI l)),(10,(VI m)),(20,(VI n)),(19,(VI o)),(18,(VI p)),(17,(VI q)),(16,(VI r)),(9,(VP (some s))),(8,(VI t)),(15,(VI u)),(14,(VI v)),(13,(VI x)),(7,(VI y)),(6,(VI z)),(0,(VS a0 b0 c0)),(1,(VI d0)),(2,(VI e0))] []) w
abbrev f120_k6 (K:KT):Exit→YT:=kseq P (cA c120 254) (cA c120 255) none [6,7] [6,7] (f120_kb K)
abbrev f120_k7 (K:KT):Exit→YT:=kseq P (cA c120 508) (cA c120 509) none [11,9] [6,7] (f120_k6 K)
def f120_s7 (a:Addr) (b c d:Int) (f:OA) (g h:Nat) (w:World) (K:KT):Prop:=SG P (cA c120 2037) none [11,9] [6,7] (f120_k6 K) (Env.mk 57 [(9,(VP (some a))),(12,(VI b)),(11,(VI c)),(10,(VI d)),(0,(VS f g h))] []) w
def f120_s8 (a:Int) (b:Addr) (w:World) (K:KT):Prop:=SG P (cA c120 255) none [6,7] [6,7] (f120_kb K) (Env.mk 57 [(11,(VI a)),(9,(VP (some b)))] []) w
abbrev f120_k12 (K:KT):Exit→YT:=kseq P (cA c120 510) (cA c120 511) none [6,7] [6,7] (f120_kb K)
def f120_s9 (a b:Int) (c:Addr) (w:World) (K:KT):Prop:=CS P (cA c120 511) none [6,7] [6,7] (f120_kb K) (Env.mk 57 [(49,(VI a)),(11,(VI b)),(9,(VP (some c)))] []) w
abbrev f120_k13 (K:KT):Exit→YT:=kblock 0 (f120_kb K)
abbrev f120_k14 (K:KT):Exit→YT:=kseq P (cA c120 2044) (cA c120 2045) none [6,7] [6,7] (f120_k13 K)
theorem f120_s9_eq (d c:Int) (e:Addr) (w:World) (K:KT):f120_s9 d c e w K=(BIf ((d:Int) == 0) (K (Value.tuple [(Value.int .i64 c),(Value.int .i64 1)].toArray) w) (BIf ((d:Int) == 12) (K (Value.tuple [(Value.int .i64 c),(Value.int .i64 2)].toArray) w) (K (Value.tuple [(Value.int .i64 c),(Value.int .i64 0)].toArray) w))):=Eq.trans (b:=CS P (cA c120 511) none [6,7] [6,7] (f120_kb K) (Env.mk 57 [(49,(VI d)),(11,(VI c)),(9,(VP (some e)))] []) w) (by kernel_rfl) (Eq.trans (CSb 0 [6,7] (f120_k13 K) (by kernel_rfl)) (Eq.trans (CSs [51,11,49] (f120_k14 K) (by kernel_rfl)) (by kernel_rfl)))
theorem f120_s8_eq (d:Int) (c:Addr) (w:World) (K:KT):f120_s8 d c w K=(∃ e:Int,w.cell? c=some (.int .i64 e)∧f120_s9 e d c w K):=Eq.trans SGe (Eq.trans (CSs [11,49] (f120_k12 K) (by kernel_rfl)) (by kernel_rfl))
theorem f120_s7_eq (a:Addr) (c d e:Int) (f:OA) (g h:Nat) (w:World) (K:KT):f120_s7 a c d e f g h w K=(CallL P 133 [(Value.slice f g h),(Value.int .i64 e),(Value.int .i64 d),(Value.int .i64 c),(Value.pointer (some a))] w (fun j k=>∃ i:Int,j=(.int .i64 i)∧f120_s8 i a k K)):=Eq.trans SGe (by kernel_rfl)
theorem f120_s6_eq (h k l m n o g p q r s t i u v x y z:Int) (c:Addr) (j a0 b0 c0 d0 e0:Int) (d:OA) (e f:Nat) (f0 g0:Int) (w:World) (K:KT):f120_s6 h k l m n o g p q r s t i u v x y z c j a0 b0 c0 d0 e0 d e f f0 g0 w K=(BIf (decide ((j:Int)≥8)) (BIf (decide ((j:Int)≥50)) (CallL P 132 [(Value.slice d e f),(Value.int .i64 i),(Value.pointer (some c))] w (fun l0 m0=>∃ h0:Int,l0=(.int .i64 h0)∧CallL P 132 [(Value.slice d e f),(Value.int .i64 g),(Value.pointer (some c))] m0 (fun n0 o0=>∃ i0:Int,n0=(.int .i64 i0)∧CallL P 132 [(Value.slice d e f),(Value.int .i64 h),(Value.pointer (some c))] o0 (fun p0 q0=>∃ j0:Int,p0=(.int .i64 j0)∧f120_s7 c j0 i0 h0 d e f q0 K)))) (f120_s7 c h g i d e f w K)) (f120_s8 g c w K)):=Eq.trans (b:=CS P (cA c120 127) none [6,7] [6,7] (f120_kb K) (Env.mk 57 [(12,(VI h)),(30,(VI k)),(29,(VI l)),(28,(VI m)),(27,(VI n)),(26,(VI o)),(11,(VI g)),(25,(VI p)),(24,(VI q)),(23,(VI r)),(22,(VI s)),(21,(VI t)),(10,(VI i)),(20,(VI u)),(19,(VI v)),(18,(VI x)),(17,(VI y)),(16,(VI z)),(9,(VP (some c))),(8,(VI j)),(15,(VI a0)),(14,(VI b0)),(13,(VI c0)),(7,(VI d0)),(6,(VI e0)),(0,(VS d e f)),(1,(VI f0)),(2,(VI g0))] []) w) (by kernel_rfl) (Eq.trans (CSs [11,9] (f120_k6 K) (by kernel_rfl)) (Eq.trans (CSs [32,9,0,12,11,10,8] (f120_k7 K) (by kernel_rfl)) (by kernel_rfl)))
theorem f120_s5_eq (e f g h i j k l m n o p:Int) (q:Addr) (c r s t u v:Int) (x:OA) (y z:Nat) (d a0:Int) (w:World) (K:KT):f120_s5 e f g h i j k l m n o p q c r s t u v x y z d a0 w K=((4:Int)≠0∧f120_s6 (IntKind.wrap .i64 ((d:Int)+(IntKind.wrap .i64 (((IntKind.wrap .i64 ((c:Int).tdiv 4)):Int) * 3)))) (IntKind.wrap .i64 ((d:Int)+(IntKind.wrap .i64 (((IntKind.wrap .i64 ((c:Int).tdiv 4)):Int) * 3)))) (IntKind.wrap .i64 (((IntKind.wrap .i64 ((c:Int).tdiv 4)):Int) * 3)) (IntKind.wrap .i64 ((c:Int).tdiv 4)) c d e f g h i j k l m n o p q c r s t u v x y z d a0 w K):=Eq.trans (b:=CS P (cA c120 63) none [6,7] [6,7] (f120_kb K) (Env.mk 57 [(11,(VI e)),(25,(VI f)),(24,(VI g)),(23,(VI h)),(22,(VI i)),(21,(VI j)),(10,(VI k)),(20,(VI l)),(19,(VI m)),(18,(VI n)),(17,(VI o)),(16,(VI p)),(9,(VP (some q))),(8,(VI c)),(15,(VI r)),(14,(VI s)),(13,(VI t)),(7,(VI u)),(6,(VI v)),(0,(VS x y z)),(1,(VI d)),(2,(VI a0))] []) w) (by kernel_rfl) (Eq.trans (CSs [9,0,12,11,10,8] (f120_k5 K) (by kernel_rfl)) (by kernel_rfl))
theorem f120_s4_eq (e f g h i j:Int) (k:Addr) (c l m n o p:Int) (q:OA) (r s:Nat) (d t:Int) (w:World) (K:KT):f120_s4 e f g h i j k c l m n o p q r s d t w K=((4:Int)≠0∧f120_s5 (IntKind.wrap .i64 ((d:Int)+(IntKind.wrap .i64 (((IntKind.wrap .i64 ((c:Int).tdiv 4)):Int) * 2)))) (IntKind.wrap .i64 ((d:Int)+(IntKind.wrap .i64 (((IntKind.wrap .i64 ((c:Int).tdiv 4)):Int) * 2)))) (IntKind.wrap .i64 (((IntKind.wrap .i64 ((c:Int).tdiv 4)):Int) * 2)) (IntKind.wrap .i64 ((c:Int).tdiv 4)) c d e f g h i j k c l m n o p q r s d t w K):=Eq.trans (b:=CS P (cA c120 31) none [6,7] [6,7] (f120_kb K) (Env.mk 57 [(10,(VI e)),(20,(VI f)),(19,(VI g)),(18,(VI h)),(17,(VI i)),(16,(VI j)),(9,(VP (some k))),(8,(VI c)),(15,(VI l)),(14,(VI m)),(13,(VI n)),(7,(VI o)),(6,(VI p)),(0,(VS q r s)),(1,(VI d)),(2,(VI t))] []) w) (by kernel_rfl) (Eq.trans (CSs [9,0,11,10,8,1] (f120_k4 K) (by kernel_rfl)) (by kernel_rfl))
theorem f120_s3_eq (e:Addr) (c f g h i j:Int) (k:OA) (l m:Nat) (d n:Int) (w:World) (K:KT):f120_s3 e c f g h i j k l m d n w K=((4:Int)≠0∧f120_s4 (IntKind.wrap .i64 ((d:Int)+(IntKind.wrap .i64 (((IntKind.wrap .i64 ((c:Int).tdiv 4)):Int) * 1)))) (IntKind.wrap .i64 ((d:Int)+(IntKind.wrap .i64 (((IntKind.wrap .i64 ((c:Int).tdiv 4)):Int) * 1)))) (IntKind.wrap .i64 (((IntKind.wrap .i64 ((c:Int).tdiv 4)):Int) * 1)) (IntKind.wrap .i64 ((c:Int).tdiv 4)) c d e c f g h i j k l m d n w K):=Eq.trans (b:=CS P (cA c120 15) none [6,7] [6,7] (f120_kb K) (Env.mk 57 [(9,(VP (some e))),(8,(VI c)),(15,(VI f)),(14,(VI g)),(13,(VI h)),(7,(VI i)),(6,(VI j)),(0,(VS k l m)),(1,(VI d)),(2,(VI n))] []) w) (by kernel_rfl) (Eq.trans (CSs [9,0,10,8,1] (f120_k3 K) (by kernel_rfl)) (by kernel_rfl))
theorem f120_s2_eq (c d e f g h:Int) (i:OA) (j k:Nat) (l m:Int) (w:World) (K:KT):f120_s2 c d e f g h i j k l m w K=(NewC (zcells P 3) 3 w (fun n o=>f120_s3 (Addr.mk n 0 none) c d e f g h i j k l m o K)):=Eq.trans (b:=CS P (cA c120 7) none [6,7] [6,7] (f120_kb K) (Env.mk 57 [(8,(VI c)),(15,(VI d)),(14,(VI e)),(13,(VI f)),(7,(VI g)),(6,(VI h)),(0,(VS i j k)),(1,(VI l)),(2,(VI m))] []) w) (by kernel_rfl) (Eq.trans (CSs [9,0,8,1] (f120_k2 K) (by kernel_rfl)) (by kernel_rfl))
theorem f120_s1_eq (e f:Int) (g:OA) (h i:Nat) (c d:Int) (w:World) (K:KT):f120_s1 e f g h i c d w K=(f120_s2 (IntKind.wrap .i64 ((d:Int) - c)) (IntKind.wrap .i64 ((d:Int) - c)) c d e f g h i c d w K):=Eq.trans (b:=CS P (cA c120 3) none [6,7] [6,7] (f120_kb K) (Env.mk 57 [(7,(VI e)),(6,(VI f)),(0,(VS g h i)),(1,(VI c)),(2,(VI d))] []) w) (by kernel_rfl) (Eq.trans (CSs [0,8,1] (f120_k1 K) (by kernel_rfl)) (by kernel_rfl))
theorem f120_s0_eq (c:OA) (d e:Nat) (f g:Int) (w:World) (K:KT):f120_s0 c d e f g w K=(f120_s1 0 0 c d e f g w K):=Eq.trans (b:=CS P (cA c120 1) none [6,7] [6,7] (f120_kb K) (Env.mk 57 [(0,(VS c d e)),(1,(VI f)),(2,(VI g))] []) w) (by kernel_rfl) (Eq.trans (CSs [0,1,2] (f120_k0 K) (by kernel_rfl)) (by kernel_rfl))
theorem f120_eq (a:OA) (b c:Nat) (d e:Int) (w:World) (K:KT):f120 a b c d e w K=(f120_s0 a b c d e w K):=by kernel_rfl
theorem f120_ok (a:OA) (b c:Nat) (d e:Int) (w:World) (K:KT) (h:f120 a b c d e w K):CallL P 120 [(Value.slice a b c),(Value.int .i64 d),(Value.int .i64 e)] w K:=okCS c120 Tryz.func120 (by kernel_rfl) (by kernel_rfl) h
end Go.Fx.Tryz
namespace Go.Fx.Tryz
open Go Go.Fx Go.Fx.Mo
open Go.Proofs
open Go.Sort (swp swp_size ltInt order2 median medianAdjacent choosePivot reverseLoop reverseRange Hint xorNext xorNextN bitsLen breakStep breakPatterns)
variable {w0 w:World} {H X:HL} {K:KT}
set_option maxRecDepth 20000
section
variable {g c:Nat} {T:TypeId} {z:List Value}
def RvInv (w0:World) (H:HL) (g c:Nat) (T:TypeId) (z:List Value) (n:Nat) (D:Array Int) (m:Nat) (ee:Env) (w:World):Prop:=
 ∃ (i j:Nat) (d:Array Int),m=j - i∧j < n∧i≤n∧d.size=n∧reverseLoop i j d=D∧ee=Env.mk 32 [(7,(Value.int .i64 j)),(6,(Value.int .i64 i)),(0,(Value.slice (some (Addr.mk g 0 none)) n c))] []∧St w0 w ((g,Cs (uCs d z) T)::H)
theorem reverse_ok {d:Array Int} {a b:Nat} (h:St w0 w ((g,Cs (uCs d z) T)::H)) (hab:a < b) (hb:b≤d.size) (hn:d.size < 1000000000000) (hK:∀ w',St w0 w' ((g,Cs (uCs (reverseRange d a b) z) T)::H)→K (.tuple [].toArray) w') :
  CallL P 121 [.slice (some (Addr.mk g 0 none)) d.size c,.int .i64 a,.int .i64 b] w K:=by
 refine f121_ok _ _ _ _ _ _ _ ?_
 rw [f121_eq,f121_s0_eq,f121_s1_eq,f121_s2_eq]
 have e1:IntKind.wrap .i64 ((b:Int) - 1)=((b - 1:Nat):Int):=by rw [wrap_i64 (by omega) (by omega)]; omega
 rw [e1]
 refine ⟨RvInv w0 H g c T z d.size (reverseRange d a b),⟨b - 1 - a,a,b - 1,d,rfl,by omega,by omega,rfl,rfl,rfl,h⟩,?_⟩
 generalize hnn:d.size=n at hb hn
 generalize reverseRange d a b=D at hK
 rintro m ee w1 ⟨i,j,d1,rfl,hj,hi,hd1,hD,rfl,h1⟩
 show f121_lb3 ..
 rw [f121_lb3_eq,BIf_iff]
 rw [reverseLoop] at hD
 constructor
 ·intro hlt
  have hlt:i < j:=by simpa using hlt
  rw [if_pos hlt] at hD
  rw [f121_s4_eq]
  subst hd1
  refine swap_at (i:=i) (j:=j) rfl rfl (by omega) (by omega) h1 fun w2 h2=>?_
  rw [f121_s5_eq]
  have ej:IntKind.wrap .i64 ((j:Int) - 1)=((j - 1:Nat):Int):=by rw [wrap_i64 (by omega) (by omega)]; omega
  have ei:IntKind.wrap .i64 ((i:Int)+1)=((i+1:Nat):Int):=by rw [wrap_i64 (by omega) (by omega)]; omega
  exact ⟨j - 1 - (i+1),by omega,i+1,j - 1,_,rfl,by omega,by omega,swp_size _ _ _,hD,by rw [ei,ej],h2⟩
 ·intro hge
  have hge:¬ i < j:=by simpa using hge
  rw [if_neg hge] at hD
  subst hD
  exact hK w1 h1
theorem order2_ok {d:Array Int} {a b p s:Nat} {ea eb:Int} (ha:ea=(a:Int)) (hb:eb=(b:Int)) (hm:(g,Cs (uCs d z) T)∈X) (h:St w0 w ((p,Cs [I64 s] 3)::X)) (han:a < d.size) (hbn:b < d.size) (hs:s < 1000)
  (hK:∀ w',St w0 w' ((p,Cs [I64 ((order2 ltInt d a b s).2.2:Nat)] 3)::X)→K (.tuple [I64 ((order2 ltInt d a b s).1:Nat),I64 ((order2 ltInt d a b s).2.1:Nat)].toArray) w') :
  CallL P 135 [.slice (some (Addr.mk g 0 none)) d.size c,.int .i64 ea,.int .i64 eb,.pointer (some (Addr.mk p 0 none))] w K:=by
 subst ha hb
 refine f135_ok _ _ _ _ _ _ _ _ ?_
 rw [f135_eq]
 refine less_at (i:=b) (j:=a) rfl rfl hbn han h (List.mem_cons_of_mem _ hm) fun w1 h1=>⟨_,rfl,?_⟩
 unfold order2 at hK
 rw [f135_s0_eq,BIf_iff]
 constructor
 ·intro hl
  rw [if_pos hl] at hK
  refine ⟨(s:Int),h1.cell (k:=0) rfl,?_⟩
  refine h1.st1 (k:=0) rfl (by simp) rfl fun w2 h2=>?_
  have h2:St w0 w2 ((p,Cs [I64 (IntKind.wrap .i64 ((s:Int)+1))] 3)::X):=h2
  rw [wrap_i64 (by omega) (by omega),show (s:Int)+1=((s+1:Nat):Int) by omega] at h2
  exact hK w2 h2
 ·intro hl
  rw [if_neg (by simp [hl])] at hK
  rw [f135_s1_eq]
  exact hK w1 h1
theorem order2_in (d:Array Int) (a b s n:Nat) (ha:a < n) (hb:b < n):(order2 ltInt d a b s).1 < n∧(order2 ltInt d a b s).2.1 < n∧(order2 ltInt d a b s).2.2≤s+1:=by
 unfold order2
 split
 ·exact ⟨hb,ha,Nat.le_refl _⟩
 ·exact ⟨ha,hb,Nat.le_succ _⟩
theorem median_in (d:Array Int) (a b c' s n:Nat) (ha:a < n) (hb:b < n) (hc:c' < n):(median ltInt d a b c' s).1 < n∧(median ltInt d a b c' s).2≤s+3:=by
 unfold median
 simp only
 obtain ⟨h1,h2,h3⟩:=order2_in d a b s n ha hb
 obtain ⟨h4,h5,h6⟩:=order2_in d (order2 ltInt d a b s).2.1 c' (order2 ltInt d a b s).2.2 n h2 hc
 obtain ⟨h7,h8,h9⟩:=order2_in d (order2 ltInt d a b s).1 (order2 ltInt d (order2 ltInt d a b s).2.1 c' (order2 ltInt d a b s).2.2).1 (order2 ltInt d (order2 ltInt d a b s).2.1 c' (order2 ltInt d a b s).2.2).2.2 n h1 h4
 exact ⟨h8,by omega⟩
theorem median_ok {d:Array Int} {a b c' p s:Nat} {ea eb ec:Int} (ha:ea=(a:Int)) (hb:eb=(b:Int)) (hc:ec=(c':Int)) (hm:(g,Cs (uCs d z) T)∈X) (h:St w0 w ((p,Cs [I64 s] 3)::X)) (han:a < d.size) (hbn:b < d.size) (hcn:c' < d.size) (hs:s < 900)
  (hK:∀ w',St w0 w' ((p,Cs [I64 ((median ltInt d a b c' s).2:Nat)] 3)::X)→K (I64 ((median ltInt d a b c' s).1:Nat)) w') :
  CallL P 133 [.slice (some (Addr.mk g 0 none)) d.size c,.int .i64 ea,.int .i64 eb,.int .i64 ec,.pointer (some (Addr.mk p 0 none))] w K:=by
 refine f133_ok _ _ _ _ _ _ _ _ _ ?_
 rw [f133_eq]
 obtain ⟨h1,h2,h3⟩:=order2_in d a b s d.size han hbn
 refine order2_ok ha hb hm h han hbn (by omega) fun w1 k1=>⟨_,_,rfl,?_⟩
 obtain ⟨h4,h5,h6⟩:=order2_in d (order2 ltInt d a b s).2.1 c' (order2 ltInt d a b s).2.2 d.size h2 hcn
 refine order2_ok rfl hc hm k1 h2 hcn (by omega) fun w2 k2=>⟨_,_,rfl,?_⟩
 refine order2_ok rfl rfl hm k2 h1 h4 (by omega) fun w3 k3=>⟨_,_,rfl,?_⟩
 exact hK w3 k3
theorem adjacent_ok {d:Array Int} {a p s:Nat} {ea:Int} (ha:ea=(a:Int)) (hm:(g,Cs (uCs d z) T)∈X) (h:St w0 w ((p,Cs [I64 s] 3)::X)) (ha1:1≤a) (han:a+1 < d.size) (hn:d.size < 1000000000000) (hs:s < 900)
  (hK:∀ w',St w0 w' ((p,Cs [I64 ((medianAdjacent ltInt d a s).2:Nat)] 3)::X)→K (I64 ((medianAdjacent ltInt d a s).1:Nat)) w') :
  CallL P 132 [.slice (some (Addr.mk g 0 none)) d.size c,.int .i64 ea,.pointer (some (Addr.mk p 0 none))] w K:=by
 subst ha
 refine f132_ok _ _ _ _ _ _ _ ?_
 rw [f132_eq]
 refine median_ok (a:=a - 1) (b:=a) (c':=a+1) ?_ rfl ?_ hm h (by omega) (by omega) (by omega) hs fun w1 k1=>⟨_,rfl,hK w1 k1⟩
 ·rw [wrap_i64 (by omega) (by omega)]; omega
 ·rw [wrap_i64 (by omega) (by omega)]; omega
def hintI:Hint→Int
 | .unknown=>0
 | .increasing=>1
 | .decreasing=>2
theorem z3i:zcells P 3=[I64 0].toArray:=by kernel_rfl
theorem pivot_ok {d:Array Int} {a b:Nat} (hm:(g,Cs (uCs d z) T)∈X) (h:St w0 w X) (hab:a < b) (hb:b≤d.size) (hn:d.size < 1000000000000)
  (hK:∀ w',St w0 w' X→K (.tuple [I64 ((choosePivot ltInt d a b).1:Nat),I64 (hintI (choosePivot ltInt d a b).2)].toArray) w') :
  CallL P 120 [.slice (some (Addr.mk g 0 none)) d.size c,.int .i64 a,.int .i64 b] w K:=by
 refine f120_ok _ _ _ _ _ _ _ ?_
 have el:IntKind.wrap .i64 ((b:Int) - (a:Int))=((b - a:Nat):Int):=by rw [wrap_i64 (by omega) (by omega)]; omega
 rw [f120_eq,f120_s0_eq,f120_s1_eq,f120_s2_eq,z3i]
 refine h.newC fun p w1 hp h1=>?_
 have h1:St w0 w1 ((p,Cs [I64 ((0:Nat):Int)] 3)::X):=h1
 rw [el,f120_s3_eq]
 have e4:IntKind.wrap .i64 (((b - a:Nat):Int).tdiv 4)=(((b - a) / 4:Nat):Int):=by
  rw [Int.tdiv_eq_ediv_of_nonneg (by omega),wrap_i64 (by omega) (by omega)]; omega
 rw [e4]
 have ek:∀ k:Nat,k≤3→IntKind.wrap .i64 ((a:Int)+IntKind.wrap .i64 ((((b - a) / 4:Nat):Int) * (k:Int)))=((a+(b - a) / 4 * k:Nat):Int):=fun k hk=>by
  have hle:(b - a) / 4 * k≤(b - a) / 4 * 3:=Nat.mul_le_mul_left _ hk
  rw [show ((((b - a) / 4:Nat):Int) * (k:Int))=(((b - a) / 4 * k:Nat):Int) by rw [Int.natCast_mul],wrap_i64 (x:=(((b - a) / 4 * k:Nat):Int)) (by omega) (by omega),wrap_i64 (by omega) (by omega)]
  omega
 have ek1:=ek 1 (by omega)
 have ek2:=ek 2 (by omega)
 have ek3:=ek 3 (by omega)
 refine ⟨by omega,?_⟩
 rw [f120_s4_eq]
 refine ⟨by omega,?_⟩
 rw [f120_s5_eq]
 refine ⟨by omega,?_⟩
 rw [f120_s6_eq,e4]
 have ek1':IntKind.wrap .i64 ((a:Int)+IntKind.wrap .i64 ((((b - a) / 4:Nat):Int) * 1))=((a+(b - a) / 4 * 1:Nat):Int):=ek1
 have ek2':IntKind.wrap .i64 ((a:Int)+IntKind.wrap .i64 ((((b - a) / 4:Nat):Int) * 2))=((a+(b - a) / 4 * 2:Nat):Int):=ek2
 have ek3':IntKind.wrap .i64 ((a:Int)+IntKind.wrap .i64 ((((b - a) / 4:Nat):Int) * 3))=((a+(b - a) / 4 * 3:Nat):Int):=ek3
 rw [ek1',ek2',ek3']
 have s8:∀ w2 (r:Nat × Nat),(r.1,if r.2=0 then Hint.increasing else if r.2=12 then .decreasing else .unknown)=choosePivot ltInt d a b→r.2≤100→St w0 w2 ((p,Cs [I64 ((r.2:Nat):Int)] 3)::X)→f120_s8 ((r.1:Nat):Int) (Addr.mk p 0 none) w2 K:=by
  intro w2 r hr hr2 h2
  have hK:=hK w2 (h2.tail hp)
  rw [← hr] at hK
  rw [f120_s8_eq]
  refine ⟨((r.2:Nat):Int),h2.cell (k:=0) rfl,?_⟩
  rw [f120_s9_eq,BIf_iff]
  refine ⟨fun h0=>?_,fun h0=>?_⟩
  ·have h0:r.2=0:=by simp at h0; omega
   rw [if_pos h0] at hK
   exact hK
  ·have h0:r.2≠0:=by simp at h0; omega
   rw [if_neg h0] at hK
   rw [BIf_iff]
   refine ⟨fun h12=>?_,fun h12=>?_⟩
   ·have h12:r.2=12:=by simp at h12; omega
    rw [if_pos h12] at hK
    exact hK
   ·have h12:r.2≠12:=by simp at h12; omega
    rw [if_neg h12] at hK
    exact hK
 have s7:∀ w2 (i j k s:Nat),((median ltInt d i j k s).1,if (median ltInt d i j k s).2=0 then Hint.increasing else if (median ltInt d i j k s).2=12 then .decreasing else .unknown)=choosePivot ltInt d a b→i < d.size→j < d.size→k < d.size→s≤20→
   St w0 w2 ((p,Cs [I64 ((s:Nat):Int)] 3)::X)→f120_s7 (Addr.mk p 0 none) ((k:Nat):Int) ((j:Nat):Int) ((i:Nat):Int) (some (Addr.mk g 0 none)) d.size c w2 K:=by
  intro w2 i j k s hr hi hj hk hs h2
  rw [f120_s7_eq]
  obtain ⟨_,m2⟩:=median_in d i j k s d.size hi hj hk
  exact median_ok rfl rfl rfl hm h2 hi hj hk (by omega) fun w3 h3=>⟨_,rfl,s8 w3 (median ltInt d i j k s) hr (by omega) h3⟩
 have hcp:choosePivot ltInt d a b=((if b - a≥8 then (if b - a≥50 then median ltInt d (medianAdjacent ltInt d (a+(b - a) / 4 * 1) 0).1 (medianAdjacent ltInt d (a+(b - a) / 4 * 2) (medianAdjacent ltInt d (a+(b - a) / 4 * 1) 0).2).1
   (medianAdjacent ltInt d (a+(b - a) / 4 * 3) (medianAdjacent ltInt d (a+(b - a) / 4 * 2) (medianAdjacent ltInt d (a+(b - a) / 4 * 1) 0).2).2).1 (medianAdjacent ltInt d (a+(b - a) / 4 * 3) (medianAdjacent ltInt d (a+(b - a) / 4 * 2) (medianAdjacent ltInt d (a+(b - a) / 4 * 1) 0).2).2).2
   else median ltInt d (a+(b - a) / 4 * 1) (a+(b - a) / 4 * 2) (a+(b - a) / 4 * 3) 0) else (a+(b - a) / 4 * 2,0)).1,if (if b - a≥8 then (if b - a≥50 then median ltInt d (medianAdjacent ltInt d (a+(b - a) / 4 * 1) 0).1 (medianAdjacent ltInt d (a+(b - a) / 4 * 2) (medianAdjacent ltInt d (a+(b - a) / 4 * 1) 0).2).1
   (medianAdjacent ltInt d (a+(b - a) / 4 * 3) (medianAdjacent ltInt d (a+(b - a) / 4 * 2) (medianAdjacent ltInt d (a+(b - a) / 4 * 1) 0).2).2).1 (medianAdjacent ltInt d (a+(b - a) / 4 * 3) (medianAdjacent ltInt d (a+(b - a) / 4 * 2) (medianAdjacent ltInt d (a+(b - a) / 4 * 1) 0).2).2).2
   else median ltInt d (a+(b - a) / 4 * 1) (a+(b - a) / 4 * 2) (a+(b - a) / 4 * 3) 0) else (a+(b - a) / 4 * 2,0)).2=0 then Hint.increasing else if (if b - a≥8 then (if b - a≥50 then median ltInt d (medianAdjacent ltInt d (a+(b - a) / 4 * 1) 0).1 (medianAdjacent ltInt d (a+(b - a) / 4 * 2) (medianAdjacent ltInt d (a+(b - a) / 4 * 1) 0).2).1
   (medianAdjacent ltInt d (a+(b - a) / 4 * 3) (medianAdjacent ltInt d (a+(b - a) / 4 * 2) (medianAdjacent ltInt d (a+(b - a) / 4 * 1) 0).2).2).1 (medianAdjacent ltInt d (a+(b - a) / 4 * 3) (medianAdjacent ltInt d (a+(b - a) / 4 * 2) (medianAdjacent ltInt d (a+(b - a) / 4 * 1) 0).2).2).2
   else median ltInt d (a+(b - a) / 4 * 1) (a+(b - a) / 4 * 2) (a+(b - a) / 4 * 3) 0) else (a+(b - a) / 4 * 2,0)).2=12 then .decreasing else .unknown):=rfl
 rw [BIf_iff]
 refine ⟨fun h8=>?_,fun h8=>?_⟩
 ·have h8:b - a≥8:=by simp at h8; omega
  simp only [if_pos h8] at hcp
  rw [BIf_iff]
  refine ⟨fun h50=>?_,fun h50=>?_⟩
  ·have h50:b - a≥50:=by simp at h50; omega
   simp only [if_pos h50] at hcp
   have b1:∀ s,(medianAdjacent ltInt d (a+(b - a) / 4 * 1) s).1 < d.size∧(medianAdjacent ltInt d (a+(b - a) / 4 * 1) s).2≤s+3:=fun s=>median_in _ _ _ _ _ _ (by omega) (by omega) (by omega)
   have b2:∀ s,(medianAdjacent ltInt d (a+(b - a) / 4 * 2) s).1 < d.size∧(medianAdjacent ltInt d (a+(b - a) / 4 * 2) s).2≤s+3:=fun s=>median_in _ _ _ _ _ _ (by omega) (by omega) (by omega)
   have b3:∀ s,(medianAdjacent ltInt d (a+(b - a) / 4 * 3) s).1 < d.size∧(medianAdjacent ltInt d (a+(b - a) / 4 * 3) s).2≤s+3:=fun s=>median_in _ _ _ _ _ _ (by omega) (by omega) (by omega)
   have c1:=b1 0
   refine adjacent_ok rfl hm h1 (by omega) (by omega) hn (by omega) fun w2 h2=>⟨_,rfl,?_⟩
   have c2:=b2 (medianAdjacent ltInt d (a+(b - a) / 4 * 1) 0).2
   refine adjacent_ok rfl hm h2 (by omega) (by omega) hn (by omega) fun w3 h3=>⟨_,rfl,?_⟩
   have c3:=b3 (medianAdjacent ltInt d (a+(b - a) / 4 * 2) (medianAdjacent ltInt d (a+(b - a) / 4 * 1) 0).2).2
   refine adjacent_ok rfl hm h3 (by omega) (by omega) hn (by omega) fun w4 h4=>⟨_,rfl,?_⟩
   exact s7 w4 _ _ _ _ hcp.symm c1.1 c2.1 c3.1 (by omega) h4
  ·have h50:¬ b - a≥50:=by simp at h50; omega
   simp only [if_neg h50] at hcp
   exact s7 w1 _ _ _ _ hcp.symm (by omega) (by omega) (by omega) (by omega) h1
 ·have h8:¬ b - a≥8:=by simp at h8; omega
  simp only [if_neg h8] at hcp
  exact s8 w1 (a+(b - a) / 4 * 2,0) hcp.symm (by simp) h1
end
end Go.Fx.Tryz
namespace Go.Fx.Tryz
open Go Go.Fx Go.Fx.Mo
open Go.Proofs
open Go.Sort (swp swp_size ltInt xorNext xorNextN bitsLen breakStep breakPatterns)
variable {w0 w:World} {H X:HL} {K:KT}
set_option maxRecDepth 20000
theorem St.drewN (h:St w0 w H) (n:Nat):St w0 (w.drewN n) H:=⟨⟨h.kept.os,h.kept.tape,h.kept.output⟩,h.le,h.has,h.nd,h.old⟩
theorem next_ok {p x:Nat} {T2:TypeId} (h:St w0 w ((p,Cs [.int .u64 (x:Nat)] T2)::X)) (hx:x < 18446744073709551616) (hK:∀ w',St w0 w' ((p,Cs [.int .u64 (xorNextN x:Nat)] T2)::X)→K (.int .u64 (xorNextN x:Nat)) w') :
  CallL P 128 [.pointer (some (Addr.mk p 0 none))] w K:=by
 have hb:w.heap[p]?=some (Cs [.int .u64 (x:Nat)] T2):=h.has _ _ (.head _)
 refine CallL_of (AnyF.xorshift_Next (P:=P) (ρ:=Tryz.sortR_ren) { Tryz.sortR with } p 0 x hx w (cell_of hb) (frozen_of hb)) ?_
 rintro e w' ⟨rfl,rfl⟩
 refine ⟨_,rfl,hK _ ?_⟩
 have e:w.setCell (Addr.mk p 0 none) (.int .u64 (xorNextN x:Nat))=w.putObj p (Cs [.int .u64 (xorNextN x:Nat)] T2):=setCell_of _ hb
 have e':w.setCell ⟨p,0,none⟩ (.int .u64 (xorNextN x:Nat))=w.putObj p (Cs [.int .u64 (xorNextN x:Nat)] T2):=e
 rw [e']
 exact St.drewN (h.put (k:=0) rfl _) 3
theorem pow_ok (h:St w0 w X) {n:Nat} (hn:n < 4611686018427387904) (hK:∀ w',St w0 w' X→K (.int .u64 ((1 <<< bitsLen n:Nat):Int)) w'):CallL P 127 [.int .i64 (n:Nat)] w K:=by
 refine CallL_of (AnyF.nextPowerOfTwo (P:=P) (ρ:=Tryz.sortR_ren) { Tryz.sortR with } n hn w) ?_
 rintro e w' ⟨rfl,rfl⟩
 exact ⟨_,rfl,hK w' h⟩
section
variable {g c:Nat} {T:TypeId} {z:List Value}
def brk (a length modulus idx0:Nat) (d:Array Int):Nat→UInt64 × Array Int
 | 0=>(UInt64.ofNat length,d)
 | k+1=>breakStep a length modulus (brk a length modulus idx0 d k) (idx0+k)
theorem brk_size (a length modulus idx0:Nat) (d:Array Int):∀ k,(brk a length modulus idx0 d k).2.size=d.size
 | 0=>rfl
 | k+1=>by
  have:=brk_size a length modulus idx0 d k
  show (swp _ _ _).size=_
  rw [swp_size,this]
theorem breakPatterns_is (d:Array Int) (a b:Nat) (h:b - a≥8):breakPatterns d a b=(brk a (b - a) (1 <<< bitsLen (b - a)) (a+(b - a) / 4 * 2 - 1) d 3).2:=by
 unfold breakPatterns
 simp only [if_pos h]
 rfl
theorem pow_le (n:Nat) (h:0 < n):1 <<< bitsLen n≤2 * n:=by
 rw [Nat.one_shiftLeft]
 unfold bitsLen
 rw [if_neg (by omega),Nat.pow_succ]
 have:=Nat.log2_self_le (n:=n) (by omega)
 omega
theorem pow_pos' (n:Nat):0 < 1 <<< bitsLen n:=by rw [Nat.one_shiftLeft]; exact Nat.two_pow_pos _
theorem and_u64 {x y:Nat} (hx:x < 18446744073709551616) (hy:y < 4611686018427387904):IntKind.wrap .i64 (IntKind.wrap .u64 ((BitVec.ofInt (IntKind.bits .u64) (x:Int) &&& BitVec.ofInt (IntKind.bits .u64) (y:Int)).toNat:Int))=((x &&& y:Nat):Int):=by
 have h1:(BitVec.ofInt (IntKind.bits .u64) (x:Int) &&& BitVec.ofInt (IntKind.bits .u64) (y:Int)).toNat=x &&& y:=by
  rw [BitVec.toNat_and,BitVec.ofInt_natCast,BitVec.ofInt_natCast,BitVec.toNat_ofNat,BitVec.toNat_ofNat]
  show x % 2 ^ 64 &&& y % 2 ^ 64=x &&& y
  rw [Nat.mod_eq_of_lt (by omega),Nat.mod_eq_of_lt (by omega)]
 have h2:x &&& y≤y:=Nat.and_le_right
 rw [h1]
 have h3:IntKind.wrap .u64 ((x &&& y:Nat):Int)=((x &&& y:Nat):Int):=by
  simp only [IntKind.wrap,IntKind.bits,IntKind.signed]
  simp
  omega
 rw [h3,wrap_i64 (by omega) (by omega)]
theorem z188:zcells P 205=[Value.int .u64 0].toArray:=by kernel_rfl
def BkInv (w0:World) (H:HL) (g c:Nat) (T:TypeId) (z:List Value) (p a length modulus idx0:Nat) (d:Array Int) (m:Nat) (ee:Env) (w:World):Prop:=
 ∃ k:Nat,k≤3∧m=3 - k∧ee=Env.mk 65 [(9,(Value.int .i64 ((idx0+k:Nat):Int))),(0,(Value.slice (some (Addr.mk g 0 none)) d.size c)),(1,(Value.int .i64 a)),(6,(Value.int .i64 length)),(8,(Value.int .u64 modulus)),(7,(Value.pointer (some (Addr.mk p 0 none))))] []∧
  St w0 w ((g,Cs (uCs (brk a length modulus idx0 d k).2 z) T)::(p,Cs [.int .u64 ((brk a length modulus idx0 d k).1.toNat:Nat)] 205)::H)
theorem break_ok {d:Array Int} {a b:Nat} (h:St w0 w ((g,Cs (uCs d z) T)::H)) (hab:a≤b) (hb:b≤d.size) (hn:d.size < 1000000000000) (hK:∀ w',St w0 w' ((g,Cs (uCs (breakPatterns d a b) z) T)::H)→K (.tuple [].toArray) w') :
  CallL P 119 [.slice (some (Addr.mk g 0 none)) d.size c,.int .i64 a,.int .i64 b] w K:=by
 refine f119_ok _ _ _ _ _ _ _ ?_
 have el:IntKind.wrap .i64 ((b:Int) - (a:Int))=((b - a:Nat):Int):=by rw [wrap_i64 (by omega) (by omega)]; omega
 rw [f119_eq,f119_s0_eq,el,f119_s1_eq,BIf_iff]
 constructor
 ·intro h8
  have h8:b - a≥8:=by simp at h8; omega
  have hBP:=breakPatterns_is d a b h8
  rw [hBP] at hK
  generalize hl:b - a=l at h8 hK
  have hlb:a+l=b:=by omega
  rw [f119_s2_eq,z188]
  refine h.newC fun p w1 hp h1=>h1.st1 (k:=0) rfl (by simp) rfl fun w2 h2=>?_
  have e6:IntKind.wrap .u64 (l:Int)=(l:Int):=by
   simp only [IntKind.wrap,IntKind.bits,IntKind.signed]
   simp
   omega
  rw [e6]
  have h2:St w0 w2 ((p,Cs [.int .u64 (IntKind.wrap .u64 (l:Int))] 205)::(g,Cs (uCs d z) T)::H):=h2
  rw [e6] at h2
  rw [f119_s3_eq]
  refine pow_ok h2 (by omega) fun w3 h3=>⟨_,rfl,?_⟩
  have hp1:=pow_le l (by omega)
  have hp0:=pow_pos' l
  generalize (1 <<< bitsLen l)=mo at hp1 hp0 hK
  have e4:IntKind.wrap .i64 ((l:Int).tdiv 4)=((l / 4:Nat):Int):=by
   rw [Int.tdiv_eq_ediv_of_nonneg (by omega),wrap_i64 (by omega) (by omega)]; omega
  have e5:IntKind.wrap .i64 ((a:Int)+IntKind.wrap .i64 (((l / 4:Nat):Int) * 2))=((a+l / 4 * 2:Nat):Int):=by
   rw [wrap_i64 (x:=((l / 4:Nat):Int) * 2) (by omega) (by omega),wrap_i64 (by omega) (by omega)]; omega
  have e7:IntKind.wrap .i64 (((a+l / 4 * 2:Nat):Int) - 1)=((a+l / 4 * 2 - 1:Nat):Int):=by rw [wrap_i64 (by omega) (by omega)]; omega
  have e8:IntKind.wrap .i64 (((a+l / 4 * 2:Nat):Int)+1)=((a+l / 4 * 2+1:Nat):Int):=by rw [wrap_i64 (by omega) (by omega)]; omega
  rw [f119_s4_eq,e4,e5,e7]
  refine ⟨by omega,?_⟩
  rw [f119_s5_eq]
  have hidx:a+l / 4 * 2 - 1+2 < b:=by omega
  generalize hi0:a+l / 4 * 2 - 1=i0 at hK hidx
  refine ⟨BkInv w0 H g c T z p a l mo i0 d,⟨3,0,by omega,rfl,rfl,?_⟩,?_⟩
  ·have h3':St w0 w3 ((g,Cs (uCs d z) T)::(p,Cs [.int .u64 (l:Int)] 205)::H):=h3.perm (List.Perm.swap _ _ _)
   have e9:((UInt64.ofNat l).toNat:Int)=(l:Int):=by
    rw [UInt64.toNat_ofNat']
    omega
   show St w0 w3 ((g,Cs (uCs d z) T)::(p,Cs [.int .u64 ((UInt64.ofNat l).toNat:Int)] 205)::H)
   rw [e9]
   exact h3'
  rintro m ee w4 ⟨k,hk,rfl,rfl,h4⟩
  show f119_lb6 ..
  rw [f119_lb6_eq,e4,e5,e8]
  refine ⟨by omega,?_⟩
  rw [BIf_iff]
  constructor
  ·intro hle
   have hk3:k < 3:=by simp at hle; omega
   rw [f119_s7_eq]
   generalize hst:brk a l mo i0 d k=st at h4
   have hsz:st.2.size=d.size:=by rw [← hst,brk_size]
   have h4':St w0 w4 ((p,Cs [.int .u64 (st.1.toNat:Nat)] 205)::(g,Cs (uCs st.2 z) T)::H):=h4.perm (List.Perm.swap _ _ _)
   refine next_ok h4' (UInt64.toNat_lt _) fun w5 h5=>⟨_,rfl,?_⟩
   have hx:=Go.Sort.xorNextN_lt st.1.toNat (UInt64.toNat_lt _)
   have ex:(xorNext st.1).toNat=xorNextN st.1.toNat:=Go.Sort.xorNext_toNat st.1
   have em:IntKind.wrap .u64 ((mo:Int) - 1)=((mo - 1:Nat):Int):=by
    simp only [IntKind.wrap,IntKind.bits,IntKind.signed]
    simp
    omega
   rw [em,and_u64 hx (by omega)]
   have ho:xorNextN st.1.toNat &&& (mo - 1)≤mo - 1:=Nat.and_le_right
   have hnext:brk a l mo i0 d (k+1)=(xorNext st.1,swp st.2 (i0+k) (a+(if xorNextN st.1.toNat &&& (mo - 1)≥l then (xorNextN st.1.toNat &&& (mo - 1)) - l else xorNextN st.1.toNat &&& (mo - 1)))):=by
    show breakStep a l mo (brk a l mo i0 d k) (i0+k)=_
    rw [hst]
    unfold breakStep
    simp only [ex]
   generalize xorNextN st.1.toNat &&& (mo - 1)=o at ho hnext
   have h5':St w0 w5 ((g,Cs (uCs st.2 z) T)::(p,Cs [.int .u64 (xorNextN st.1.toNat:Nat)] 205)::H):=h5.perm (List.Perm.swap _ _ _)
   have s8:∀ q:Nat,q < l→brk a l mo i0 d (k+1)=(xorNext st.1,swp st.2 (i0+k) (a+q))→f119_s8 (some (Addr.mk g 0 none)) d.size c a l mo (Addr.mk p 0 none) ((i0+k:Nat):Int) (q:Int) w5 K (fun e' w'=>∃ m,m < 3 - k∧BkInv w0 H g c T z p a l mo i0 d m e' w'):=by
    intro q hq hnx
    rw [f119_s8_eq]
    have eq':IntKind.wrap .i64 ((a:Int)+(q:Int))=((a+q:Nat):Int):=by rw [wrap_i64 (by omega) (by omega)]; omega
    rw [← hsz]
    refine swap_at (i:=i0+k) (j:=a+q) rfl eq' (by omega) (by omega) h5' fun w6 h6=>?_
    rw [f119_s9_eq]
    refine ⟨3 - (k+1),by omega,k+1,by omega,rfl,?_,?_⟩
    ·rw [wrap_i64 (by omega) (by omega),hsz]; rfl
    ·rw [hnx]
     show St w0 w6 ((g,Cs (uCs (swp st.2 (i0+k) (a+q)) z) T)::(p,Cs [.int .u64 ((xorNext st.1).toNat:Nat)] 205)::H)
     rw [ex]
     exact h6
   rw [BIf_iff]
   refine ⟨fun hge=>?_,fun hlt=>?_⟩
   ·have hge:o≥l:=by simp at hge; omega
    rw [if_pos hge] at hnext
    have eo:IntKind.wrap .i64 ((o:Int) - (l:Int))=((o - l:Nat):Int):=by rw [wrap_i64 (by omega) (by omega)]; omega
    rw [eo]
    exact s8 (o - l) (by omega) hnext
   ·have hlt:¬ o≥l:=by simp at hlt; omega
    rw [if_neg hlt] at hnext
    exact s8 o (by omega) hnext
  ·intro hgt
   have:k=3:=by simp at hgt; omega
   subst this
   have h4':St w0 w4 ((p,Cs [.int .u64 ((brk a l mo i0 d 3).1.toNat:Nat)] 205)::(g,Cs (uCs (brk a l mo i0 d 3).2 z) T)::H):=h4.perm (List.Perm.swap _ _ _)
   exact hK w4 (h4'.tail hp)
 ·intro h8
  have h8:¬ b - a≥8:=by simp at h8; omega
  have hBP:breakPatterns d a b=d:=by unfold breakPatterns; simp only [if_neg h8]
  rw [hBP] at hK
  exact hK w h
end
end Go.Fx.Tryz
