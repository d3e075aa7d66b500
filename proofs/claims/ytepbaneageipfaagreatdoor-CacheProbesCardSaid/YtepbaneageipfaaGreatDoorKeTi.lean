/- A part of the proof. -/
import Derived.Test.YtepbaneageipfaaGreatDoorKaTi
import Derived.KernelRfl
import Derived.Test.YtepbaneageipfaaGreatDoorKdTi
import Derived.Laws.BytesArg
import Derived.Test.YtepbaneageipfaaGreatDoorRows
import Derived.Deep.Slices
import Derived.ProofKit
import Derived.LaidMore
import Derived.OpenShut
import Derived.JoinedOf
import Derived.Carry
import Derived.Stop.Joined
import Derived.Lay
set_option linter.all false
set_option autoImplicit true
set_option relaxedAutoImplicit true
noncomputable section
namespace Go.Fx.Tryz
set_option maxRecDepth 100000
open Go Go.Fx Go.Proofs
def c15:=ql Tryz.f15
def qJS:=Tryz.f15.results.toList
abbrev yX K:=qr P qJS K
def f15 w K:=CS P c15 none [0] [0] (yX K) (qw 202 []) w
abbrev qEu K:=kq c15 7 [0] [0] (yX K)
def qcW a b w K:=SG c15 29 [1] [0] (qEu K) 202 [(24,VB a),(1,VP b)] w
def qtz a w K:=SG c15 15 [0] [0] (yX K) 202 [(1,VP a)] w
abbrev qFN K:=kq c15 15 [0] [0] (yX K)
abbrev qDV K:=kq c15 255 [0] [0] (yX K)
def jQ a b w K:=SG c15 1021 [1] [0] (qDV K) 202 [(86,VB a),(1,VP b)] w
def qei a w K:=SG c15 511 [0] [0] (yX K) 202 [(1,VP a)] w
abbrev qvJ K:=kq c15 511 [0] [0] (yX K)
abbrev qxl K:=kq c15 8191 [0] [0] (yX K)
def zP a b w K:=SG c15 32765 [1] [0] (qxl K) 202 [(133,VB a),(1,VP b)] w
def qgh a w K:=SG c15 16383 [0] [0] (yX K) 202 [(1,VP a)] w
abbrev qAT K:=kq c15 16383 [0] [0] (yX K)
abbrev qxu K:=kq c15 262143 [0] [0] (yX K)
def VG a b w K:=SG c15 1048573 [1] [0] (qxu K) 202 [(176,VB a),(1,VP b)] w
def qfU a w K:=SG c15 524287 [0] [0] (yX K) 202 [(1,VP a)] w
abbrev qBz K:=kq c15 524287 [0] [0] (yX K)
def q4n a w K:=SG c15 4194303 [0] [0] (yX K) 202 [(0,VB a)] w
theorem qnE:q4n a w K=(K (Value.bool a) w):=qz kr
theorem qnc:qfU c w K=(q9 P 21 [(Value.pointer c),(Value.int .u32 256)] w (fun n o=>∃ p:Int,∃ g:Bool,n=(.tuple #[(Value.int .u32 p),(Value.bool g)])/\q9 P 19 [(Value.int .u32 512)] o (fun q r=>∃ (h:OA) (i j:Nat),q=(.slice h i j)/\q9 P 49 [(Value.int .u32 700),(Value.slice h i j)] r (fun s t=>∃ k:Array Value,s=(.agg k)/\q9 P 18 [(Value.pointer c),(Value.agg k)] t (fun u d=>∃ v:Int,∃ (x:OA) (y z:Nat),∃ l:Int,u=(.tuple #[(Value.int .u32 v),(Value.slice x y z),(Value.int .i64 l)])/\qm (!g) (qm (l==5) (q9 P 23 [(Value.pointer c)] d (fun a0 b0=>∃ e:Array Value,a0=(.agg e)/\∃ f:Array Value,(∀ wq,(Instr.build 47 #[(0,(Value.int .i64 3)),(1,(Value.int .i64 267)),(3,(Value.int .i64 2)),(4,(Value.int .i64 1))]).run P wq=.ok (.agg f) wq)/\∃ m:Bool,(∀ wq,(do eqGuard .eql 47 (.tmp 198) (.tmp 199) (Value.agg e) (Value.agg f);binOp .eql 47 (Value.agg e) (Value.agg f):Sem Value).run P wq=.ok (.bool m) wq)/\q4n m b0 K)) (q4n false d K)) (q4n false d K)))))):=qz (qB [1,9] (qBz K) kr)
theorem qnO:VG a c w K=(qm a (K (Value.bool false) w) (qfU c w K)):=qz kr
theorem qnh:qgh c w K=(q9 P 50 [(Value.int .u32 512)] w (fun b0 c0=>∃ (g:OA) (h i:Nat),b0=(.slice g h i)/\q9 P 49 [(Value.int .u32 600),(Value.slice g h i)] c0 (fun d0 e0=>∃ j:Array Value,d0=(.agg j)/\q9 P 18 [(Value.pointer c),(Value.agg j)] e0 (fun f0 g0=>∃ h0:Int,∃ (i0:OA) (j0 l0:Nat),∃ m0:Int,f0=(.tuple #[(Value.int .u32 h0),(Value.slice i0 j0 l0),(Value.int .i64 m0)])/\q9 P 19 [(Value.int .u32 512)] g0 (fun n0 o0=>∃ (k:OA) (l m:Nat),n0=(.slice k l m)/\q9 P 49 [(Value.int .u32 700),(Value.slice k l m)] o0 (fun p0 q0=>∃ n:Array Value,p0=(.agg n)/\q9 P 18 [(Value.pointer c),(Value.agg n)] q0 (fun r0 s0=>∃ t0:Int,∃ (u0:OA) (v0 x0:Nat),∃ y0:Int,r0=(.tuple #[(Value.int .u32 t0),(Value.slice u0 v0 x0),(Value.int .i64 y0)])/\q9 P 50 [(Value.int .u32 512)] s0 (fun z0 A0=>∃ (o:OA) (p q:Nat),z0=(.slice o p q)/\q9 P 49 [(Value.int .u32 800),(Value.slice o p q)] A0 (fun B0 C0=>∃ r:Array Value,B0=(.agg r)/\q9 P 18 [(Value.pointer c),(Value.agg r)] C0 (fun D0 E0=>∃ F0:Int,∃ (G0:OA) (H0 I0:Nat),∃ J0:Int,D0=(.tuple #[(Value.int .u32 F0),(Value.slice G0 H0 I0),(Value.int .i64 J0)])/\q9 P 19 [(Value.int .u32 512)] E0 (fun L0 M0=>∃ (s:OA) (t u:Nat),L0=(.slice s t u)/\q9 P 49 [(Value.int .u32 900),(Value.slice s t u)] M0 (fun N0 O0=>∃ v:Array Value,N0=(.agg v)/\q9 P 18 [(Value.pointer c),(Value.agg v)] O0 (fun Q0 d=>∃ x:Int,∃ (f:OA) (e R0:Nat),∃ y:Int,Q0=(.tuple #[(Value.int .u32 x),(Value.slice f e R0),(Value.int .i64 y)])/\qm (y != 0) (VG true c d K) (qm (x != 6) (VG true c d K) (qm ((((e:Nat):Int):Int) != 2) (VG true c d K) (qg f (fun S0=>0<=(0:Int)/\(0:Int)<(e:Nat)/\∃ z:Int,d.cell? (S0.add (Int.toNat 0*1))=some (.int .u32 z)/\qm (z != 1) (VG true c d K) (qg f (fun T0=>0<=(1:Int)/\(1:Int)<(e:Nat)/\∃ a0:Int,d.cell? (T0.add (Int.toNat 1*1))=some (.int .u32 a0)/\VG (a0 != 3) c d K))))))))))))))))))):=qz (qB [1] (qAT K) kr)
theorem qo8:zP a c w K=(qm a (K (Value.bool false) w) (qgh c w K)):=qz kr
theorem qo7:qei c w K=(q9 P 41 [(Value.pointer c),(Value.int .u32 1),(Value.int .i64 8)] w (fun o0 p0=>∃ q0:Bool,∃ u:Int,o0=(.tuple #[(Value.bool q0),(Value.int .i64 u)])/\q9 P 41 [(Value.pointer c),(Value.int .u32 3),(Value.int .i64 7)] p0 (fun r0 s0=>∃ t0:Bool,∃ v:Int,r0=(.tuple #[(Value.bool t0),(Value.int .i64 v)])/\∃ x:Array Value,(∀ wq,(Instr.build 36 #[(0,(Value.int .u32 515)),(1,(Value.int .i64 1))]).run P wq=.ok (.agg x) wq)/\q9 P 20 [(Value.pointer c),(Value.agg x)] s0 (fun u0 v0=>∃ (y:OA) (i x0:Nat),u0=(.slice y i x0)/\q9 P 28 [(Value.pointer c),(Value.int .u32 1)] v0 (fun y0 z0=>∃ z:Array Value,∃ a0:Int,y0=(.tuple #[(Value.agg z),(Value.int .i64 a0)])/\qs (qv P 41) 41 z0 (fun h A0=>zG 3 (Addr.mk h 0 none) z A0 (fun d=>qm (u != 1) ((zP true c d.drew K)/\((zP true c d.drew K)/\(zP true c d.drew K))) (qm (v != 211) ((zP true c d.drew K)/\((zP true c d.drew K)/\(zP true c d.drew K))) (qm (a0 != 0) ((zP true c d.drew K)/\((zP true c d.drew K)/\(zP true c d.drew K))) (qm ((((i:Nat):Int):Int) != 1) ((zP true c d.drew K)/\((zP true c d.drew K)/\(zP true c d.drew K))) (qg y (fun B0=>0<=(0:Int)/\(0:Int)<(i:Nat)/\∃ b0:Int,d.drew.cell? (B0.add (Int.toNat 0*1))=some (.int .u32 b0)/\qm (b0 != 2) ((zP true c d.drew K)/\((zP true c d.drew K)/\(zP true c d.drew K))) (∃ (e:OA) (f g:Nat),d.drew.cell? ((Addr.mk h 0 none).add 2)=some (.slice e f g)/\(∃ j:ByteArray,∃ c0:World,(convert 38 9 (Value.slice e f g)).run P d.drew=.ok (.string j) c0/\q9 P 19 [(Value.int .u32 512)] c0 (fun C0 D0=>∃ (d0:OA) (e0 f0:Nat),C0=(.slice d0 e0 f0)/\∃ k:ByteArray,∃ g0:World,(convert 38 9 (Value.slice d0 e0 f0)).run P D0=.ok (.string k) g0/\∃ h0:Bool,(∀ wq,(do eqGuard .neq 9 (.tmp 129) (.tmp 131) (Value.string j) (Value.string k);binOp .neq 9 (Value.string j) (Value.string k):Sem Value).run P wq=.ok (.bool h0) wq)/\zP h0 c g0 K))/\(q9 P 19 [(Value.int .u32 512)] d.drew (fun E0 l=>∃ (m:OA) (n o:Nat),E0=(.slice m n o)/\l.cell? ((Addr.mk h 0 none).add 2)=some (.slice e f g)/\(∃ p:ByteArray,∃ i0:World,(convert 38 9 (Value.slice e f g)).run P l=.ok (.string p) i0/\∃ q:ByteArray,∃ j0:World,(convert 38 9 (Value.slice m n o)).run P i0=.ok (.string q) j0/\∃ l0:Bool,(∀ wq,(do eqGuard .neq 9 (.tmp 129) (.tmp 131) (Value.string p) (Value.string q);binOp .neq 9 (Value.string p) (Value.string q):Sem Value).run P wq=.ok (.bool l0) wq)/\zP l0 c j0 K)/\(∃ r:ByteArray,∃ s:World,(convert 38 9 (Value.slice m n o)).run P l=.ok (.string r) s/\s.cell? ((Addr.mk h 0 none).add 2)=some (.slice e f g)/\∃ t:ByteArray,∃ m0:World,(convert 38 9 (Value.slice e f g)).run P s=.ok (.string t) m0/\∃ n0:Bool,(∀ wq,(do eqGuard .neq 9 (.tmp 129) (.tmp 131) (Value.string t) (Value.string r);binOp .neq 9 (Value.string t) (Value.string r):Sem Value).run P wq=.ok (.bool n0) wq)/\zP n0 c m0 K)))))))))))))))):=qz (qB [1,2] (qvJ K) kr)
theorem qo3:jQ a c w K=(qm a (K (Value.bool false) w) (qei c w K)):=qz kr
theorem qnD:qtz c w K=(q9 P 19 [(Value.int .u32 512)] w (fun y z=>∃ (g:OA) (h i:Nat),y=(.slice g h i)/\q9 P 49 [(Value.int .u32 256),(Value.slice g h i)] z (fun a0 b0=>∃ j:Array Value,a0=(.agg j)/\q9 P 18 [(Value.pointer c),(Value.agg j)] b0 (fun c0 d0=>∃ k:Int,∃ (e0:OA) (f0 g0:Nat),∃ l:Int,c0=(.tuple #[(Value.int .u32 k),(Value.slice e0 f0 g0),(Value.int .i64 l)])/\q9 P 19 [(Value.int .u32 256)] d0 (fun h0 i0=>∃ (m:OA) (n o:Nat),h0=(.slice m n o)/\q9 P 49 [(Value.int .u32 512),(Value.slice m n o)] i0 (fun j0 l0=>∃ p:Array Value,j0=(.agg p)/\q9 P 18 [(Value.pointer c),(Value.agg p)] l0 (fun m0 n0=>∃ q:Int,∃ (o0:OA) (p0 q0:Nat),∃ r:Int,m0=(.tuple #[(Value.int .u32 q),(Value.slice o0 p0 q0),(Value.int .i64 r)])/\q9 P 21 [(Value.pointer c),(Value.int .u32 512)] n0 (fun r0 s0=>∃ s:Int,∃ t:Bool,r0=(.tuple #[(Value.int .u32 s),(Value.bool t)])/\q9 P 41 [(Value.pointer c),(Value.int .u32 1),(Value.int .i64 7)] s0 (fun t0 d=>∃ u:Bool,∃ v:Int,t0=(.tuple #[(Value.bool u),(Value.int .i64 v)])/\qm (l != 0) (jQ true c d K) (qm (r != 0) (jQ true c d K) (qm (v != 0) (jQ true c d K) (qm (k != 1) (jQ true c d K) (qm (q != 2) (jQ true c d K) (qm (s != 2) (jQ true c d K) (qm (!t) (jQ true c d K) (qm (!u) (jQ true c d K) (q9 P 23 [(Value.pointer c)] d (fun u0 v0=>∃ e:Array Value,u0=(.agg e)/\∃ f:Array Value,(∀ wq,(Instr.build 47 #[(0,(Value.int .i64 2)),(1,(Value.int .i64 22)),(2,(Value.int .i64 1))]).run P wq=.ok (.agg f) wq)/\∃ x:Bool,(∀ wq,(do eqGuard .neq 47 (.tmp 83) (.tmp 84) (Value.agg e) (Value.agg f);binOp .neq 47 (Value.agg e) (Value.agg f):Sem Value).run P wq=.ok (.bool x) wq)/\jQ x c v0 K)))))))))))))))))):=qz (qB [1,3,2] (qFN K) kr)
theorem qp8:qcW a c w K=(qm a (K (Value.bool false) w) (qtz c w K)):=qz kr
theorem qDy:f15 w K=(∃ b:Array Value,(∀ wq,(Instr.build 27 #[(0,(Value.int .i64 2)),(1,(Value.int .i64 256)),(2,(Value.int .i64 16))]).run P wq=.ok (.agg b) wq)/\q9 P 16 [(Value.agg b)] w (fun e c=>∃ a:Option Addr,∃ d:Int,e=(.tuple #[(Value.pointer a),(Value.int .i64 d)])/\qm (d != 0) (qcW true a c K) (qcW a.isNone a c K))):=kr
theorem qFC w K(h:f15 w K):q9 P 15 [] w K:=qy c15 Tryz.func15 h
def c19:=ql Tryz.f19
def qJC:=Tryz.f19.results.toList
abbrev qEw K:=qr P qJC K
def f19 a w K:=CS P c19 none [2] [2] (qEw K) (qw 7 [(Value.int .u32 a)]) w
theorem qFl:f19 b w K=(∃ a:Array Value,(∀ wq,(Instr.build 119 #[(0,(Value.int .i64 40)),(8,(Value.int .i64 1)),(9,(Value.int .u32 b))]).run P wq=.ok (.agg a) wq)/\qE 15 [(Value.agg a)]/\qs (([(Value.agg a)].map fun(v:Value)=>v.cells.toList).flatten.toArray) 119 w (fun f g=>q9 P 64 [(Value.slice (some (Addr.mk f 0 none)) 1 1)] g (fun h i=>∃ (c:OA) (d e:Nat),h=(.slice c d e)/\K (Value.slice c d e) i))):=kr
theorem qFT a w K(h:f19 a w K):q9 P 19 [(Value.int .u32 a)] w K:=qy c19 Tryz.func19 h
def c49:=ql Tryz.f49
def qJE:=Tryz.f49.results.toList
abbrev qFF K:=qr P qJE K
def f49 a b c d w K:=CS P c49 none [4] [4] (qFF K) (qw 11 [(Value.int .u32 a),(VS b c d)]) w
theorem qFt:f49 a c d e w K=(qs (qv P 41) 41 w (fun f i=>∃ b:Array Value,(∀ wq,(Instr.build 36 #[(0,(Value.int .u32 a)),(1,(Value.int .i64 4))]).run P wq=.ok (.agg b) wq)/\qE 2 [(Value.agg b)]/\qs (([(Value.agg b)].map fun(v:Value)=>v.cells.toList).flatten.toArray) 36 i (fun j k=>∃ g:Array Value,(∀ wq,(Instr.build 41 #[(0,(Value.int .u32 a)),(1,(Value.slice (some (Addr.mk j 0 none)) 1 1)),(2,(Value.slice c d e))]).run P wq=.ok (.agg g) wq)/\zG 3 (Addr.mk f 0 none) g k (fun h=>qS 3 (Addr.mk f 0 none) h (fun l=>K (Value.agg l) h))))):=kr
theorem qF7 a b c d w K(h:f49 a b c d w K):q9 P 49 [(Value.int .u32 a),(Value.slice b c d)] w K:=qy c49 Tryz.func49 h
def c50:=ql Tryz.f50
def qIS:=Tryz.f50.results.toList
abbrev qec K:=qr P qIS K
def f50 a w K:=CS P c50 none [2] [2] (qec K) (qw 20 [(Value.int .u32 a)]) w
abbrev qEF K:=kq c50 7 [2] [2] (qec K)
abbrev qrq K:=qn 0 (qEF K)
def qx5 K Y0 e w:=zh (fun e w=>CS P (cA c50 116) none [4,3,2,0] [2,0,3] (qt [4,3,2,0] Y0 (qrq K)) e w) e w
abbrev q5R K Y0:=qt [4,3,2,0] Y0 (qrq K)
def qiq a b c d f g h i w K Y0:=SG c50 116 [4,3,2,0] [2,0,3] (q5R K Y0) 20 [(4,VI a),(3,VS b c d),(2,VS f g h),(0,Value.int .u32 i)] w
def qtv a b c d f g h i w K Y0:=SG c50 233 [4,3,2,0] [2,0,3] (q5R K Y0) 20 [(3,VS a b c),(2,VS d f g),(0,Value.int .u32 h),(4,VI i)] w
def qpO a b c d f g h i w K Y0:=SG c50 467 [4,3,2,0] [2,0,3] (q5R K Y0) 20 [(3,VS a b c),(2,VS d f g),(0,Value.int .u32 h),(4,VI i)] w
theorem qpj:qpO a b c d e f g h w K Y0=(Y0 (qh.mk 20 [(4,(Value.int .i64 (IntKind.wrap .i64 (h+1)))),(3,(Value.slice a b c)),(2,(Value.slice d e f)),(0,(Value.int .u32 g))] []) w):=kr
theorem qo2:qtv b c d e f g h a w K Y0=(∃ i:Array Value,(∀ wq,(Instr.build 119 #[(0,(Value.int .i64 1))]).run P wq=.ok (.agg i) wq)/\qg b (fun j=>0<=a/\a<(c:Nat)/\zG 15 (j.add (Int.toNat a*15)) i w (fun k=>qpO b c d e f g h a k K Y0))):=kr
def qra a b c d w K:=SG c50 15 [2] [2] (qec K) 20 [(0,Value.int .u32 a),(3,VS b c d)] w
theorem qnS:qra b c d e w K=(∃ a:Array Value,(∀ wq,(Instr.build 119 #[(0,(Value.int .i64 40)),(8,(Value.int .i64 1)),(9,(Value.int .u32 b))]).run P wq=.ok (.agg a) wq)/\qE 15 [(Value.agg a)]/\qs (([(Value.agg a)].map fun(v:Value)=>v.cells.toList).flatten.toArray) 119 w (fun m n=>∃ (f:OA) (g h:Nat),∃ i:World,(Builtin.append_ #[130,130] 130 #[(Value.slice c d e),(Value.slice (some (Addr.mk m 0 none)) 1 1)]).run P n=.ok (.slice f g h) i/\q9 P 64 [(Value.slice f g h)] i (fun o p=>∃ (j:OA) (k l:Nat),o=(.slice j k l)/\K (Value.slice j k l) p))):=kr
theorem qd5:qiq a b c d f g h e w K Y0=(qm (decide (a<39)) (qtv b c d f g h e a w K Y0) (qra e b c d w K)):=kr
theorem qD2:f50 a w K=(∃ (b:OA) (c d:Nat),∃ e:World,(Instr.makeSlice 130 (Value.int .i64 39) (Value.int .i64 39)).run P w=.ok (.slice b c d) e/\qH (qx5 K) (qh.mk 20 [(4,(Value.int .i64 0)),(3,(Value.slice b c d)),(2,(Value.slice none 0 0)),(0,(Value.int .u32 a))] []) e):=kr
theorem qCb a w K(h:f50 a w K):q9 P 50 [(Value.int .u32 a)] w K:=qy c50 Tryz.func50 h
def c64:=ql Tryz.f64
def qKi:=Tryz.f64.results.toList
abbrev qF6 K:=qr P qKi K
def f64 a b c w K:=CS P c64 none [2] [2] (qF6 K) (qw 13 [(VS a b c)]) w
theorem qCq:f64 a b c w K=(q9 P 112 [(Value.slice a b c)] w (fun g h=>∃ (d:OA) (e f:Nat),∃ i:Int,∃ j:Int,g=(.tuple #[(Value.slice d e f),(Value.int .i64 i),(Value.int .i64 j)])/\K (Value.slice d e f) h)):=kr
theorem qEQ a b c w K(h:f64 a b c w K):q9 P 64 [(Value.slice a b c)] w K:=qy c64 Tryz.func64 h
def ye:=ql Tryz.f112
def qGo:=Tryz.f112.results.toList
abbrev zN K:=qr P qGo K
def f112 a b c w K:=CS P ye none [2,3,4] [2,3,4] (zN K) (qw 67 [(VS a b c)]) w
def qjJ a b c w K:=SC ye 1 [2,3,4] [2,3,4] (zN K) 67 [(0,VS a b c)] w
abbrev qzE K:=kq ye 1 [2,3,4] [2,3,4] (zN K)
def qkA a b c d e f g h w K:=SC ye 3 [2,3,4] [2,3,4] (zN K) 67 [(4,VI a),(3,VI b),(2,VS c d e),(0,VS f g h)] w
abbrev qAu K:=kq ye 3 [2,3,4] [2,3,4] (zN K)
def qmt a b c d e f g h i j k w K:=SC ye 7 [2,3,4] [2,3,4] (zN K) 67 [(5,VS a b c),(4,VI d),(3,VI e),(2,VS f g h),(0,VS i j k)] w
abbrev YV K:=kq ye 7 [2,3,4] [2,3,4] (zN K)
abbrev qAz K:=kq ye 14 [0,5] [2,3,4] (YV K)
def qjp a b c d e f g h i j k l w K:=SC ye 29 [0,5] [2,3,4] (YV K) 67 [(6,VI a),(5,VS b c d),(4,VI e),(3,VI f),(2,VS g h i),(0,VS j k l)] w
abbrev q5B K:=qn 0 (YV K)
def qsd K Y4 e w:=zh (fun e w=>CS P (cA ye 116) none [0,5,6,2,3,4] [2,3,4,0,5] (qt [0,5,6,2,3,4] Y4 (q5B K)) e w) e w
abbrev QT K Y4:=qt [0,5,6,2,3,4] Y4 (q5B K)
def q9N a b c d f g h i j k l m w K Y4:=SG ye 116 [0,5,6,2,3,4] [2,3,4,0,5] (QT K Y4) 67 [(0,VS a b c),(5,VS d f g),(6,VI h),(2,VS i j k),(3,VI l),(4,VI m)] w
abbrev qlA K Y4:=kq ye 116 [0,5,6,2,3,4] [2,3,4,0,5] (QT K Y4)
abbrev qAS K Y4:=kq ye 232 [0,5,6,2,3,4] [2,3,4,0,5] (qlA K Y4)
def qjI a b c d f g h i j k l m w K Y4:=SG ye 233 [0,5,6,2,3,4] [2,3,4,0,5] (QT K Y4) 67 [(0,VS a b c),(5,VS d f g),(6,VI h),(2,VS i j k),(3,VI l),(4,VI m)] w
abbrev qmz K Y4:=kq ye 233 [0,5,6,2,3,4] [2,3,4,0,5] (QT K Y4)
abbrev Ye K Y4:=qn 1 (qmz K Y4)
abbrev qyt K Y4:=kq ye 932 [0,5,2,3,4,6] [2,3,4,0,5,6] (Ye K Y4)
abbrev qrs K Y4:=kq ye 1865 [0,5,2,3,4,6] [2,3,4,0,5,6] (Ye K Y4)
def Yx a b c d f g h i j k l m n o p q w K Y4:=SG ye 7461 [0,2,3,4,6,7,5] [2,3,4,0,5,6] (qrs K Y4) 67 [(39,VB a),(0,VS b c d),(5,VS f g h),(6,VI i),(2,VS j k l),(3,VI m),(4,VI n),(7,VS o p q)] w
def ql5 a b c d f g h i j k l m n o p w K Y4:=SG ye 3731 [0,5,2,3,4,6] [2,3,4,0,5,6] (Ye K Y4) 67 [(0,VS a b c),(2,VS d f g),(3,VI h),(4,VI i),(6,VI j),(7,VS k l m),(5,VS n o p)] w
abbrev qq6 K Y4:=kq ye 3731 [0,5,2,3,4,6] [2,3,4,0,5,6] (Ye K Y4)
def q4Z a b c d f g h i j k l m w K Y4:=SG ye 467 [0,5,6,2,3,4] [2,3,4,0,5] (QT K Y4) 67 [(0,VS a b c),(5,VS d f g),(2,VS h i j),(3,VI k),(4,VI l),(6,VI m)] w
theorem qf1:q4Z a c d e f g h i j k l m w K Y4=(Y4 (qh.mk 67 [(0,(Value.slice a c d)),(5,(Value.slice e f g)),(6,(Value.int .i64 (IntKind.wrap .i64 (m+1)))),(2,(Value.slice h i j)),(3,(Value.int .i64 k)),(4,(Value.int .i64 l))] []) w):=qz kr
theorem qbW:ql5 d e f g h i j k l o p q m c n w K Y4=(qm (decide ((((c:Nat):Int):Int)<=65536)) (∃ (r:OA) (s t:Nat),∃ u:World,(Builtin.append_ #[38,38] 38 #[(Value.slice m c n),(Value.slice o p q)]).run P w=.ok (.slice r s t) u/\q4Z d e f r s t g h i j k l u K Y4) (q4Z d e f m c n g h i j k l w K Y4)):=qz (qB [43,0,2,3,4,6,7,5] (qq6 K Y4) kr)
theorem qeF:Yx c d e f g h i a j k l m n o p q w K Y4=(qm c (K (Value.tuple #[(Value.slice none 0 0),(Value.int .i64 a),(Value.int .i64 170)]) w) (ql5 d e f j k l m n a o p q g h i w K Y4)):=qz kr
theorem qer:qjI e d f g h i c j k l m n w K Y4=(qg e (fun x=>0<=c/\c<(d:Nat)/\qS 15 (x.add (Int.toNat c*15)) w (fun y=>q9 P 73 [(Value.agg y)] w (fun z r=>∃ (o:OA) (p q:Nat),∃ s:Int,z=(.tuple #[(Value.slice o p q),(Value.int .i64 s)])/\qm (s != 0) (Yx true e d f g h i c j k l m n o p q r K Y4) (qg e (fun a0=>0<=c/\c<(d:Nat)/\∃ t:Int,r.cell? (a0.add (Int.toNat c*15))=some (.int .i64 t)/\q9 P 117 [(Value.int .i64 t)] r (fun b0 u=>∃ v:Bool,b0=(.bool v)/\qm v (Yx (c != (IntKind.wrap .i64 ((((d:Nat):Int):Int)-1))) e d f g h i c j k l m n o p q u K Y4) (Yx false e d f g h i c j k l m n o p q u K Y4)))))))):=qz (qB [0,5,2,3,4,6] (qmz K Y4) (jt 1 [2,3,4,0,5,6] (Ye K Y4) (qB [0,5,6,2,3,4,7,8] (qyt K Y4) kr)))
def qly a b c d f g w K:=SG ye 15 [2,3,4] [2,3,4] (zN K) 67 [(0,VS a b c),(5,VS d f g)] w
abbrev q1k K:=kq ye 15 [2,3,4] [2,3,4] (zN K)
abbrev qrz K:=kq ye 30 [5] [2,3,4] (q1k K)
def q1g a b c d f g h w K:=SG ye 61 [5] [2,3,4] (q1k K) 67 [(60,VB a),(0,VS b c d),(5,VS f g h)] w
def q95 a b c w K:=SG ye 31 [2,3,4] [2,3,4] (zN K) 67 [(5,VS a b c)] w
abbrev q8t K:=kq ye 31 [2,3,4] [2,3,4] (zN K)
abbrev qpJ K:=kq ye 62 [5] [2,3,4] (q8t K)
def qbp a b c w K:=SG ye 63 [2,3,4] [2,3,4] (zN K) 67 [(5,VS a b c)] w
abbrev qq0 K:=kq ye 63 [2,3,4] [2,3,4] (zN K)
theorem q8f:qbp c d e w K=(K (Value.tuple #[(Value.slice c d e),(Value.int .i64 0),(Value.int .i64 0)]) w):=qz (qB [2,3,4] (qq0 K) kr)
theorem q79:q95 d c e w K=(qm (decide ((((c:Nat):Int):Int) > 65536)) (K (Value.tuple #[(Value.slice none 0 0),(Value.int .i64 0),(Value.int .i64 2)]) w) (qbp d c e w K)):=qz (qB [5] (q8t K) (qB [65,5] (qpJ K) kr))
theorem qbo:q1g a g c h d e f w K=(qm a (K (Value.tuple #[(Value.slice none 0 0),(Value.int .i64 ((c:Nat):Int)),(Value.int .i64 170)]) w) (q95 d e f w K)):=qz kr
theorem qgU:qly d c e f g h w K=(qm ((((c:Nat):Int):Int)==0) (q1g true d c e f g h w K) (qg d (fun k=>0<=(IntKind.wrap .i64 ((((c:Nat):Int):Int)-1))/\(IntKind.wrap .i64 ((((c:Nat):Int):Int)-1))<(c:Nat)/\∃ i:Int,w.cell? (k.add (Int.toNat (IntKind.wrap .i64 ((((c:Nat):Int):Int)-1))*15))=some (.int .i64 i)/\q9 P 117 [(Value.int .i64 i)] w (fun l m=>∃ j:Bool,l=(.bool j)/\q1g (!j) d c e f g h m K)))):=qz (qB [5] (q1k K) (qB [60,0,5] (qrz K) kr))
theorem q9s:q9N d c e f g h i j k l m n w K Y4=(qm (decide (i<((c:Nat):Int))) (qjI d c e f g h i j k l m n w K Y4) (qly d c e f g h w K)):=qz (qB [0,5,6,2,3,4] (qlA K Y4) (qB [12,0,5,6,2,3,4] (qAS K Y4) kr))
theorem qfh:qjp a c d e f g h i j k l m w K=(qH (qsd K) (qh.mk 67 [(0,(Value.slice k l m)),(5,(Value.slice c d e)),(6,(Value.int .i64 a)),(2,(Value.slice h i j)),(3,(Value.int .i64 g)),(4,(Value.int .i64 f))] []) w):=Eq.trans (b:=CS P (cA ye 29) none [0,5] [2,3,4] (YV K) (qh.mk 67 [(6,(VI a)),(5,(VS c d e)),(4,(VI f)),(3,(VI g)),(2,(VS h i j)),(0,(VS k l m))] []) w) kr (Eq.trans (Qx 0 [2,3,4,0,5] (q5B K) kr) ((qL (b:=(cA ye 116)) (X':=[2,3,4,0,5]) (H:=[0,5,6,2,3,4]) kr kr kr).trans kr))
theorem qcV:qmt c d e f g h i j k l m w K=(qjp 0 c d e f g h i j k l m w K):=Eq.trans (b:=CS P (cA ye 7) none [2,3,4] [2,3,4] (zN K) (qh.mk 67 [(5,(VS c d e)),(4,(VI f)),(3,(VI g)),(2,(VS h i j)),(0,(VS k l m))] []) w) kr (Eq.trans (qU [0,5] (YV K) kr) (Eq.trans (qU [0,5,6,2,3,4] (qAz K) kr) kr))
theorem qhl:qkA c d e f g h i j w K=(qmt none 0 0 c d e f g h i j w K):=Eq.trans (b:=CS P (cA ye 3) none [2,3,4] [2,3,4] (zN K) (qh.mk 67 [(4,(VI c)),(3,(VI d)),(2,(VS e f g)),(0,(VS h i j))] []) w) kr (Eq.trans (qU [0,5,2,3,4] (qAu K) kr) kr)
theorem qeM:qjJ c d e w K=(qkA 0 0 none 0 0 c d e w K):=Eq.trans (b:=CS P (cA ye 1) none [2,3,4] [2,3,4] (zN K) (qh.mk 67 [(0,(VS c d e))] []) w) kr (Eq.trans (qU [0,2,3,4] (qzE K) kr) kr)
theorem qzy:f112 a b c w K=(qjJ a b c w K):=kr
theorem qxU a b c w K(h:f112 a b c w K):q9 P 112 [(Value.slice a b c)] w K:=qy ye Tryz.func112 h
def c73:=ql Tryz.f73
def qKt:=Tryz.f73.results.toList
abbrev vw K:=qr P qKt K
def f73 a w K:=CS P c73 none [2,3] [2,3] (vw K) (qw 110 [(Value.agg a)]) w
def qsy a w K:=SG c73 7 [2,3] [2,3] (vw K) 110 [(1,VQ a)] w
def qg5 a b c d f w K:=SG c73 63 [2,3] [2,3] (vw K) 110 [(1,VQ a),(4,VQ b),(6,VS c d f)] w
def qdd a b c d f w K:=SG c73 127 [2,3] [2,3] (vw K) 110 [(1,VQ a),(4,VQ b),(6,VS c d f)] w
def qeU a b c d f w K:=SG c73 255 [2,3] [2,3] (vw K) 110 [(1,VQ a),(4,VQ b),(6,VS c d f)] w
def q6r a b c d f w K:=SG c73 511 [2,3] [2,3] (vw K) 110 [(1,VQ a),(4,VQ b),(6,VS c d f)] w
def qgE a b c d f w K:=SG c73 1023 [2,3] [2,3] (vw K) 110 [(1,VQ a),(4,VQ b),(6,VS c d f)] w
def qdw a b c d f w K:=SG c73 2047 [2,3] [2,3] (vw K) 110 [(1,VQ a),(4,VQ b),(6,VS c d f)] w
def q4S a b c d f w K:=SG c73 4095 [2,3] [2,3] (vw K) 110 [(1,VQ a),(4,VQ b),(6,VS c d f)] w
def qcl a b c d f w K:=SG c73 8191 [2,3] [2,3] (vw K) 110 [(1,VQ a),(4,VQ b),(6,VS c d f)] w
def qgF a b c d f w K:=SG c73 16383 [2,3] [2,3] (vw K) 110 [(1,VQ a),(4,VQ b),(6,VS c d f)] w
def JM a b c d f w K:=SG c73 32767 [2,3] [2,3] (vw K) 110 [(1,VQ a),(6,VS b c d),(4,VQ f)] w
def q4U a b c w K:=SG c73 65535 [2,3] [2,3] (vw K) 110 [(6,VS a b c)] w
theorem qdD:q4U a b c w K=(K (Value.tuple #[(Value.slice a b c),(Value.int .i64 0)]) w):=kr
theorem qeV:JM d a b c e w K=(∃ f:Bool,w.cell? (e.add 10)=some (.bool f)/\qm f (qS 4 (d.add 11) w (fun n=>q9 P 121 [(Value.agg n)] w (fun o p=>∃ (g:OA) (h i:Nat),o=(.slice g h i)/\∃ (j:OA) (k l:Nat),∃ m:World,(Builtin.append_ #[38,38] 38 #[(Value.slice a b c),(Value.slice g h i)]).run P p=.ok (.slice j k l) m/\q4U j k l m K))) (q4U a b c w K)):=kr
theorem q3s:qgF a b c d e w K=(∃ f:Bool,w.cell? (b.add 9)=some (.bool f)/\qm f (∃ g:Int,w.cell? (a.add 10)=some (.int .u32 g)/\q9 P 120 [(Value.int .u32 g),(Value.int .i64 4)] w (fun o p=>∃ (h:OA) (i j:Nat),o=(.slice h i j)/\∃ (k:OA) (l m:Nat),∃ n:World,(Builtin.append_ #[38,38] 38 #[(Value.slice c d e),(Value.slice h i j)]).run P p=.ok (.slice k l m) n/\JM a k l m b n K)) (JM a c d e b w K)):=kr
theorem q3l:qcl a b c d e w K=(∃ f:Bool,w.cell? (b.add 8)=some (.bool f)/\qm f (∃ g:Int,w.cell? (a.add 9)=some (.int .u32 g)/\q9 P 120 [(Value.int .u32 g),(Value.int .i64 4)] w (fun o p=>∃ (h:OA) (i j:Nat),o=(.slice h i j)/\∃ (k:OA) (l m:Nat),∃ n:World,(Builtin.append_ #[38,38] 38 #[(Value.slice c d e),(Value.slice h i j)]).run P p=.ok (.slice k l m) n/\qgF a b k l m n K)) (qgF a b c d e w K)):=kr
theorem q3b:q4S a b c d e w K=(∃ f:Bool,w.cell? (b.add 7)=some (.bool f)/\qm f (∃ g:Int,w.cell? (a.add 8)=some (.int .i64 g)/\q9 P 120 [(Value.int .u32 (IntKind.wrap .u32 g)),(Value.int .i64 2)] w (fun o p=>∃ (h:OA) (i j:Nat),o=(.slice h i j)/\∃ (k:OA) (l m:Nat),∃ n:World,(Builtin.append_ #[38,38] 38 #[(Value.slice c d e),(Value.slice h i j)]).run P p=.ok (.slice k l m) n/\qcl a b k l m n K)) (qcl a b c d e w K)):=kr
theorem qpp:qdw a b c d e w K=(∃ g:Int,w.cell? (b.add 6)=some (.int .i64 g)/\qm (g != 0) (∃ f:Int,w.cell? (a.add 7)=some (.int .i64 f)/\qE 1 [(Value.int .u8 (IntKind.wrap .u8 f))]/\qs (([(Value.int .u8 (IntKind.wrap .u8 f))].map fun(v:Value)=>v.cells.toList).flatten.toArray) 5 w (fun l m=>∃ (h:OA) (i j:Nat),∃ k:World,(Builtin.append_ #[38,38] 38 #[(Value.slice c d e),(Value.slice (some (Addr.mk l 0 none)) 1 1)]).run P m=.ok (.slice h i j) k/\q4S a b h i j k K)) (q4S a b c d e w K)):=kr
theorem qn2:qgE a b c d e w K=(∃ g:Int,w.cell? (b.add 5)=some (.int .i64 g)/\qm (g != 0) (∃ f:Int,w.cell? (a.add 6)=some (.int .i64 f)/\qE 1 [(Value.int .u8 (IntKind.wrap .u8 f))]/\qs (([(Value.int .u8 (IntKind.wrap .u8 f))].map fun(v:Value)=>v.cells.toList).flatten.toArray) 5 w (fun l m=>∃ (h:OA) (i j:Nat),∃ k:World,(Builtin.append_ #[38,38] 38 #[(Value.slice c d e),(Value.slice (some (Addr.mk l 0 none)) 1 1)]).run P m=.ok (.slice h i j) k/\qdw a b h i j k K)) (qdw a b c d e w K)):=kr
theorem qpg:q6r a b c d e w K=(∃ g:Int,w.cell? (b.add 4)=some (.int .i64 g)/\qm (g != 0) (∃ f:Int,w.cell? (a.add 5)=some (.int .i64 f)/\qE 1 [(Value.int .u8 (IntKind.wrap .u8 f))]/\qs (([(Value.int .u8 (IntKind.wrap .u8 f))].map fun(v:Value)=>v.cells.toList).flatten.toArray) 5 w (fun l m=>∃ (h:OA) (i j:Nat),∃ k:World,(Builtin.append_ #[38,38] 38 #[(Value.slice c d e),(Value.slice (some (Addr.mk l 0 none)) 1 1)]).run P m=.ok (.slice h i j) k/\qgE a b h i j k K)) (qgE a b c d e w K)):=kr
theorem qpd:qeU a b c d e w K=(∃ g:Int,w.cell? (b.add 3)=some (.int .i64 g)/\qm (g != 0) (∃ f:Int,w.cell? (a.add 4)=some (.int .i64 f)/\qE 1 [(Value.int .u8 (IntKind.wrap .u8 f))]/\qs (([(Value.int .u8 (IntKind.wrap .u8 f))].map fun(v:Value)=>v.cells.toList).flatten.toArray) 5 w (fun l m=>∃ (h:OA) (i j:Nat),∃ k:World,(Builtin.append_ #[38,38] 38 #[(Value.slice c d e),(Value.slice (some (Addr.mk l 0 none)) 1 1)]).run P m=.ok (.slice h i j) k/\q6r a b h i j k K)) (q6r a b c d e w K)):=kr
theorem qoV:qdd a b c d e w K=(∃ g:Bool,w.cell? (b.add 2)=some (.bool g)/\qm g (∃ f:Int,w.cell? (a.add 3)=some (.int .i64 f)/\qE 1 [(Value.int .u8 (IntKind.wrap .u8 f))]/\qs (([(Value.int .u8 (IntKind.wrap .u8 f))].map fun(v:Value)=>v.cells.toList).flatten.toArray) 5 w (fun l m=>∃ (h:OA) (i j:Nat),∃ k:World,(Builtin.append_ #[38,38] 38 #[(Value.slice c d e),(Value.slice (some (Addr.mk l 0 none)) 1 1)]).run P m=.ok (.slice h i j) k/\qeU a b h i j k K)) (qeU a b c d e w K)):=kr
theorem qpc:qg5 a b c d e w K=(∃ g:Bool,w.cell? (b.add 1)=some (.bool g)/\qm g (∃ f:Int,w.cell? (a.add 2)=some (.int .i64 f)/\qE 1 [(Value.int .u8 (IntKind.wrap .u8 f))]/\qs (([(Value.int .u8 (IntKind.wrap .u8 f))].map fun(v:Value)=>v.cells.toList).flatten.toArray) 5 w (fun l m=>∃ (h:OA) (i j:Nat),∃ k:World,(Builtin.append_ #[38,38] 38 #[(Value.slice c d e),(Value.slice (some (Addr.mk l 0 none)) 1 1)]).run P m=.ok (.slice h i j) k/\qdd a b h i j k K)) (qdd a b c d e w K)):=kr
theorem qpb:qsy a w K=(∃ f:Int,w.cell? a=some (.int .i64 f)/\q9 P 119 [(Value.int .i64 f)] w (fun o p=>∃ g:Array Value,∃ q:Bool,o=(.tuple #[(Value.agg g),(Value.bool q)])/\qs (qv P 172) 172 p (fun b r=>zG 11 (Addr.mk b 0 none) g r (fun h=>∃ d:Int,h.cell? a=some (.int .i64 d)/\qE 1 [(Value.int .u8 (IntKind.wrap .u8 d))]/\qs (([(Value.int .u8 (IntKind.wrap .u8 d))].map fun(v:Value)=>v.cells.toList).flatten.toArray) 5 h (fun i c=>∃ j:Bool,c.cell? (Addr.mk b 0 none)=some (.bool j)/\qm j (∃ e:Int,c.cell? (a.add 1)=some (.int .i64 e)/\qE 1 [(Value.int .u8 (IntKind.wrap .u8 e))]/\qs (([(Value.int .u8 (IntKind.wrap .u8 e))].map fun(v:Value)=>v.cells.toList).flatten.toArray) 5 c (fun s t=>∃ (k:OA) (l m:Nat),∃ n:World,(Builtin.append_ #[38,38] 38 #[(Value.slice (some (Addr.mk i 0 none)) 1 1),(Value.slice (some (Addr.mk s 0 none)) 1 1)]).run P t=.ok (.slice k l m) n/\qg5 a (Addr.mk b 0 none) k l m n K)) (qg5 a (Addr.mk b 0 none) (some (Addr.mk i 0 none)) 1 1 c K)))))):=kr
theorem qFc:f73 a w K=(qs a 119 w (fun b c=>qS 15 (Addr.mk b 0 none) c (fun f=>q9 P 118 [(Value.agg f)] c (fun g d=>∃ e:Bool,g=(.bool e)/\qm (!e) (K (Value.tuple #[(Value.slice none 0 0),(Value.int .i64 170)]) d) (qsy (Addr.mk b 0 none) d K))))):=kr
theorem qG9 a w K(h:f73 a w K):q9 P 73 [(Value.agg a)] w K:=qy c73 Tryz.func73 h
end Go.Fx.Tryz
namespace Go.Fx.Tryz
open Go Go.Fx Go.Fx.Ch
open Go.Proofs
set_option linter.all false
set_option maxRecDepth 20000
variable {w0 w:World} {H X G:qA} {K:KT}
def X1:HI:={ op:=1 }
def X2(at_:Int):HI:={ op:=40,k:=1,i:=at_ }
theorem yV{cs vs:List Value}(h:vs.length=cs.length):qP cs 0 vs=vs:=by
 rw[Zi _ _ _ om]
 simp[h]
def Qw:Int->List Value
 | 1=>[.bool false,.bool false,.bool false,J 1,J 0,J 0,J 0,.bool false,.bool true,.bool false,.bool false]
 | _=>[.bool false,.bool false,.bool false,J 0,J 0,J 0,J 0,.bool true,.bool true,.bool true,.bool false]
def Is2(x:HI):Prop:=x=X1\/∃ a,x=X2 a
theorem qod{x a b:Int}(hK:K (.bool (decide (a<=x)&&decide (x<=b))) w):q9 P 190 [J x,J a,J b] w K:=by
 refine qxj _ _ _ _ _ ?_
 rw[qx9,qe]
 refine⟨fun h=>?_,fun h=>?_⟩<;>rw[qgG]
 ·have:decide (a<=x)=true:=h
  rw[this,Bool.true_and]at hK;exact hK
 ·have:decide (a<=x)=false:=h
  rw[this,Bool.false_and]at hK;exact hK
theorem qlV{x:Int}(hK:K (.bool (x==40||x==41)) w):q9 P 117 [J x] w K:=by
 refine qA7 _ _ _ ?_
 rw[qzN]
 cases h:(x==40)<;>rw[h]at hK<;>simp only[qd,qb,qgy]
 ·exact hK
 ·exact hK
theorem Zj:qv P 172=#[.bool false,.bool false,.bool false,J 0,J 0,J 0,J 0,.bool false,.bool false,.bool false,.bool false]:=kr
theorem qCG(wq:World):(Instr.build 172 [(3,J 1),(8,.bool true)].toArray).run P wq=.ok (.agg (Qw 1).toArray) wq:=kr
theorem qBb(wq:World):(Instr.build 172 [(7,.bool true),(8,.bool true),(9,.bool true)].toArray).run P wq=.ok (.agg (Qw 40).toArray) wq:=kr
theorem Yf(x:Int):∀ v∈(Qw x).toArray.toList,v.oneCell'=true:=by
 unfold Qw
 split<;>simp[Value.oneCell']
theorem zY(x:Int):(Qw x).length=11:=by unfold Qw;split<;>rfl
theorem qvb(x:Int):(Qw x).take 11=Qw x:=List.take_of_length_le (by rw[zY];exact Nat.le_refl _)
theorem qaM(h:St w0 w H){op:Int}(ho:op=1\/op=40)(hK:∀ w',St w0 w' H->K (.tuple [.agg (Qw op).toArray,.bool true].toArray) w'):q9 P 119 [J op] w K:=by
 refine qvY _ _ _ ?_
 rw[qBB,qfS,Zj]
 refine h.newC fun n2 w3 hn2 h3=>?_
 have out:∀ {w4:World},St w0 w4 ((n2,Cs [.bool false,.bool false,.bool false,J 0,J 0,J 0,J 0,.bool false,.bool false,.bool false,.bool false] 172)::H)->zG 11 (Addr.mk n2 0 none) (Qw op).toArray w4 (fun w10=>qS 11 (Addr.mk n2 0 none) w10 (fun cs11=>K (.tuple [.agg cs11,.bool true].toArray) w10)):=fun {w4} h4=>by
  refine h4.stA (k:=0) rfl (by simp[zY]) (by simp) (Yf op) fun w10 h10=>h10.ldA (k:=0) rfl (by simp[zi]) ?_
  have:=hK w10 (h10.tail hn2)
  rw[yV (by simp[zY])]
  simpa [zY,qvb]using this
 rw[qhe]
 rcases ho with rfl | rfl
 ·simp only[q1D,Int.reduceBEq,qd,qb]
  exact⟨_,qCG,out h3⟩
 ·simp only[q1D,qdL,qeg,qfT,qdy,qhh,qdR,qgz,q7l,q8q,Int.reduceBEq,qd,qb]
  exact⟨_,qBb,out h3⟩
theorem q3p(x:HI):∀ v∈(qp x).toArray.toList,v.oneCell'=true:=by simp[qp,Value.oneCell']
theorem qvy(h:St w0 w H){x:HI}(ho:x.op=1\/x.op=40)(hK:∀ w',St w0 w' H->K (.tuple [.agg (Qw x.op).toArray,.bool true].toArray) w'):q9 P 180 [.agg (qp x).toArray] w K:=by
 refine qwS _ _ _ ?_
 rw[qw6,Zj]
 refine h.newC fun n1 w2 hn1 h2=>h2.newC fun n3 w4 hn3 h4=>⟨x.op,h4.cell (k:=1) rfl,?_⟩
 refine qaM h4 ho fun w7 h7=>⟨_,_,rfl,?_⟩
 refine h7.newC fun n10 w11 hn10 h11=>h11.stA (k:=0) rfl (by simp[zY]) (by simp) (Yf _) fun w12 h12=>⟨x.op,h12.cell (k:=2) rfl,?_⟩
 have hne:(x.op==34)=false:=by rcases ho with h | h<;>rw[h]<;>decide
 simp only[hne,qb]
 rw[qcH,qb,qbq]
 rw[yV (by simp[zY])]at h12
 refine h12.ldA (k:=0) rfl (by simp[zY]) ?_
 rw[List.drop_zero,List.take_of_length_le (by simp[zY])]
 refine h12.stA (k:=1) rfl (by simp[zY]) (by simp) (Yf _) fun w24 h24=>h24.ldA (k:=1) rfl (by simp[zi]) ?_
 rw[yV (by simp[zY])]
 have:=hK w24 (((h24.tail hn10).tail hn3).tail hn1)
 simpa [zY,qvb]using this
theorem qBy(h:St w0 w H){x:HI}(ho:x.op=1\/x.op=40)(hs:x.sub=0)(hK:∀ w',St w0 w' H->K (.bool true) w'):q9 P 181 [.agg (qp x).toArray] w K:=by
 refine qAQ _ _ _ ?_
 rw[qxk,qbt]
 refine h.newC fun n2 w3 hn2 h3=>?_
 rw[qep]
 refine⟨x.op,h3.cell (k:=0) rfl,?_⟩
 have c1:w3.cell? ((Addr.mk n2 0 none).add 1)=some (J 0):=by rw[qa,h3.cell (k:=0) rfl,<-hs];rfl
 have hK:=hK w3 (h3.tail hn2)
 rcases ho with h | h<;>rw[h]<;>simp only[qd7,qcD,Int.reduceBEq,qd,qb,qcF]<;>exact⟨0,c1,hK⟩
theorem qtl(h:St w0 w H){x:HI}(ho:x.op=1\/x.op=40)(hs:x.ty=0)(hK:∀ w',St w0 w' H->K (.bool true) w'):q9 P 182 [.agg (qp x).toArray] w K:=by
 refine qBc _ _ _ ?_
 rw[qys,qfx]
 refine h.newC fun n2 w3 hn2 h3=>?_
 rw[qet]
 refine⟨x.op,h3.cell (k:=0) rfl,?_⟩
 have c1:w3.cell? ((Addr.mk n2 0 none).add 3)=some (J 0):=by rw[qa,h3.cell (k:=0) rfl,<-hs];rfl
 have hK:=hK w3 (h3.tail hn2)
 rcases ho with h | h<;>rw[h]<;>simp only[qfj,qds,Int.reduceBEq,qd,qb,qdf]<;>exact⟨0,c1,hK⟩
theorem qdP(h:St w0 w H){x:HI}(ho:x.op=1/\x.k=0\/x.op=40/\x.k=1)(hK:∀ w',St w0 w' H->K (.bool true) w'):q9 P 183 [.agg (qp x).toArray] w K:=by
 refine qyT _ _ _ ?_
 rw[qw5,qen]
 refine h.newC fun n2 w3 hn2 h3=>?_
 rw[qf2]
 refine⟨x.op,h3.cell (k:=0) rfl,?_⟩
 have c1:w3.cell? ((Addr.mk n2 0 none).add 8)=some (J x.k):=by rw[qa];exact h3.cell (k:=0) rfl
 have hK:=hK w3 (h3.tail hn2)
 rcases ho with⟨h,hk⟩ | ⟨h,hk⟩<;>rw[h]<;>rw[hk]at c1
 ·simp only[q0E,q1b,q1P,q1U,q2C,q2K,J9,Int.reduceBEq,qd,qb,Jh]
  exact⟨0,c1,hK⟩
 ·simp only[q0E,q1b,q1P,q1U,q2C,q2K,J9,Int.reduceBEq,qd,qb,Jh]
  refine⟨1,c1,qod ⟨_,rfl,?_⟩⟩
  exact hK
theorem jz{n k a b:Int}(hn:n=0)(hk:k=0\/k=1)(ha:0<a)(hK:K (.bool true) w):q9 P 184 [J n,J k,J a,J b] w K:=by
 refine qAZ _ _ _ _ _ _ ?_
 subst hn
 rw[qAK]
 rcases hk with rfl | rfl
 ·simp only[Int.reduceBEq,qd];exact hK
 ·simp only[Int.reduceBEq,qb]
  rw[qfy]
  simp only[Int.reduceBEq,qb]
  rw[qeK]
  simp only[ge_iff_le,Int.le_refl,decide_true,qd]
  rw[qcB,decide_eq_true ha]
  exact hK
theorem qHL(h:St w0 w H){x:HI}(hx:Is2 x)(hK:∀ w',St w0 w' H->K (.bool true) w'):q9 P 118 [.agg (qp x).toArray] w K:=by
 have ho:x.op=1/\x.k=0\/x.op=40/\x.k=1:=by
  rcases hx with rfl | ⟨a,rfl⟩
  ·exact .inl ⟨rfl,rfl⟩
  ·exact .inr ⟨rfl,rfl⟩
 have ho1:x.op=1\/x.op=40:=ho.imp And.left And.left
 have hz:x.sub=0/\x.frm=0/\x.ty=0/\x.d=0/\x.a=0/\x.b=0/\x.c=0/\x.chain=0/\x.v0=0/\x.v1=0/\x.v2=0/\x.v3=0:=by
  rcases hx with rfl | ⟨a,rfl⟩<;>exact⟨rfl,rfl,rfl,rfl,rfl,rfl,rfl,rfl,rfl,rfl,rfl,rfl⟩
 obtain⟨z1,z2,z3,z4,z5,z6,z7,z8,z9,z10,z11,z12⟩:=hz
 refine qxm _ _ _ ?_
 rw[qzf]
 refine h.newC fun n1 w2 hn1 h2=>?_
 have h2:St w0 w2 ((n1,Cs (qp x) 119)::H):=h2
 refine h2.ldA (k:=0) rfl (by simp[qp]) ?_
 refine qB0 _ _ _ _ _ ?_
 rw[qwf]
 refine h2.newC fun n3 w4 hn3 h4=>?_
 have h4:St w0 w4 ((n3,Cs (qp x) 119)::(n1,Cs (qp x) 119)::H):=h4
 refine h4.ldA (k:=0) rfl (by simp[qp]) ?_
 refine qvy (x:=x) h4 ho1 fun w7 h7=>⟨_,_,rfl,?_⟩
 rw[Zj]
 refine h7.newC fun n10 w11 hn10 h11=>h11.stA (k:=0) rfl (by simp[zY]) (by simp) (Yf _) fun w12 h12=>?_
 rw[yV (by simp[zY])]at h12
 have h12:St w0 w12 ((n10,Cs (Qw x.op) 172)::(n3,Cs (qp x) 119)::(n1,Cs (qp x) 119)::H):=h12
 simp only[Bool.not_true,qb]
 refine h12.ldA (k:=1) rfl (by simp[qp]) ?_
 refine qBy (x:=x) h12 ho1 z1 fun w100 h100=>⟨_,rfl,?_⟩
 simp only[Bool.not_true,qb]
 refine h100.ldA (k:=1) rfl (by simp[qp]) ?_
 refine qtl (x:=x) h100 ho1 z3 fun w104 h104=>⟨_,rfl,?_⟩
 simp only[Bool.not_true,qb]
 refine h104.ldA (k:=1) rfl (by simp[qp]) ?_
 refine qdP (x:=x) h104 ho fun w108 h108=>⟨_,rfl,?_⟩
 rw[Bool.not_true,qg8,qb,qEb]
 have cx:∀ i,w108.cell? ((Addr.mk n3 0 none).add i)=(qp x)[i]?:=fun i=>by rw[qa,h108.cell (k:=1) rfl,Nat.zero_add]
 have cf:∀ i,w108.cell? ((Addr.mk n10 0 none).add i)=(Qw x.op)[i]?:=fun i=>by rw[qa,h108.cell (k:=0) rfl,Nat.zero_add]
 have cV:∀ K:Array Value->Prop,K #[U 0,U 0,U 0,U 0]->qS 4 ((Addr.mk n3 0 none).add 11) w108 K:=fun K hK=>by
  rw[qa]
  refine h108.ldA (k:=1) rfl (by simp[qp]) ?_
  have:((qp x).drop (0+11)).take 4=[U 0,U 0,U 0,U 0]:=by simp[qp,z9,z10,z11,z12]
  rw[this];exact hK
 have fin:JJ false 6 12 (Addr.mk n10 0 none) (Addr.mk n3 0 none) w108 (fun r5 w5=>∃ b6:Bool,r5=Value.bool b6/\K (Value.bool b6) w5):=by
  rw[qfo,qb,qfG]
  have hd:(Qw x.op)[3]?=some (J 0)\/(Qw x.op)[3]?=some (J 1):=by rcases ho1 with h | h<;>rw[h]<;>simp[Qw]
  have hf:(Qw x.op)[4]?=some (J 0)/\(Qw x.op)[5]?=some (J 0)/\(Qw x.op)[6]?=some (J 0):=by rcases ho1 with h | h<;>rw[h]<;>simp[Qw]
  obtain⟨k,hk,hc⟩:∃ k:Int,(k=0\/k=1)/\w108.cell? ((Addr.mk n10 0 none).add 3)=some (J k):=by
   rcases hd with hd | hd
   ·exact⟨0,.inl rfl,by rw[cf];exact hd⟩
   ·exact⟨1,.inr rfl,by rw[cf];exact hd⟩
  refine⟨x.d,by rw[cx];rfl,k,hc,jz z4 hk (by decide) ⟨_,rfl,?_⟩⟩
  simp only[qd]
  refine⟨x.a,by rw[cx];rfl,0,by rw[cf];exact hf.1,jz z5 (.inl rfl) (by decide) ⟨_,rfl,?_⟩⟩
  simp only[qd]
  refine⟨x.b,by rw[cx];rfl,0,by rw[cf];exact hf.2.1,jz z6 (.inl rfl) (by decide) ⟨_,rfl,?_⟩⟩
  simp only[qd]
  refine⟨x.c,by rw[cx];rfl,0,by rw[cf];exact hf.2.2,jz z7 (.inl rfl) (by decide) ⟨_,rfl,?_⟩⟩
  rw[qbX]
  exact⟨_,rfl,hK w108 (((h108.tail hn10).tail hn3).tail hn1)⟩
 rcases ho1 with h1 | h1
 ·refine qK6 6 12 (Addr.mk n10 0 none) (Addr.mk n3 0 none) w108 _ ?_ ?_ ?_ ?_ ?_ ?_ cV ?_
  ·rw[cf,h1];rfl
  ·rw[cx,<-z2];rfl
  ·rw[cf,h1];rfl
  ·rw[cf,h1];rfl
  ·rw[cx,<-z8];rfl
  ·rw[cf,h1];rfl
  ·rw[qJa];exact fin
 ·refine qJy 6 12 (Addr.mk n10 0 none) (Addr.mk n3 0 none) w108 _ ?_ ?_ ?_ ?_ ?_ cV ?_
  ·rw[cf,h1];rfl
  ·rw[cx,<-z2];rfl
  ·rw[cf,h1];rfl
  ·rw[cf,h1];rfl
  ·rw[cf,h1];rfl
  ·rw[qJ4];exact fin
def leN(x:Int)(n:Nat):List Int:=(List.range n).map fun i=>x / 2 ^ (8*i) % 256
theorem quF(x:Int)(n:Nat):leN x (n+1)=leN x n++[x / 2 ^ (8*n) % 256]:=by
 unfold leN
 rw[List.range_succ,List.map_append]
 rfl
theorem q6j(x:Int)(n:Nat):(leN x n).length=n:=by simp[leN]
theorem q5I(x:Int):IntKind.wrap .u8 x=x % 256:=by simp[IntKind.wrap,IntKind.bits,IntKind.signed]
theorem q94{x:Int}(hx:jm x){n:Nat}(hn:n<=4)(h:St w0 w H)(hK:∀ w' ov L,zn 1 5 ov n ((leN x n).map B) L->qD w0 L->St w0 w' (L++H)->K ov w'):q9 P 120 [U x,J n] w K:=by
 refine qw8 _ _ _ _ ?_
 rw[qy8]
 refine⟨fun m e w'=>∃ (j:Nat) (a:Option Addr) (c:Nat) (L:qA),j<=n/\m=n-j/\e=qh.mk 22 [(6,J j),(0,U x),(5,.slice a j c),(4,.slice none 0 0),(1,J n)] []/\zn 1 5 (.slice a j c) j ((leN x j).map B) L/\qD w0 L/\St w0 w' (L++H),⟨_,0,none,0,[],by omega,rfl,rfl,zn.nil 1 5,qD.nil _,h⟩,?_⟩
 rintro m e w' ⟨j,a,c,L,hj,rfl,rfl,hS,hN,hs⟩
 show q7p ..
 rw[q7w,qe]
 refine⟨fun hlt=>?_,fun hge=>?_⟩
 ·have hlt:j<n:=by have:=of_decide_eq_true hlt;omega
  rw[qex]
  have e1:IntKind.wrap .i64 ((8:Int)*(j:Int))=((8*j:Nat):Int):=by rw[qc om om];omega
  have e2:IntKind.wrap .u64 ((8*j:Nat):Int)=((8*j:Nat):Int):=qte om om
  rw[e1,e2,Int.toNat_natCast]
  have e3:min (8*j) (IntKind.bits .u32)=8*j:=by
   have:IntKind.bits .u32=32:=rfl
   omega
  rw[e3,q5I,Int.fdiv_eq_ediv_of_nonneg _ (Int.le_of_lt (Int.pow_pos (by decide)))]
  generalize hv:x / 2 ^ (8*j) % 256=v
  refine⟨by omega,⟨rfl,trivial⟩,hs.newC fun n15 w13 hn15 h13=>?_⟩
  have h13:St w0 w13 ([(n15,Cs [B (v)] 5)]++(L++H)):=h13
  obtain⟨g,cap,w17,L',hr,hS',h17,hN'⟩:=St.append (P:=P) 38 38 5 Tryz.t5 (B 0) 1 1 Tryz.underlying38 kr rfl rfl rfl rfl om (A:=[(n15,Cs [B (v)] 5)]) (news:=[B (v)]) h13 hS hN (j:=0) rfl rfl (fun u hu=>by rw[List.mem_singleton.1 hu];rfl) (by simp[maxLen];omega) om
  refine⟨_,_,_,w17,hr,?_⟩
  rw[qc1]
  refine⟨n-(j+1),by omega,j+1,some ⟨g,0,none⟩,cap,L',by omega,rfl,by rw[qc om om];rfl,?_,hN',St.tail (H:=L'++H) h17 hn15⟩
  rw[quF,List.map_append,hv]
  exact hS'
 ·have:j=n:=by have:=of_decide_eq_false hge;omega
  subst this
  rw[qhi]
  exact hK w' _ L hS hN hs
theorem JS{x:Int}{n:Nat}(hx:jm x)(hn:n<=4){o:List Int}{a:Option Addr}{c:Nat}{Lo:qA}{Q:Option Addr->Nat->Nat->World->Prop}(h:St w0 w (Lo++H))(hS:zn 1 5 (.slice a o.length c) o.length (o.map B) Lo)(hN:qD w0 Lo)(ho:o.length<1000)
  (hQ:∀ w' a' c' Lo',zn 1 5 (.slice a' (o++leN x n).length c') (o++leN x n).length ((o++leN x n).map B) Lo'->qD w0 Lo'->St w0 w' (Lo'++H)->Q a' (o++leN x n).length c' w') :
  q9 P 120 [U x,J n] w (fun r w1=>∃ (sa:Option Addr) (sl sc:Nat),r=.slice sa sl sc/\∃ (ta:Option Addr) (tl tc:Nat),∃ w2:World,(Builtin.append_ #[38,38] 38 [.slice a o.length c,.slice sa sl sc].toArray).run P w1=.ok (.slice ta tl tc) w2/\Q ta tl tc w2):=by
 refine q94 hx hn h fun w1 ov M hM hMN h1=>?_
 obtain⟨sa,sc,e⟩:=hM.form
 subst e
 have h2:St w0 w1 ([]++(Lo++(M++H))):=h1.perm (qo fun c=>by simp only[List.nil_append,List.map_append,List.sum_append];omega)
 obtain⟨v',w',L',hr,hS',h3,hN'⟩:=St.appendN (P:=P) 38 38 5 Tryz.t5 (B 0) 1 1 Tryz.underlying38 kr rfl rfl rfl rfl om h2 hS hN hM (fun u hu=>h2.has _ _ (List.mem_append_right [] (List.mem_append_right Lo (List.mem_append_left _ hu)))) (qbm _) (by simp[maxLen];omega) om
 have hle:(o++leN x n).length=o.length+n:=by rw[List.length_append,q6j]
 rw[<-hle,<-List.map_append]at hS'
 obtain⟨ta,tc,e⟩:=hS'.form
 subst e
 refine⟨sa,n,sc,rfl,ta,_,tc,w',hr,hQ w' ta tc L' hS' hN' ?_⟩
 have h4:St w0 w' (M++(L'++H)):=St.perm (H:=[]++(L'++(M++H))) h3 (qo fun c=>by simp only[List.nil_append,List.map_append,List.sum_append];omega)
 exact h4.sub hMN
def Jv(x:HI):List Int:=if x.op=1 then[1,0]++leN x.i 4 else[40]++leN 1 2++leN x.i 4++leN 0 4
theorem qqi{x:HI}(hx:Is2 x)(hi:jm x.i)(h:St w0 w H)(hK:∀ w' a c L,zn 1 5 (.slice a (Jv x).length c) (Jv x).length ((Jv x).map B) L->qD w0 L->St w0 w' (L++H)->K (.tuple [.slice a (Jv x).length c,J 0].toArray) w'):q9 P 73 [.agg (qp x).toArray] w K:=by
 refine qG9 _ _ _ ?_
 rw[qFc]
 refine h.newC fun n1 w2 hn1 h2=>?_
 have h2:St w0 w2 ((n1,Cs (qp x) 119)::H):=h2
 refine h2.ldA (k:=0) rfl (by simp[qp]) ?_
 refine qHL h2 hx fun w5 h5=>⟨_,rfl,?_⟩
 simp only[Bool.not_true,qb]
 rw[qpb]
 have ho1:x.op=1\/x.op=40:=by
  rcases hx with rfl | ⟨a,rfl⟩
  ·exact .inl rfl
  ·exact .inr rfl
 refine⟨x.op,h5.cell (k:=0) rfl,qaM h5 ho1 fun w10 h10=>⟨_,_,rfl,?_⟩⟩
 rw[Zj]
 refine h10.newC fun n13 w14 hn13 h14=>h14.stA (k:=0) rfl (by simp[zY]) (by simp) (Yf _) fun w15 h15=>?_
 rw[yV (by simp[zY])]at h15
 have h15:St w0 w15 ((n13,Cs (Qw x.op) 172)::(n1,Cs (qp x) 119)::H):=h15
 refine⟨x.op,h15.cell (k:=1) rfl,⟨rfl,trivial⟩,h15.newC fun n20 w18 hn20 h18=>?_⟩
 rw[q5I]at h18
 have h18:St w0 w18 ([(n20,Cs [B (x.op % 256)] 5)]++((n13,Cs (Qw x.op) 172)::(n1,Cs (qp x) 119)::H)):=h18
 have hS:zn 1 5 (.slice (some ⟨n20,0,none⟩) 1 1) 1 ([x.op % 256].map B) [(n20,Cs [B (x.op % 256)] 5)]:=⟨rfl,.inr ⟨n20,1,_,rfl,rfl,Nat.le_refl _,by decide,rfl,rfl⟩⟩
 have hN:qD w0 [(n20,Cs [B (x.op % 256)] 5)]:=fun y hy=>by rw[List.mem_singleton.1 hy];exact hn20
 have cf:∀ {w2:World} {L:qA} (i:Nat),St w0 w2 (L++((n13,Cs (Qw x.op) 172)::(n1,Cs (qp x) 119)::H))->w2.cell? ((Addr.mk n13 0 none).add i)=(Qw x.op)[i]?:=fun {w2 L} i h2=>by
  rw[qa,qu (h2.has _ _ (List.mem_append_right L (.head _))),Nat.zero_add]
 have cx:∀ {w2:World} {L:qA} (i:Nat),St w0 w2 (L++((n13,Cs (Qw x.op) 172)::(n1,Cs (qp x) 119)::H))->w2.cell? ((Addr.mk n1 0 none).add i)=(qp x)[i]?:=fun {w2 L} i h2=>by
  rw[qa,qu (h2.has _ _ (List.mem_append_right L (.tail _ (.head _)))),Nat.zero_add]
 have fin:∀ {w2:World} {a:Option Addr} {c:Nat} {L:qA} {o:List Int},o=Jv x->zn 1 5 (.slice a o.length c) o.length (o.map B) L->qD w0 L->St w0 w2 (L++((n13,Cs (Qw x.op) 172)::(n1,Cs (qp x) 119)::H))->JM (Addr.mk n1 0 none) a o.length c (Addr.mk n13 0 none) w2 K:=fun {w2 a c L o} ho hS hN h2=>by
  subst ho
  have hv:(Qw x.op)[10]?=some (.bool false):=by rcases ho1 with h | h<;>rw[h]<;>rfl
  rw[qeV]
  refine⟨false,by rw[cf 10 h2];exact hv,?_⟩
  rw[qb,qdD]
  have h3:St w0 w2 ((n13,Cs (Qw x.op) 172)::(n1,Cs (qp x) 119)::(L++H)):=h2.perm (qo fun c=>by simp only[List.map_append,List.map_cons,List.sum_append,List.sum_cons];omega)
  exact hK w2 a c L hS hN ((h3.tail hn13).tail hn1)
 have h0:w18.cell? (Addr.mk n13 0 none)=some (.bool false):=by
  have:=cf 0 h18
  rw[qa]at this
  rw[this]
  rcases ho1 with h | h<;>rw[h]<;>rfl
 refine⟨false,h0,?_⟩
 rw[qb,qpc]
 have hf:(Qw x.op)[1]?=some (.bool false)/\(Qw x.op)[2]?=some (.bool false)/\(Qw x.op)[4]?=some (J 0)/\(Qw x.op)[5]?=some (J 0)/\(Qw x.op)[6]?=some (J 0)/\(Qw x.op)[8]?=some (.bool true):=by
  rcases ho1 with h | h<;>rw[h]<;>exact⟨rfl,rfl,rfl,rfl,rfl,rfl⟩
 refine⟨false,by rw[cf 1 h18];exact hf.1,?_⟩
 rw[qb,qoV]
 refine⟨false,by rw[cf 2 h18];exact hf.2.1,?_⟩
 rw[qb,qpd]
 have regs:∀ {w2:World} {a:Option Addr} {n c:Nat} {L:qA},St w0 w2 (L++((n13,Cs (Qw x.op) 172)::(n1,Cs (qp x) 119)::H))->q4S (Addr.mk n1 0 none) (Addr.mk n13 0 none) a n c w2 K->q6r (Addr.mk n1 0 none) (Addr.mk n13 0 none) a n c w2 K:=fun {w2 a n c L} h2 hk=>by
  rw[qpg]
  refine⟨0,by rw[cf 4 h2];exact hf.2.2.1,?_⟩
  simp only[show((0:Int) != 0)=false from rfl,qb]
  rw[qn2]
  refine⟨0,by rw[cf 5 h2];exact hf.2.2.2.1,?_⟩
  simp only[show((0:Int) != 0)=false from rfl,qb]
  rw[qpp]
  refine⟨0,by rw[cf 6 h2];exact hf.2.2.2.2.1,?_⟩
  simp only[show((0:Int) != 0)=false from rfl,qb]
  exact hk
 rcases hx with rfl | ⟨at_,rfl⟩
 ·-- a set
  refine⟨1,by rw[cf 3 h18];rfl,?_⟩
  simp only[show((1:Int) != 0)=true from rfl,qd]
  refine⟨0,by rw[cx 4 h18];rfl,⟨rfl,trivial⟩,h18.newC fun n59 w57 hn59 h57=>?_⟩
  rw[q5I]at h57
  have h57:St w0 w57 ([(n59,Cs [B (0 % 256)] 5)]++([(n20,Cs [B (1 % 256)] 5)]++((n13,Cs (Qw 1) 172)::(n1,Cs (qp X1) 119)::H))):=h57
  obtain⟨g,cap,w61,L',hr,hS',h61,hN'⟩:=St.append (P:=P) 38 38 5 Tryz.t5 (B 0) 1 1 Tryz.underlying38 kr rfl rfl rfl rfl om (A:=[(n59,Cs [B (0 % 256)] 5)]) (news:=[B (0 % 256)]) h57 hS hN (j:=0) rfl rfl (fun u hu=>by rw[List.mem_singleton.1 hu];rfl) (by simp[maxLen]) om
  refine⟨_,_,_,w61,hr,?_⟩
  have h62:St w0 w61 (L'++((n13,Cs (Qw 1) 172)::(n1,Cs (qp X1) 119)::H)):=St.tail h61 hn59
  refine regs h62 ?_
  rw[q3b]
  refine⟨false,by rw[cf 7 h62];rfl,?_⟩
  rw[qb,q3l]
  refine⟨true,by rw[cf 8 h62];rfl,?_⟩
  rw[qd]
  refine⟨0,by rw[cx 9 h62];rfl,?_⟩
  refine JS (n:=4) (o:=[1,0]) q2Y om h62 hS' hN' (by decide) fun w2 a c L hS2 hN2 h2=>?_
  rw[q3s]
  refine⟨false,by rw[cf 9 h2];rfl,?_⟩
  rw[qb]
  exact fin rfl hS2 hN2 h2
 ·-- an end
  refine⟨0,by rw[cf 3 h18];rfl,?_⟩
  simp only[show((0:Int) != 0)=false from rfl,qb]
  refine regs h18 ?_
  rw[q3b]
  refine⟨true,by rw[cf 7 h18];rfl,?_⟩
  rw[qd]
  refine⟨1,by rw[cx 8 h18];rfl,?_⟩
  rw[jo (by decide) (by decide)]
  refine JS (n:=2) (o:=[40]) ⟨by decide,by decide⟩ om h18 hS hN (by decide) fun w2 a c L hS2 hN2 h2=>?_
  rw[q3l]
  refine⟨true,by rw[cf 8 h2];rfl,?_⟩
  rw[qd]
  refine⟨at_,by rw[cx 9 h2];rfl,?_⟩
  refine JS (n:=4) (o:=[40]++leN 1 2) hi om h2 hS2 hN2 (by decide) fun w3 a3 c3 L3 hS3 hN3 h3=>?_
  rw[q3s]
  refine⟨true,by rw[cf 9 h3];rfl,?_⟩
  rw[qd]
  refine⟨0,by rw[cx 10 h3];rfl,?_⟩
  refine JS (n:=4) (o:=[40]++leN 1 2++leN at_ 4) q2Y om h3 hS3 hN3 (by simp[q6j]) fun w4 a4 c4 L4 hS4 hN4 h4=>?_
  exact fin rfl hS4 hN4 h4
def zj(l:List HI):List Int:=(l.map Jv).flatten
def zl(n:Nat)(at_:Int):List HI:=List.replicate n X1++[X2 at_]
theorem Vv(n:Nat)(at_:Int):(zl n at_).length=n+1:=by simp[zl]
theorem qr6{n:Nat}{at_:Int}{i:Nat}(hi:i<(zl n at_).length):(zl n at_)[i]=if i<n then X1 else X2 at_:=by
 simp only[zl,List.getElem_append,List.length_replicate,List.getElem_replicate]
 split
 ·rfl
 ·have:i-n=0:=by rw[Vv]at hi;omega
  simp[this]
theorem qa2{x:HI}(hx:Is2 x):(Jv x).length<=11:=by
 rcases hx with rfl | ⟨a,rfl⟩<;>simp[Jv,q6j,X1,X2]
theorem q3O{l:List HI}(hx:∀ x∈l,Is2 x):(zj l).length<=11*l.length:=by
 induction l with
 | nil=>simp[zj]
 | cons x r ih=>
  have h1:=ih fun y hy=>hx y (.tail _ hy)
  have h2:=qa2 (hx x (.head _))
  unfold zj at *
  simp only[List.map_cons,List.flatten_cons,List.length_append,List.length_cons]
  omega
theorem qbS(l:List HI)(x:HI):zj (l++[x])=zj l++Jv x:=by simp[zj]
theorem qcZ{n:Nat}{at_:Int}{a:Option Addr}{c:Nat}(hn:n<=39)(hat:jm at_)(h:St w0 w H)(hrow:∀ w',St w0 w' H->vC w' 15 (.slice a (zl n at_).length c) (zl n at_).length ((zl n at_).map qp).flatten)
  (hK:∀ w' ov L,zn 1 5 ov (zj (zl n at_)).length ((zj (zl n at_)).map B) L->qD w0 L->St w0 w' (L++H)->K (.tuple [ov,J 0,J 0].toArray) w'):q9 P 112 [.slice a (zl n at_).length c] w K:=by
 have hlen:=Vv n at_
 have hat':∀ {i:Nat} (hi:i<(zl n at_).length),(zl n at_)[i]=if i<n then X1 else X2 at_:=qr6
 generalize zl n at_=l at *
 have hIs:∀ {i:Nat} (hi:i<l.length),Is2 l[i]/\jm l[i].i:=fun {i} hi=>by
  rw[hat' hi]
  split
  ·exact⟨.inl rfl,q2Y⟩
  ·exact⟨.inr ⟨_,rfl⟩,hat⟩
 have hall:∀ x∈l,Is2 x:=fun x hx=>by
  obtain⟨i,hi,rfl⟩:=List.getElem_of_mem hx
  exact(hIs hi).1
 have hop:∀ {w2:World} {i:Nat} (hi:i<l.length),St w0 w2 H->∃ ad,a=some ad/\w2.cell? (ad.add (i*15))=some (J l[i].op)/\∀ K:Array Value->Prop,K (qp l[i]).toArray->qS 15 (ad.add (i*15)) w2 K:=fun {w2 i} hi h2=>by
  obtain⟨ad,cp,hac,hld⟩:=(hrow w2 h2).ldA hi
  injection hac with hac _ _
  rw[vE qp 15 (fun x=>rfl) l hi]at hld
  refine⟨ad,hac,?_,hld⟩
  obtain⟨cs,hsz,hcs,hc0⟩:=hld (fun cs=>cs=(qp l[i]).toArray) rfl
  have:=hcs 0 (by decide)
  rw[hc0]at this
  have e:(ad.add (i*15)).add 0=ad.add (i*15):=by rw[QF];rfl
  rw[e]at this
  rw[this];rfl
 refine qxU _ _ _ _ _ ?_
 rw[qzy,qeM,qhl,qcV,qfh]
 have hcl:∀ j,(zj (l.take j)).length<=440:=fun j=>by
  have h1:=q3O (l:=l.take j) fun x hx=>hall x (List.mem_of_mem_take hx)
  have h2:(l.take j).length<=l.length:=by rw[List.length_take];omega
  omega
 refine⟨fun m e w'=>∃ (j:Nat) (oa:Option Addr) (oc:Nat) (L:qA),j<=l.length/\m=l.length-j/\e=qh.mk 67 [(0,.slice a l.length c),(5,.slice oa (zj (l.take j)).length oc),(6,J j),(2,.slice none 0 0),(3,J 0),(4,J 0)] []/\
  zn 1 5 (.slice oa (zj (l.take j)).length oc) (zj (l.take j)).length ((zj (l.take j)).map B) L/\qD w0 L/\St w0 w' (L++H),⟨_,0,none,0,[],by omega,rfl,rfl,zn.nil 1 5,qD.nil _,h⟩,?_⟩
 rintro m e w' ⟨j,oa,oc,L,hj,rfl,rfl,hS,hN,hs⟩
 show q9N ..
 rw[q9s,qe]
 refine⟨fun hlt=>?_,fun hge=>?_⟩
 ·have hlt:j<l.length:=by have:=of_decide_eq_true hlt;omega
  rw[qer]
  obtain⟨ad,rfl,hc,hld⟩:=hop hlt (hs.sub hN)
  refine⟨by omega,by omega,?_⟩
  rw[Int.toNat_natCast]
  refine hld _ ?_
  refine qqi (hIs hlt).1 (hIs hlt).2 hs fun w32 ba bc M hM hMN h32=>⟨_,_,_,_,rfl,?_⟩
  simp only[show((0:Int) != 0)=false from rfl,qb]
  obtain⟨ad2,e2,hc2,_⟩:=hop hlt ((h32.sub hMN).sub hN)
  cases e2
  refine⟨by omega,by omega,l[j].op,hc2,?_⟩
  refine qlV ⟨_,rfl,?_⟩
  have s6:Yx false (some ad) l.length c oa (zj (l.take j)).length oc j none 0 0 0 0 ba (Jv l[j]).length bc w32 K (fun e' w'=>∃ m,m<l.length-j/\∃ (j:Nat) (oa:Option Addr) (oc:Nat) (L:qA),j<=l.length/\m=l.length-j/\e'=qh.mk 67 [(0,.slice (some ad) l.length c),(5,.slice oa (zj (l.take j)).length oc),(6,J j),(2,.slice none 0 0),(3,J 0),(4,J 0)] []/\
    zn 1 5 (.slice oa (zj (l.take j)).length oc) (zj (l.take j)).length ((zj (l.take j)).map B) L/\qD w0 L/\St w0 w' (L++H)):=by
   rw[qeF,qb,qbW]
   have hle:=hcl j
   rw[decide_eq_true om,qd]
   have h33:St w0 w32 ([]++(L++(M++H))):=h32.perm (qo fun c=>by simp only[List.nil_append,List.map_append,List.sum_append];omega)
   have hel:=qa2 (hIs hlt).1
   obtain⟨v',w2,L',hr,hS',h34,hN'⟩:=St.appendN (P:=P) 38 38 5 Tryz.t5 (B 0) 1 1 Tryz.underlying38 kr rfl rfl rfl rfl om h33 hS hN hM (fun u hu=>h33.has _ _ (List.mem_append_right [] (List.mem_append_right L (List.mem_append_left _ hu)))) (qbm _) (by simp[maxLen];omega) om
   have hst:zj (l.take (j+1))=zj (l.take j)++Jv l[j]:=by rw[zp l hlt,qbS]
   have hsl:(zj (l.take (j+1))).length=(zj (l.take j)).length+(Jv l[j]).length:=by rw[hst,List.length_append]
   rw[<-hsl,<-List.map_append,<-hst]at hS'
   obtain⟨ta,tc,e⟩:=hS'.form
   subst e
   refine⟨ta,_,tc,w2,hr,?_⟩
   rw[qf1]
   have h35:St w0 w2 (M++(L'++H)):=St.perm (H:=[]++(L'++(M++H))) h34 (qo fun c=>by simp only[List.nil_append,List.map_append,List.sum_append];omega)
   exact⟨l.length-(j+1),by omega,j+1,ta,tc,L',by omega,rfl,by rw[qc om om];rfl,hS',hN',h35.sub hMN⟩
  rw[qe]
  refine⟨fun hb=>?_,fun _=>s6⟩
  have hjn:¬ j<n:=fun hh=>by
   rw[hat' hlt,if_pos hh]at hb
   exact absurd hb (by decide)
  have:((j:Int) != IntKind.wrap .i64 (((l.length:Nat):Int)-1))=false:=by
   rw[qc om om]
   simp
   omega
  rw[this]
  exact s6
 ·have:j=l.length:=by have:=of_decide_eq_false hge;omega
  subst this
  rw[List.take_length]at hS ⊢
  rw[qgU]
  have hne:(((l.length:Nat):Int)==0)=false:=beq_eq_false_iff_ne.2 om
  rw[hne,qb]
  have hlt:l.length-1<l.length:=by omega
  obtain⟨ad,rfl,hc,_⟩:=hop hlt (hs.sub hN)
  have ew:IntKind.wrap .i64 (((l.length:Nat):Int)-1)=((l.length-1:Nat):Int):=by rw[qc om om];omega
  rw[ew]
  refine⟨by omega,by omega,_,by rw[Int.toNat_natCast];exact hc,qlV ⟨_,rfl,?_⟩⟩
  have hnl:¬ l.length-1<n:=by omega
  have hlast:l[l.length-1].op=40:=by rw[hat' hlt,if_neg hnl];rfl
  rw[hlast]
  simp only[show((40:Int)==40)=true from rfl,Bool.true_or,Bool.not_true]
  rw[qbo,qb,q79]
  have hle:=q3O hall
  have hd:decide ((((zj l).length:Nat):Int) > 65536)=false:=decide_eq_false om
  rw[hd,qb,q8f]
  exact hK w' _ L hS hN hs
theorem q3X{n:Nat}{at_:Int}{a:Option Addr}{c:Nat}(hn:n<=39)(hat:jm at_)(h:St w0 w H)(hrow:∀ w',St w0 w' H->vC w' 15 (.slice a (zl n at_).length c) (zl n at_).length ((zl n at_).map qp).flatten)
  (hK:∀ w' ov L,zn 1 5 ov (zj (zl n at_)).length ((zj (zl n at_)).map B) L->qD w0 L->St w0 w' (L++H)->K ov w'):q9 P 64 [.slice a (zl n at_).length c] w K:=by
 refine qEQ _ _ _ _ _ ?_
 rw[qCq]
 refine qcZ hn hat h hrow fun w' ov L hS hN hs=>?_
 obtain⟨oa,oc,e⟩:=hS.form
 subst e
 exact⟨_,_,_,_,_,rfl,hK w' _ L hS hN hs⟩
theorem bX2(at_:Int)(wq:World):(Instr.build 119 [(0,J 40),(8,J 1),(9,U at_)].toArray).run P wq=.ok (.agg (qp (X2 at_)).toArray) wq:=kr
theorem bX1(wq:World):(Instr.build 119 [(0,J 1)].toArray).run P wq=.ok (.agg (qp X1).toArray) wq:=kr
theorem Yp{at_:Int}(hat:jm at_)(h:St w0 w H)(hK:∀ w' ov L,zn 1 5 ov (zj (zl 0 at_)).length ((zj (zl 0 at_)).map B) L->qD w0 L->St w0 w' (L++H)->K ov w'):q9 P 19 [U at_] w K:=by
 refine qFT _ _ _ ?_
 rw[qFl]
 refine⟨_,bX2 at_,⟨rfl,trivial⟩,h.newC fun n5 w3 hn5 h3=>?_⟩
 have h3:St w0 w3 ((n5,Cs (qp (X2 at_)) 119)::H):=h3
 have hrow:∀ w',St w0 w' ((n5,Cs (qp (X2 at_)) 119)::H)->vC w' 15 (.slice (some (Addr.mk n5 0 none)) 1 1) 1 (qp (X2 at_)):=fun w' h'=>⟨rfl,.inr ⟨_,_,rfl,fun i hi=>by rw[qa,h'.cell (k:=0) rfl,Nat.zero_add]⟩⟩
 refine q3X (n:=0) (at_:=at_) om hat h3 (by simpa [zl]using hrow) fun w7 ov L hS hN h7=>?_
 obtain⟨oa,oc,e⟩:=hS.form
 subst e
 refine⟨_,_,_,rfl,hK w7 _ L hS hN ?_⟩
 have h8:St w0 w7 ((n5,Cs (qp (X2 at_)) 119)::(L++H)):=h7.perm (qo fun c=>by simp only[List.map_append,List.map_cons,List.sum_append,List.sum_cons];omega)
 exact h8.tail hn5
theorem qAG(j:Nat):((List.replicate j X1).map qp).flatten.length=j*15:=by
 induction j with
 | zero=>rfl
 | succ j ih=>
  rw[List.replicate_succ,List.map_cons,List.flatten_cons,List.length_append,ih]
  show 15+_=_
  omega
theorem qrb(j:Nat):((List.replicate (j+1) X1).map qp).flatten=((List.replicate j X1).map qp).flatten++qp X1:=by
 rw[List.replicate_succ',List.map_append,List.flatten_append]
 simp
theorem qHE:∃ z,Tryz.t119.zero=some z/\z.cells.size=15:=⟨.agg (qp {}).toArray,by kernel_rfl,rfl⟩
theorem qne{at_:Int}(hat:jm at_)(h:St w0 w H)(hK:∀ w' ov L,zn 1 5 ov (zj (zl 39 at_)).length ((zj (zl 39 at_)).map B) L->qD w0 L->St w0 w' (L++H)->K ov w'):q9 P 50 [U at_] w K:=by
 refine qCb _ _ _ ?_
 rw[qD2]
 obtain⟨z,hz,hzs⟩:=qHE
 have hr:=run_make (P:=P) w 130 119 Tryz.t119 z Tryz.underlying130 kr hz .i64 .i64 39 39 (by decide) (by decide) (by show((96:Nat):Int)*_<=_;decide) (by decide)
 rw[show Tryz.t119.size=15 from rfl]at hr
 refine⟨_,_,_,_,hr,?_⟩
 have hg:=h.le
 have hsz:(madeCells z.cells (Int.toNat 39*15)).size=585:=by rw[size_madeCells];rfl
 generalize hcs:madeCells z.cells (Int.toNat 39*15)=cs0 at *
 have h1:St w0 (w.alloc (.cells cs0 119)) ((w.heap.size,Cs cs0.toList 119)::H):=by
  have:=h.alloc (.cells cs0 119)
  have e:Obj.cells cs0 119 (0,0)=Cs cs0.toList 119:=by unfold Cs;rw[Array.toArray_toList]
  rw[e]at this
  exact this
 have hl0:cs0.toList.length=585:=by rw[Array.length_toList];exact hsz
 generalize cs0.toList=c0 at *
 generalize w.heap.size=g at *
 refine⟨fun m e w'=>∃ (j:Nat) (cs:List Value),j<=39/\m=39-j/\e=qh.mk 20 [(4,J j),(3,.slice (some ⟨g,0,none⟩) 39 39),(2,.slice none 0 0),(0,U at_)] []/\cs.length=585/\cs.take (j*15)=((List.replicate j X1).map qp).flatten/\St w0 w' ((g,Cs cs 119)::H),⟨_,0,c0,by omega,rfl,rfl,hl0,rfl,h1⟩,?_⟩
 rintro m e w' ⟨j,cs,hj,rfl,rfl,hl,ht,hs⟩
 show qiq ..
 rw[qd5,qe]
 refine⟨fun hlt=>?_,fun hge=>?_⟩
 ·have hlt:j<39:=by have:=of_decide_eq_true hlt;omega
  rw[qo2]
  refine⟨_,bX1,by omega,by omega,?_⟩
  rw[qa,Int.toNat_natCast,Nat.zero_add]
  refine hs.stA (k:=0) rfl rfl om (q3p X1) fun w13 h13=>?_
  rw[qpj]
  have hle:(qp X1).length=15:=rfl
  refine⟨39-(j+1),by omega,j+1,qP cs (j*15) (qp X1),by omega,rfl,by rw[qc om om];rfl,by rw[zi];exact hl,?_,h13⟩
  have hta:(cs.take (j*15)).length=j*15:=by rw[List.length_take];omega
  rw[qrb,<-ht,Zi _ _ _ om]
  rw[List.take_append_of_le_length (by rw[List.length_append,hta,hle];omega),List.take_of_length_le (by rw[List.length_append,hta,hle];omega)]
 ·have hj39:j=39:=by have:=of_decide_eq_false hge;omega
  subst hj39
  rw[qnS]
  refine⟨_,bX2 at_,⟨rfl,trivial⟩,hs.newC fun n24 w22 hn24 h22=>?_⟩
  have h22:St w0 w22 ([(n24,Cs (qp (X2 at_)) 119)]++([(g,Cs cs 119)]++H)):=h22
  have hS:zn 15 119 (.slice (some ⟨g,0,none⟩) 39 39) 39 ((List.replicate 39 X1).map qp).flatten [(g,Cs cs 119)]:=⟨qAG 39,.inr ⟨g,39,cs,rfl,rfl,Nat.le_refl _,by decide,hl,ht⟩⟩
  have hN:qD w0 [(g,Cs cs 119)]:=fun x hx=>by rw[List.mem_singleton.1 hx];exact hg
  obtain⟨ga,cap,w26,L',hr2,hS2,h26,hN2⟩:=St.append (P:=P) 130 130 119 Tryz.t119 z 15 96 Tryz.underlying130 kr hz rfl rfl hzs om (A:=[(n24,Cs (qp (X2 at_)) 119)]) (news:=qp (X2 at_)) h22 hS hN (j:=0) rfl rfl (by have:=q3p (X2 at_);simpa using this) (by simp[maxLen]) om
  have hx:((List.replicate 39 X1).map qp).flatten++qp (X2 at_)=((zl 39 at_).map qp).flatten:=by
   unfold zl
   rw[List.map_append,List.flatten_append]
   simp
  rw[hx]at hS2
  have hl40:(zl 39 at_).length=39+1:=Vv 39 at_
  refine⟨_,_,_,w26,hr2,?_⟩
  have h27:St w0 w26 (L'++H):=St.tail h26 hn24
  rw[<-hl40]at hS2 ⊢
  refine q3X (n:=39) (at_:=at_) om hat h27 (fun w' h'=>hS2.row fun u hu=>h'.has _ _ (List.mem_append_left _ hu)) fun w7 ov L hSo hNo h7=>?_
  obtain⟨oa,oc,e⟩:=hSo.form
  subst e
  refine⟨_,_,_,rfl,hK w7 _ L hSo hNo ?_⟩
  have h8:St w0 w7 (L'++(L++H)):=h7.perm (qo fun c=>by simp only[List.map_append,List.sum_append];omega)
  exact h8.sub hN2
theorem qja(a b:Int)(wq:World):(Instr.build 36 [(0,U a),(1,J b)].toArray).run P wq=.ok (.agg #[U a,J b]) wq:=kr
theorem qcE(a:Int)(n8:Nat)(ca:Option Addr)(cl cc:Nat)(wq:World):(Instr.build 41 [(0,U a),(1,.slice (some (Addr.mk n8 0 none)) 1 1),(2,.slice ca cl cc)].toArray).run P wq=.ok (.agg (zL a (.slice (some (Addr.mk n8 0 none)) 1 1) (.slice ca cl cc)).toArray) wq:=kr
theorem q8S{at_:Int}{ca:Option Addr}{cl cc:Nat}(h:St w0 w H)(hK:∀ w' n8,w0.heap.size<=n8->St w0 w' ((n8,Cs [U at_,J 4] 36)::H)->K (.agg (zL at_ (.slice (some ⟨n8,0,none⟩) 1 1) (.slice ca cl cc)).toArray) w'):q9 P 49 [U at_,.slice ca cl cc] w K:=by
 refine qF7 _ _ _ _ _ _ ?_
 rw[qFt,jf]
 refine h.newC fun n2 w3 hn2 h3=>⟨_,qja at_ 4,⟨rfl,trivial⟩,h3.newC fun n8 w6 hn8 h6=>⟨_,qcE at_ n8 ca cl cc,?_⟩⟩
 have h6:St w0 w6 ((n8,Cs [U at_,J 4] 36)::(n2,Cs [U 0,.slice none 0 0,.slice none 0 0] 41)::H):=h6
 refine h6.stA (k:=1) rfl rfl (by simp) (by simp[zL,Value.oneCell']) fun w10 h10=>h10.ldA (k:=1) rfl (by simp[zi,zL]) ?_
 have h11:St w0 w10 ((n2,Cs (zL at_ (.slice (some ⟨n8,0,none⟩) 1 1) (.slice ca cl cc)) 41)::(n8,Cs [U at_,J 4] 36)::H):=St.perm (H:=(n8,Cs [U at_,J 4] 36)::(n2,Cs (zL at_ (.slice (some ⟨n8,0,none⟩) 1 1) (.slice ca cl cc)) 41)::H) h10 (List.Perm.swap _ _ _)
 exact hK w10 n8 hn8 (h11.tail hn2)
end Go.Fx.Tryz
namespace Go.Fx.Ch
open Go.Fx.Tryz
set_option linter.all false
set_option maxRecDepth 100000
def c1:List Int:=zj (zl 0 512)
def c2:List Int:=zj (zl 0 256)
def c3:List Int:=zj (zl 39 512)
def T4(a:Int)(c:List Int):TR:=⟨a,[(a,4)],c⟩
def S0:qf:=vl 2 256 4
def S1:qf:=⟨256,4,[(1,⟨256,[(256,4)],c1⟩)],[[1],[]],[0,0,0,0,0,0,0,0,1,0,0,0,0,0,0,0],[],0,1,0,0⟩
def S2:qf:=⟨256,4,[(1,⟨256,[(256,4)],c1⟩),(2,⟨512,[(512,4)],c2⟩)],[[1,2],[]],[0,2,0,0,0,0,0,0,1,0,0,0,0,0,0,0],[],0,2,0,0⟩
def S3:qf:=⟨256,4,[(1,⟨256,[(256,4)],jh c1 7 2⟩),(2,⟨512,[(512,4)],c2⟩)],[[1,2],[]],[0,2,0,0,0,0,0,0,1,0,0,0,0,0,0,0],[(2,[(1,7)])],0,2,0,0⟩
def S4:qf:=⟨256,4,[(1,⟨256,[(256,4)],c1⟩)],[[1],[]],[0,0,0,0,0,0,0,0,1,0,0,0,0,0,0,0],[],0,2,0,1⟩
def S5:qf:=⟨256,4,[(1,⟨256,[(256,4)],c1⟩),(3,⟨600,[(600,4)],c3⟩)],[[1,3],[]],[0,0,0,0,0,0,0,0,1,0,0,3,0,0,0,0],[],0,3,0,1⟩
def S6:qf:=⟨256,4,[(1,⟨256,[(256,4)],c1⟩),(3,⟨600,[(600,4)],c3⟩),(4,⟨700,[(700,4)],c1⟩)],[[1,3],[4]],[0,0,4,0,0,0,0,0,1,0,0,3,0,0,0,0],[],1,4,0,1⟩
def S7:qf:=⟨256,4,[(1,⟨256,[(256,4)],c1⟩),(3,⟨600,[(600,4)],c3⟩),(4,⟨700,[(700,4)],c1⟩),(5,⟨800,[(800,4)],c3⟩)],[[1,3],[4,5]],[0,0,4,0,0,0,0,0,1,5,0,3,0,0,0,0],[],1,5,0,1⟩
def S8:qf:=⟨256,4,[(4,⟨700,[(700,4)],c1⟩),(5,⟨800,[(800,4)],c3⟩),(6,⟨900,[(900,4)],c1⟩)],[[6],[4,5]],[6,0,4,0,0,0,0,0,0,5,0,0,0,0,0,0],[],0,6,2,1⟩
structure q0D (s:qf) (t:TR) (g:List Int) (s':qf):Prop where
 err:putErr s t=0
 ev:∃ s1,evD t.code.length 5 s=some (g,s1)/\zS s1 t=s'/\s1.given+1=s'.given
theorem p1:q0D S0 (T4 256 c1) [] S1:=⟨by kernel_rfl,S0,by kernel_rfl,by kernel_rfl,by kernel_rfl⟩
theorem p2:q0D S1 (T4 512 c2) [] S2:=⟨by kernel_rfl,S1,by kernel_rfl,by kernel_rfl,by kernel_rfl⟩
theorem p3:QD S2 1 7=(S3,true,0):=kr
theorem p4:QD S3 1 8=(S3,false,1):=kr
theorem p5:QD S3 3 7=(S3,false,211):=kr
theorem p6:q0t ((S3.items.map (·.1)).filter (yL S3 (515,1)))=[2]/\qsI S3 [2]=true/\({ jw S3 [2]with dr:=1 }:qf)=S4/\(jw S3 [2]).dr=0:=⟨by kernel_rfl,by kernel_rfl,by kernel_rfl,by kernel_rfl⟩
theorem p7:q0D S4 (T4 600 c3) [] S5:=⟨by kernel_rfl,S4,by kernel_rfl,by kernel_rfl,by kernel_rfl⟩
theorem p8:q0D S5 (T4 700 c1) [] S6:=⟨by kernel_rfl,qF S5,by kernel_rfl,by kernel_rfl,by kernel_rfl⟩
theorem p9:q0D S6 (T4 800 c3) [] S7:=⟨by kernel_rfl,S6,by kernel_rfl,by kernel_rfl,by kernel_rfl⟩
def S7e:qf:=⟨256,4,[(4,⟨700,[(700,4)],c1⟩),(5,⟨800,[(800,4)],c3⟩)],[[],[4,5]],[0,0,4,0,0,0,0,0,0,5,0,0,0,0,0,0],[],0,5,2,1⟩
theorem p10:q0D S7 (T4 900 c1) [1,3] S8:=⟨by kernel_rfl,S7e,by kernel_rfl,by kernel_rfl,by kernel_rfl⟩
theorem p11:putErr S8 (T4 700 c1)=5:=kr
theorem p12:(qW S2 512).1=2/\(qW S8 256).1=0:=⟨by kernel_rfl,by kernel_rfl⟩
theorem p13:jL S3=22/\vM S3=1/\jL S8=267/\vM S8=0:=⟨by kernel_rfl,by kernel_rfl,by kernel_rfl,by kernel_rfl⟩
theorem q0s:c1.length=11:=kr
theorem qqz:c3.length=245:=kr
theorem qz5:c1.all (fun b=>decide (0<=b)&&decide (b<256))=true:=kr
theorem qK8:c2.all (fun b=>decide (0<=b)&&decide (b<256))=true:=kr
theorem qH2:c3.all (fun b=>decide (0<=b)&&decide (b<256))=true:=kr
end Go.Fx.Ch
namespace Go.Fx.Tryz
open Go Go.Fx Go.Fx.Ch
open Go.Proofs
set_option linter.all false
set_option maxRecDepth 20000
variable {w0 w:World} {H X G:qA} {K:KT} {s s':qf} {L:qK} {q:LB}
theorem yp{c:List Int}(h:c.all (fun b=>decide (0<=b)&&decide (b<256))=true):∀ b∈c,0<=b/\b<256:=fun b hb=>by
 have:=List.all_eq_true.1 h b hb
 simpa using this
def q6X(w0:World)(f:FuncId)(a:Int)(c:List Int):Prop:=∀ (w:World) (H:qA) (K:KT),St w0 w H->(∀ w' ov N,zn 1 5 ov c.length (c.map B) N->qD w0 N->St w0 w' (N++H)->K ov w')->q9 P f [U a] w K
theorem VN:q6X w0 19 512 c1:=fun w H K h hK=>Yp ⟨by decide,by decide⟩ h hK
theorem qCE:q6X w0 19 256 c2:=fun w H K h hK=>Yp ⟨by decide,by decide⟩ h hK
theorem qtL:q6X w0 50 512 c3:=fun w H K h hK=>qne ⟨by decide,by decide⟩ h hK
theorem q9K{n8:Nat}{b:Int}{Y:qA}:Q6 w0 ((n8,Cs [U b,J 4] 36)::Y) (.slice (some ⟨n8,0,none⟩) 1 1) [(b,4)]:=
 ⟨fun w' h'=>⟨rfl,.inr ⟨_,_,rfl,fun i hi=>by rw[qa,h'.cell (k:=0) rfl,Nat.zero_add];rfl⟩⟩,by simp⟩
theorem q8B{c:List Int}{ov:Value}{n8:Nat}{o:Obj}{N Y:qA}(hS:zn 1 5 ov c.length (c.map B) N)(hb:∀ b∈c,0<=b/\b<256)(hl:c.length<1000000):y9 w0 ((n8,o)::(N++Y)) ov c:=
 (vg.of hS hb hl).bytes fun u hu=>.tail _ (List.mem_append_left _ hu)
theorem Zq{f:FuncId}{a b:Int}{c:List Int}{g:List Int}(hf:q6X w0 f a c)(hb:∀ b∈c,0<=b/\b<256)(hl:c.length<1000000)(hbW:jm b)(hp:q0D s (T4 b c) g s')(hg0:0<=s.given)(hg1:s.given<=2147483647)(hgl:g.length<1000)
  (hL:L.Ok w0 q s) (hg:zr H) (hX:qD w0 X) (h:St w0 w (L.bl q s++(X++H))) {Q:Int->Option Addr->Nat->Nat->Int->World->Prop}
  (hQ:∀ (w':World) (L':qK) (X':qA) (sa:Option Addr) (sc:Nat),L'.Ok w0 q s'->qD w0 X'->St w0 w' (L'.bl q s'++(X'++H))->(∃ N,(∀ u∈N,u∈X')/\zn 1 24 (.slice sa g.length sc) g.length ((yc g).map U) N)->Q s'.given sa g.length sc 0 w') :
  q9 P f [U a] w (fun r8 w9=>∃ (sa:Option Addr) (sl sc:Nat),r8=.slice sa sl sc/\q9 P 49 [U b,.slice sa sl sc] w9 (fun r11 w12=>∃ cs13:Array Value,r11=.agg cs13/\q9 P 18 [.pointer (some ⟨q.cb,0,none⟩),.agg cs13] w12 (fun r14 w15=>∃ x16:Int,∃ (ta:Option Addr) (tl tc:Nat),∃ x18:Int,r14=(.tuple [U x16,.slice ta tl tc,J x18].toArray)/\Q x16 ta tl tc x18 w15))):=by
 refine hf _ _ _ h fun w9 ov N hS hN h9=>?_
 obtain⟨sa,sc,e⟩:=hS.form
 subst e
 refine⟨_,_,_,rfl,q8S h9 fun w12 n8 hn8 h12=>⟨_,rfl,?_⟩⟩
 have h13:St w0 w12 (L.bl q s++((n8,Cs [U b,J 4] 36)::(N++(X++H)))):=h12.perm (qo fun c=>by simp only[List.map_append,List.map_cons,List.sum_append,List.sum_cons];omega)
 have hg2:zr ((n8,Cs [U b,J 4] 36)::(N++(X++H))):=hg.mono fun u hu=>.tail _ (List.mem_append_right _ (List.mem_append_right _ hu))
 obtain⟨s1,hev,hadd,hgiv⟩:=hp.ev
 have hspec:=q8X 5 s (g,s1) hev
 refine q5F (t:=T4 b c) h13 hL hg2 q9K (q8B hS hb hl) hbW hg0 hg1 (fun _=>⟨5,hspec.1 0 (by simp only;omega)⟩) (fun hne=>absurd hp.err hne) fun _ w' L' gone s1' ov' N' hE hok hS' hN' hs'=>?_
 obtain⟨rfl,rfl⟩:=hspec.2 _ _ hE
 obtain⟨ta,tc,e⟩:=hS'.form
 subst e
 rw[hadd]at hok hs'
 rw[hgiv]
 refine⟨_,_,_,_,_,rfl,hQ w' L' (N'++((n8,Cs [U b,J 4] 36)::(N++X))) ta tc hok ?_ ?_ ⟨N',fun u hu=>List.mem_append_left _ hu,hS'⟩⟩
 ·refine qD.append hN' (fun u hu=>?_)
  rcases List.mem_cons.1 hu with rfl | hu
  ·exact hn8
  ·exact qD.append hN hX u hu
 ·exact hs'.perm (qo fun c=>by simp only[List.map_append,List.map_cons,List.sum_append,List.sum_cons];omega)
theorem qFn{f:FuncId}{a b:Int}{c:List Int}(hf:q6X w0 f a c)(hb:∀ b∈c,0<=b/\b<256)(hl:c.length<1000000)(hbW:jm b)(hp:putErr s (T4 b c)=5)(hg0:0<=s.given)(hg1:s.given<=2147483647)
  (hL:L.Ok w0 q s) (hg:zr H) (hX:qD w0 X) (h:St w0 w (L.bl q s++(X++H))) {Q:Int->Option Addr->Nat->Nat->Int->World->Prop}
  (hQ:∀ (w':World) (X':qA),qD w0 X'->St w0 w' (L.bl q s++(X'++H))->Q 0 none 0 0 5 w') :
  q9 P f [U a] w (fun r8 w9=>∃ (sa:Option Addr) (sl sc:Nat),r8=.slice sa sl sc/\q9 P 49 [U b,.slice sa sl sc] w9 (fun r11 w12=>∃ cs13:Array Value,r11=.agg cs13/\q9 P 18 [.pointer (some ⟨q.cb,0,none⟩),.agg cs13] w12 (fun r14 w15=>∃ x16:Int,∃ (ta:Option Addr) (tl tc:Nat),∃ x18:Int,r14=(.tuple [U x16,.slice ta tl tc,J x18].toArray)/\Q x16 ta tl tc x18 w15))):=by
 refine hf _ _ _ h fun w9 ov N hS hN h9=>?_
 obtain⟨sa,sc,e⟩:=hS.form
 subst e
 refine⟨_,_,_,rfl,q8S h9 fun w12 n8 hn8 h12=>⟨_,rfl,?_⟩⟩
 have h13:St w0 w12 (L.bl q s++((n8,Cs [U b,J 4] 36)::(N++(X++H)))):=h12.perm (qo fun c=>by simp only[List.map_append,List.map_cons,List.sum_append,List.sum_cons];omega)
 have hg2:zr ((n8,Cs [U b,J 4] 36)::(N++(X++H))):=hg.mono fun u hu=>.tail _ (List.mem_append_right _ (List.mem_append_right _ hu))
 refine q5F (t:=T4 b c) h13 hL hg2 q9K (q8B hS hb hl) hbW hg0 hg1 (fun h0=>by rw[hp]at h0;cases h0) (fun _ w' hs'=>?_) fun h0=>by rw[hp]at h0;cases h0
 rw[hp]
 refine⟨_,_,_,_,_,rfl,hQ w' ((n8,Cs [U b,J 4] 36)::(N++X)) (fun u hu=>?_) ?_⟩
 ·rcases List.mem_cons.1 hu with rfl | hu
  ·exact hn8
  ·exact qD.append hN hX u hu
 ·exact hs'.perm (qo fun c=>by simp only[List.map_append,List.map_cons,List.sum_append,List.sum_cons];omega)
theorem q6L{s:qf}{b:Int}(h0:0<=b)(h:∀ p∈s.hold,(p.2.length:Int)<=b)(c:Int):vK s c<=b:=by
 unfold vK
 cases hl:lk s.hold c with
 | none=>exact h0
 | some v=>
  obtain⟨a,r,e,_⟩:=q8D hl
  exact h (c,v) (by rw[e];simp)
theorem qfs{c:List Int}{ov:Value}{N:qA}(hS:zn 1 5 ov c.length (c.map B) N)(hN:∀ u∈N,w.heap[u.1]?=some u.2)(hc:0<c.length):(convert 38 9 ov).run P w=.ok (.string (strOfNums c)) w:=by
 rcases hS.2 with⟨_,h0,_⟩ | ⟨g,cap,cur,rfl,rfl,h3,h4,h5,h6⟩
 ·omega
 refine run_convert_bytes_arg w 38 5 Tryz.underlying38 kr g 0 c.length cap c rfl (fun i hi=>?_) 9 kr
 have hb:=hN (g,Cs cur 5) (.head _)
 rw[qu hb,Nat.zero_add]
 have:=congrArg (fun l=>l[i]?) h6
 simp only[Nat.mul_one,List.getElem?_take,hi,if_true,List.getElem?_map,List.getElem?_eq_getElem hi,Option.map_some]at this
 rw[this]
 simp[List.getD,List.getElem?_eq_getElem hi]
theorem q5Z(wq:World):(do eqGuard .neq 9 (.tmp 129) (.tmp 131) (.string (strOfNums c1)) (.string (strOfNums c1));binOp .neq 9 (.string (strOfNums c1)) (.string (strOfNums c1)):Sem Value).run P wq=.ok (.bool false) wq:=kr
theorem qEr(wq:World):(do eqGuard .neq 47 (.tmp 83) (.tmp 84) (.agg #[J 2,J 22,J 1,J 0,J 0]) (.agg #[J 2,J 22,J 1,J 0,J 0]);binOp .neq 47 (.agg #[J 2,J 22,J 1,J 0,J 0]) (.agg #[J 2,J 22,J 1,J 0,J 0]):Sem Value).run P wq=.ok (.bool false) wq:=kr
theorem qG7(wq:World):(do eqGuard .eql 47 (.tmp 198) (.tmp 199) (.agg #[J 3,J 267,J 0,J 2,J 1]) (.agg #[J 3,J 267,J 0,J 2,J 1]);binOp .eql 47 (.agg #[J 3,J 267,J 0,J 2,J 1]) (.agg #[J 3,J 267,J 0,J 2,J 1]):Sem Value).run P wq=.ok (.bool true) wq:=kr
theorem qJf(wq:World):(Instr.build 47 [(0,J 2),(1,J 22),(2,J 1)].toArray).run P wq=.ok (.agg #[J 2,J 22,J 1,J 0,J 0]) wq:=kr
theorem qJl(wq:World):(Instr.build 47 [(0,J 3),(1,J 267),(3,J 2),(4,J 1)].toArray).run P wq=.ok (.agg #[J 3,J 267,J 0,J 2,J 1]) wq:=kr
theorem qGZ(wq:World):(Instr.build 27 [(0,J 2),(1,J 256),(2,J 16)].toArray).run P wq=.ok (.agg #[J 2,J 256,J 16]) wq:=kr
theorem qvq(hL:L.Ok w0 q S8)(hg:zr H)(hX:qD w0 X)(h:St w0 w (L.bl q S8++(X++H)))(hK:∀ w',St w0 w' H->K (.bool true) w'):qfU (some ⟨q.cb,0,none⟩) w K:=by
 rw[qnc]
 have hg2:zr (X++H):=hg.mono fun u hu=>List.mem_append_right _ hu
 refine Zc h hL hg2 (by decide) (by decide) fun w111 h111=>⟨_,_,rfl,?_⟩
 rw[p12.2]
 refine qFn VN (yp qz5) (by rw[q0s];decide) ⟨by decide,by decide⟩ p11 (by decide) (by decide) hL hg hX h111 fun w121 X' hX' h121=>?_
 simp only[show((0:Int) != 0)=false from rfl,Bool.not_false,qd,show((5:Int)==5)=true from rfl]
 have hf:=jg (by kernel_rfl:q9F S8=true)
 refine q0k h121 hL hf.rows (by decide) (q6L (by decide) (by intro p hp;cases hp)) fun w126 h126=>⟨_,rfl,_,qJl,?_⟩
 have e1:(#[J S8.items.length,J (jL S8),J (vM S8),J S8.ev,J S8.dr]:Array Value)=#[J 3,J 267,J 0,J 2,J 1]:=by rw[p13.2.2.1,p13.2.2.2];rfl
 rw[e1]
 refine⟨true,qG7,?_⟩
 rw[qnE]
 exact hK w126 ((h126.sub hL.newB).sub hX')
theorem qBq(hL:L.Ok w0 q S4)(hg:zr H)(hX:qD w0 X)(h:St w0 w (L.bl q S4++(X++H)))(hK:∀ w',St w0 w' H->K (.bool true) w'):qgh (some ⟨q.cb,0,none⟩) w K:=by
 rw[qnh]
 refine Zq qtL (yp qH2) (by rw[qqz];decide) ⟨by decide,by decide⟩ p7 (by decide) (by decide) (by decide) hL hg hX h fun w70 L5 X5 _ _ hL5 hX5 h5 _=>?_
 refine Zq VN (yp qz5) (by rw[q0s];decide) ⟨by decide,by decide⟩ p8 (by decide) (by decide) (by decide) hL5 hg hX5 h5 fun w81 L6 X6 _ _ hL6 hX6 h6 _=>?_
 refine Zq qtL (yp qH2) (by rw[qqz];decide) ⟨by decide,by decide⟩ p9 (by decide) (by decide) (by decide) hL6 hg hX6 h6 fun w92 L7 X7 _ _ hL7 hX7 h7 _=>?_
 refine Zq VN (yp qz5) (by rw[q0s];decide) ⟨by decide,by decide⟩ p10 (by decide) (by decide) (by decide) hL7 hg hX7 h7 fun w103 L8 X8 sa sc hL8 hX8 h8 hN=>?_
 obtain⟨N,hNX,hS⟩:=hN
 have hso:yc [1,3]=[1,3]:=by rw[QH];rfl
 rw[hso]at hS
 have hrow:vC w103 1 (.slice sa [1,3].length sc) 2 (([1,3]:List Int).map U):=hS.row fun u hu=>h8.has _ _ (List.mem_append_right _ (List.mem_append_left _ (hNX u hu)))
 obtain⟨ad,cp,hac,_⟩:=vC.ldA (i:=0) hrow (by decide)
 injection hac with hac _ _
 subst hac
 have c0:=y6 (r:=[1,3]) (i:=0) hrow (by decide)
 have c1':=y6 (r:=[1,3]) (i:=1) hrow (by decide)
 have hs8:S8.given=6:=rfl
 simp only[hs8,show((0:Int) != 0)=false from rfl,show((6:Int) != 6)=false from rfl,qb]
 have hl2:((([1,3]:List Int).length:Nat):Int)=2:=rfl
 simp only[hl2,show((2:Int) != 2)=false from rfl,qb]
 refine⟨by decide,by decide,1,c0,?_⟩
 simp only[show((1:Int) != 1)=false from rfl,qb]
 refine⟨by decide,by decide,3,c1',?_⟩
 simp only[show((3:Int) != 3)=false from rfl]
 rw[qnO,qb]
 exact qvq hL8 hg hX8 h8 hK
theorem qwn(hL:L.Ok w0 q S3)(hg:zr H)(hX:qD w0 X)(h:St w0 w (L.bl q S3++(X++H)))(hK:∀ w',St w0 w' H->K (.bool true) w'):qei (some ⟨q.cb,0,none⟩) w K:=by
 rw[qo7]
 have hg2:zr (X++H):=hg.mono fun u hu=>List.mem_append_right _ hu
 have hf:=jg (by kernel_rfl:q9F S3=true)
 refine q0O (id:=1) (slot:=8) h hL hg2 hf.table ?_
 rw[p4]
 intro w42 L2 hL2 h2
 refine⟨_,_,rfl,?_⟩
 refine q0O (id:=3) (slot:=7) h2 hL2 hg2 hf.table ?_
 rw[p5]
 intro w46 L3 hL3 h3
 refine⟨_,_,rfl,_,qja 515 1,?_⟩
 refine qjj (r:=(515,1)) h3 hL3 hg2 (by decide) (by decide) (by decide) fun w51 L4 s4 ov N hF hL4 hS hN h4=>?_
 have hdl:yN S3 (515,1)=[2]:=by unfold yN;rw[QH];exact p6.1
 rw[hdl]at hF hL4 hS h4
 have hs4:({ s4 with dr:=s4.dr+(([2]:List Int).length:Nat) }:qf)=S4:=by
  rw[hF.det p6.2.1,p6.2.2.2]
  exact p6.2.2.1
 rw[hs4]at hL4 h4
 obtain⟨la,lc,e⟩:=hS.form
 subst e
 refine⟨_,_,_,rfl,?_⟩
 have h5:St w0 w51 (L4.bl q S4++(N++(X++H))):=h4.perm (qo fun c=>by simp only[List.map_append,List.sum_append];omega)
 refine qCK (id:=1) h5 hL4 (fun h0=>by cases h0) fun t ht w54 sv' cv' A M hSA hAN hSM hMN h6=>⟨_,_,rfl,?_⟩
 have ht':t=T4 256 c1:=by
  have:lk S4.items 1=some (T4 256 c1):=by rfl
  rw[this]at ht
  exact(Option.some.inj ht).symm
 subst ht'
 obtain⟨sa,sc,e⟩:=hSA.form
 subst e
 obtain⟨ca,cc,e⟩:=hSM.form
 subst e
 rw[jf]
 refine h6.newC fun n57 w58 hn57 h58=>h58.stA (k:=0) rfl rfl (by simp) (by simp[zL,Value.oneCell']) fun w59 h59=>?_
 have h59:St w0 w59 ((n57,Cs (zL (T4 256 c1).at_ (.slice sa (T4 256 c1).sp.length sc) (.slice ca (T4 256 c1).code.length cc)) 41)::(M++(A++(L4.bl q S4++(N++(X++H)))))):=h59
 have h60:=h59.drew
 have hl1:((([2]:List Int).length:Nat):Int)=1:=rfl
 simp only[show((1:Int) != 1)=false from rfl,show((211:Int) != 211)=false from rfl,show((0:Int) != 0)=false from rfl,hl1,qb]
 have hrow:vC w59.drew 1 (.slice la [2].length lc) 1 (([2]:List Int).map U):=hS.row fun u hu=>h60.has _ _ (.tail _ (List.mem_append_right _ (List.mem_append_right _ (List.mem_append_right _ (List.mem_append_left _ hu)))))
 obtain⟨ad,cp,hac,_⟩:=vC.ldA (i:=0) hrow (by decide)
 injection hac with hac _ _
 subst hac
 have c0:=y6 (r:=[2]) (i:=0) hrow (by decide)
 refine⟨by decide,by decide,2,c0,?_⟩
 simp only[show((2:Int) != 2)=false from rfl,qb]
 refine⟨ca,(T4 256 c1).code.length,cc,by rw[qa];exact h60.cell (k:=0) rfl,?_⟩
 have hpos:0<c1.length:=by rw[q0s];decide
 have hc1:∀ {w2:World} {Z:qA},St w0 w2 (Z++((n57,Cs (zL (T4 256 c1).at_ (.slice sa (T4 256 c1).sp.length sc) (.slice ca (T4 256 c1).code.length cc)) 41)::(M++(A++(L4.bl q S4++(N++(X++H)))))))->(convert 38 9 (.slice ca (T4 256 c1).code.length cc)).run P w2=.ok (.string (strOfNums c1)) w2:=fun {w2 Z} h2=>
  qfs (c:=c1) hSM (fun u hu=>h2.has _ _ (List.mem_append_right _ (.tail _ (List.mem_append_left _ hu)))) hpos
 have fin:∀ {w2:World} {Z:qA},qD w0 Z->St w0 w2 (Z++((n57,Cs (zL (T4 256 c1).at_ (.slice sa (T4 256 c1).sp.length sc) (.slice ca (T4 256 c1).code.length cc)) 41)::(M++(A++(L4.bl q S4++(N++(X++H)))))))->zP false (some ⟨q.cb,0,none⟩) w2 K:=fun {w2 Z} hZ h2=>by
  rw[qo8,qb]
  have h3:St w0 w2 (Z++((n57,Cs (zL (T4 256 c1).at_ (.slice sa (T4 256 c1).sp.length sc) (.slice ca (T4 256 c1).code.length cc)) 41)::(M++(A++(L4.bl q S4++((N++X)++H)))))):=h2.perm (qo fun c=>by simp only[List.map_append,List.map_cons,List.sum_append,List.sum_cons];omega)
  exact qBq hL4 hg (qD.append hN hX) ((((h3.sub hZ).tail hn57).sub hMN).sub hAN) hK
 refine⟨⟨_,_,hc1 (Z:=[]) h60,?_⟩,?_⟩
 ·refine VN _ _ _ h60 fun w141 ov2 Z hSZ hZ h141=>?_
  obtain⟨za,zc,e⟩:=hSZ.form
  subst e
  exact⟨_,_,_,rfl,_,_,qfs hSZ (fun u hu=>h141.has _ _ (List.mem_append_left _ hu)) hpos,false,q5Z,fin hZ h141⟩
 ·refine VN _ _ _ h60 fun w147 ov2 Z hSZ hZ h147=>?_
  obtain⟨za,zc,e⟩:=hSZ.form
  subst e
  have hm:(n57,Cs (zL (T4 256 c1).at_ (.slice sa (T4 256 c1).sp.length sc) (.slice ca (T4 256 c1).code.length cc)) 41)∈(Z++((n57,Cs (zL (T4 256 c1).at_ (.slice sa (T4 256 c1).sp.length sc) (.slice ca (T4 256 c1).code.length cc)) 41)::(M++(A++(L4.bl q S4++(N++(X++H))))))):=List.mem_append_right _ (.head _)
  have hcell:w147.cell? ((Addr.mk n57 0 none).add 2)=some (.slice ca (T4 256 c1).code.length cc):=by rw[qa,qu (h147.has _ _ hm)];rfl
  have hz:=qfs (w:=w147) hSZ (fun u hu=>h147.has _ _ (List.mem_append_left _ hu)) hpos
  exact⟨_,_,_,rfl,hcell,⟨_,_,hc1 h147,_,_,hz,false,q5Z,fin hZ h147⟩,⟨_,_,hz,hcell,_,_,hc1 h147,false,q5Z,fin hZ h147⟩⟩
theorem qiR(h:St w0 w H)(hg:zr H)(hK:∀ w',St w0 w' H->K (.bool true) w'):q9 P 15 [] w K:=by
 refine qFC _ _ ?_
 rw[qDy]
 refine⟨_,qGZ,?_⟩
 refine qcg h (fun hc=>by exact absurd hc (by decide)) fun n k hn hk _ _ hk4 hk16 _ _ _ w2 q L hL h2=>⟨_,_,rfl,?_⟩
 have hn2:n=2:=by omega
 have hk4':k=4:=by
  rcases j8 hk4 hk16 with rfl | rfl | rfl | rfl | rfl | rfl | rfl | rfl | rfl | rfl | rfl | rfl | rfl<;>first | rfl | (exact absurd hk (by decide))
 subst hn2;subst hk4'
 have hL:L.Ok w0 q S0:=hL
 have h2:St w0 w2 (L.bl q S0++([]++H)):=h2
 simp only[show((0:Int) != 0)=false from rfl,qb,Option.isNone_some]
 rw[qp8,qb,qnD]
 refine Zq VN (yp qz5) (by rw[q0s];decide) ⟨by decide,by decide⟩ p1 (by decide) (by decide) (by decide) hL hg (qD.nil _) h2 fun w15 L1 X1 _ _ hL1 hX1 h15 _=>?_
 refine Zq qCE (yp qK8) (by decide) ⟨by decide,by decide⟩ p2 (by decide) (by decide) (by decide) hL1 hg hX1 h15 fun w26 L2 X2 _ _ hL2 hX2 h26 _=>?_
 have hg2:zr (X2++H):=hg.mono fun u hu=>List.mem_append_right _ hu
 refine Zc h26 hL2 hg2 (by decide) (by decide) fun w31 h31=>⟨_,_,rfl,?_⟩
 have hf:=jg (by kernel_rfl:q9F S2=true)
 refine q0O (id:=1) (slot:=7) h31 hL2 hg2 hf.table ?_
 rw[p3,p12.1]
 intro w35 L3 hL3 h35
 refine⟨_,_,rfl,?_⟩
 have g1:S1.given=1:=rfl
 have g2:S2.given=2:=rfl
 simp only[g1,g2,show((0:Int) != 0)=false from rfl,show((1:Int) != 1)=false from rfl,show((2:Int) != 2)=false from rfl,show((2:Int) != 0)=true from rfl,Bool.not_true,qb]
 have hf3:=jg (by kernel_rfl:q9F S3=true)
 refine q0k h35 hL3 hf3.rows (by decide) (q6L (by decide) (by decide)) fun w160 h160=>⟨_,rfl,_,qJf,?_⟩
 have e1:(#[J S3.items.length,J (jL S3),J (vM S3),J S3.ev,J S3.dr]:Array Value)=#[J 2,J 22,J 1,J 0,J 0]:=by rw[p13.1,p13.2.1];rfl
 have h160:St w0 w160 (L3.bl q S3++(X2++H)):=h160
 show ∃ b163:Bool,_/\_
 refine⟨false,?_,?_⟩
 ·show ∀ wq,(do eqGuard .neq 47 (.tmp 83) (.tmp 84) (.agg #[J S3.items.length,J (jL S3),J (vM S3),J S3.ev,J S3.dr]) (.agg #[J 2,J 22,J 1,J 0,J 0]);binOp .neq 47 (.agg #[J S3.items.length,J (jL S3),J (vM S3),J S3.ev,J S3.dr]) (.agg #[J 2,J 22,J 1,J 0,J 0]):Sem Value).run P wq=.ok (.bool false) wq
  rw[e1];exact qEr
 rw[qo3,qb]
 exact qwn hL3 hg hX2 h160 hK
end Go.Fx.Tryz
namespace Go.Fx.Tryz
set_option maxRecDepth 100000
open Go Go.Fx Go.Proofs
end Go.Fx.Tryz
namespace Go.Fx.Tryz
open Go Go.Fx Go.Fx.Ch
open Go.Proofs
set_option linter.all false
set_option maxRecDepth 20000
variable {w0 w:World} {H X G:qA} {K:KT}
end Go.Fx.Tryz
namespace Go.Fx.Tryz
open Go Go.Fx Go.Fx.Ch
open Go.Proofs Go.Proofs.YtepbaneageipfaaGreatDoor
open Go.ChangeShapes Go.WideShapes Go.ChangeAt Go.RowKit
set_option linter.all false
set_option maxRecDepth 100000
variable {W:World}
abbrev Jn : List (String × DataW Unit) := [("math/bits.deBruijn32tab", Rows.laid_math_bits_deBruijn32tab), ("math/bits.deBruijn64tab", Rows.laid_math_bits_deBruijn64tab), ("candling/host.forms", Rows.laid_candling_host_forms)]
theorem q91{n:String}{g:Nat}{cs:Array Value}(hg:P.globalNamed n=some g)(hv:W.var? P n=some cs)(hfz:∃ c t,W.heap[g]?=some (.cells c t (0,0))):∃ t,W.heap[g]?=some (Cs cs.toList t):=by
 obtain⟨c,t,h⟩:=hfz
 simp only[World.var?,hg,Option.bind_some,h,Option.some.injEq]at hv
 subst hv
 exact⟨t,by rw[h];simp[Cs]⟩
theorem d64:(Rows.laid_math_bits_deBruijn64tab:DataW Unit)=.agg (ZF.map fun x=>.lit (.int .u8 x)):=rfl
def qD6:DataW Unit->List (List UInt8)
 | .agg l=>l.map fun
  | .agg (.lit (.string s)::_)=>s
  | _=>[]
 | _=>[]
def qAl:List (List UInt8):=qD6 Rows.laid_candling_host_forms
theorem qD5:(Rows.laid_candling_host_forms:DataW Unit)=.agg ((List.range 46).map fun i=>.agg [.lit (.string (qAl.getD i [])),.lit (.int .i64 ((forms.getD i (0,0)).1:Nat)),.lit (.int .i64 ((forms.getD i (0,0)).2:Nat))]):=kr
theorem qrl{ds:List Int}{cs:List Value}{fuel:Nat}{p:List MemPlace}{sp:Nat->Bool}(hl:ds.length=64)(h:DataW.trod (fun _=>()) P W 0 sp false fuel 244 cs=some (.agg (ds.map fun x=>.lit (.int .u8 x)),p)):cs=ds.map fun x=>Value.int .u8 x:=by
 obtain⟨xs,m,_,hx,hlen,hxs,hel⟩:=DataW.trod_array Tryz.underlying244 h
 have c5:P.cellsOf 5=1:=kr
 have c244:P.cellsOf 244=64:=kr
 rw[c244]at hlen
 simp only[Prod.mk.injEq,DataW.agg.injEq]at hx
 apply List.ext_getElem?
 intro i
 by_cases hi:i<64
 ·have he:=hel i hi
  rw[c5,List.getElem?_eq_getElem om]at he
  obtain⟨k,e1,e2,_⟩:=DataW.trod_int Tryz.underlying5 he
  have h1:=congrArg (fun l=>l[i]?) hx.1
  simp only[List.getElem?_map,List.getElem?_eq_getElem (show i<ds.length by omega),List.getElem?_eq_getElem (show i<xs.length by omega),Option.map_some,Option.some.injEq]at h1
  rw[e2]at h1
  have hk:k=ds[i]:=by injection h1 with h1;injection h1 with _ h1;exact h1.symm
  have h2:=congrArg (fun l=>l[0]?) e1
  simp only[Nat.mul_one,List.getElem?_take,List.getElem?_drop,Nat.add_zero,Nat.zero_lt_one,if_true,List.getElem?_cons_zero]at h2
  rw[h2,List.getElem?_map,List.getElem?_eq_getElem om,hk];rfl
 ·rw[List.getElem?_eq_none om,List.getElem?_eq_none (by rw[List.length_map];omega)]
theorem qey{cs:List Value}{fuel:Nat}{p:List MemPlace}{sp:Nat->Bool}(h:DataW.trod (fun _=>()) P W 0 sp false fuel 232 cs=some (Rows.laid_candling_host_forms,p)):jk cs:=by
 rw[qD5]at h
 obtain⟨xs,m,_,hx,hlen,hxs,hel⟩:=DataW.trod_array Tryz.underlying232 h
 have qv6:P.cellsOf 214=3:=kr
 have c232:P.cellsOf 232=138:=kr
 have c9:P.cellsOf 9=1:=kr
 have c3':P.cellsOf 3=1:=kr
 rw[c232]at hlen
 simp only[Prod.mk.injEq,DataW.agg.injEq]at hx
 refine⟨hlen,fun i hi=>?_⟩
 have he:=hel i hi
 rw[qv6,List.getElem?_eq_getElem om]at he
 have h1:=congrArg (fun l=>l[i]?) hx.1
 simp only[List.getElem?_map,List.getElem?_range hi,List.getElem?_eq_getElem (show i<xs.length by omega),Option.map_some,Option.some.injEq]at h1
 obtain⟨ys,m2,_,hy,hl3,hys,hf⟩:=DataW.trod_struct Tryz.underlying214 he
 rw[qv6]at hl3
 rw[hy]at h1
 simp only[DataW.agg.injEq]at h1
 generalize (cs.drop (i*3)).take 3=r at *
 match r,hl3 with
 | [a,b,c],_=>
 have hy3:ys.length=3:=by rw[hys];rfl
 match ys,hy3 with
 | [y0,y1,y2],_=>
 have f0:=hf 0 _ rfl
 have f1:=hf 1 _ rfl
 have f2:=hf 2 _ rfl
 obtain⟨s,e0,g0,_⟩:=DataW.trod_string Tryz.underlying9 f0
 obtain⟨k1,e1,g1,_⟩:=DataW.trod_int Tryz.underlying3 f1
 obtain⟨k2,e2,g2,_⟩:=DataW.trod_int Tryz.underlying3 f2
 simp[c9,c3']at e0 e1 e2
 subst e0 e1 e2
 simp only[List.map_cons,List.map_nil,List.cons.injEq,and_true,g0,g1,g2,DataW.lit.injEq,Lit.int.injEq,true_and]at h1
 refine⟨s,?_⟩
 unfold zI
 rw[<-h1.2.1,<-h1.2.2]
theorem q7c(h:laidMetH P Jn W):∃ gcs gt t,W.heap[0]?=some (Cs gcs gt)/\jk gcs/\W.heap[2]?=some (Cs (ZF.map fun x=>.int .u8 x) t):=by
 rw[MakeChecks.laidMetH_plain _ _ _ kr]at h
 obtain⟨ps,⟨g1,t1,cs1,f1,p1,q1,hg1,ht1,hv1,hd1,⟨g2,t2,cs2,f2,p2,q2,hg2,ht2,hv2,hd2,⟨g3,t3,cs3,f3,p3,q3,hg3,ht3,hv3,hd3,hq,e3⟩,e2⟩,e1⟩,hnd,hfz⟩:=h
 obtain rfl := Option.some.inj ((show P.globalNamed "math/bits.deBruijn64tab" = some 2 by kernel_rfl).symm.trans hg2)
 obtain rfl := Option.some.inj ((show P.globalNamed "candling/host.forms" = some 0 by kernel_rfl).symm.trans hg3)
 obtain rfl:=Option.some.inj ((show(P.globals[2]?).map (·.type)=some 244 by kernel_rfl).symm.trans ht2)
 obtain rfl:=Option.some.inj ((show(P.globals[0]?).map (·.type)=some 232 by kernel_rfl).symm.trans ht3)
 have hT:=qey hd3
 rw[d64]at hd2
 have h64:=qrl (ds:=ZF) rfl hd2
 have hm:∀ (g:Nat) (cs:Array Value),0<cs.size->MemPlace.cell g 0∈MemPlace.row ⟨g,0,none⟩ cs.size:=fun g cs hc=>by
  simp only[MemPlace.row,List.mem_map,List.mem_range]
  exact⟨0,hc,rfl⟩
 have hs3:0<cs3.size:=by have:=hT.len;rw[Array.length_toList]at this;omega
 have hs2:0<cs2.size:=by
  have:=congrArg List.length h64
  rw[Array.length_toList,List.length_map]at this
  rw[this];decide
 obtain⟨gt,hb0⟩:=q91 hg3 hv3 (hfz 0 0 (by rw[e1,e2,e3];exact List.mem_append_right _ (List.mem_append_right _ (List.mem_append_left _ (List.mem_append_left _ (hm 0 cs3 hs3)))))).1
 obtain⟨t,hb2⟩:=q91 hg2 hv2 (hfz 2 0 (by rw[e1,e2];exact List.mem_append_right _ (List.mem_append_left _ (List.mem_append_left _ (hm 2 cs2 hs2))))).1
 rw[h64]at hb2
 exact⟨_,gt,t,hb0,hT,hb2⟩
end Go.Fx.Tryz
namespace Go.Proofs.YtepbaneageipfaaGreatDoor
open Go
set_option maxRecDepth 100000
theorem qKM{a b:Bool}(h:a=true)(g:b=true):(a&&b)=true:=by rw[h,g];rfl
end Go.Proofs.YtepbaneageipfaaGreatDoor
namespace Go.Fx
open Go
variable {w0 w:World} {H:qA}
theorem St.unadd{b:Nat}{o:Obj}(h:St w0 w ((b,o)::H))(hb:w0.heap[b]?=some o):St w0 w H:=by
 refine⟨h.kept,h.le,fun c p hp=>h.has c p (.tail _ hp),?_,fun k hk hn=>?_⟩
 ·have:=h.nd
  rw[List.map_cons]at this
  exact(List.nodup_cons.1 this).2
 ·by_cases e:k=b
  ·subst e
   rw[h.has k o (.head _),hb]
  ·exact h.old k hk (by rw[List.map_cons,List.mem_cons];exact fun hc=>hc.elim e hn)
theorem St.below'(h:St w0 w []):RowKit.Below w0.heap.size w0 w:=⟨h.kept.os,h.kept.tape,h.kept.output,h.le,fun k hk=>h.old k hk (by simp)⟩
namespace Tryz
open Go.Fx.Ch
open Go.Proofs
set_option maxRecDepth 100000
theorem own:ownKnob P.godebug=none:=kr
theorem qmW:laidOutB P=true:=kr
end Tryz
end Go.Fx
namespace Go.Proofs.YtepbaneageipfaaGreatDoor
open Go Go.Fx Go.Fx.Tryz Go.Fx.Ch
open Go.ChangeShapes Go.WideShapes Go.ChangeAt Go.RowKit
set_option maxRecDepth 100000
theorem quM(os:Os)(args:Array Value):laidMetH Tryz.prog Jn ((World.laidAll Tryz.prog os Jn).forCall (fun _ _=>0) ⟨#[],args,[]⟩).memory:=by
 rw[MakeChecks.laidMetH_plain _ _ _ kr]
 exact laidMet_laidAll _ kr kr
end Go.Proofs.YtepbaneageipfaaGreatDoor
namespace Go.Fx.Ch
set_option linter.all false
def D(N a b:Nat):Nat:=if a<=b then b-a else b+N-a
theorem qBP{N a n:Nat}(ha:a<N)(hn:n<N):(a+n) % N=if a+n<N then a+n else a+n-N:=by
 split
 ·exact Nat.mod_eq_of_lt ‹_›
 ·rw[Nat.mod_eq_sub_mod om,Nat.mod_eq_of_lt om]
theorem Zz{N a:Nat}(ha:a<N)(n:Nat):(a+n) % N<N:=Nat.mod_lt _ om
theorem qoi{N a n:Nat}(ha:a<N)(hn:n<N):D N a ((a+n) % N)=n:=by
 rw[qBP ha hn];unfold D;split<;>split<;>omega
theorem qfk{N a b:Nat}(ha:a<N)(hb:b<N):(a+D N a b) % N=b:=by
 have:D N a b<N:=by unfold D;split<;>omega
 rw[qBP ha this];unfold D;split<;>split<;>omega
theorem q5W{N a b:Nat}(ha:a<N)(hb:b<N):D N a b<N:=by unfold D;split<;>omega
theorem qqo{N a:Nat}:D N a a=0:=by unfold D;simp
theorem qBQ{N a b:Nat}(ha:a<N)(hb:b<N)(h:a≠b):0<D N a b:=by unfold D;split<;>omega
theorem qBZ{N a b c:Nat}(ha:a<N)(hb:b<N)(hc:c<N)(h:D N a b=D N a c):b=c:=by
 unfold D at h;split at h<;>split at h<;>omega
theorem vv{t:List Int}{i j:Nat}{v:Int}(hi:i<t.length):qi (t.set i v) j=if i=j then v else qi t j:=by
 unfold qi
 rw[List.getElem?_set]
 split
 ·rename_i h;subst h;first | rfl | (rw[if_pos hi];rfl)
 ·rfl
structure VR (N:Nat) (t:List Int) (ids:Int->Prop) (home:Int->Nat):Prop where
 z:¬ ids 0
 len:t.length=N
 mem:∀ i,i<N->qi t i≠0->ids (qi t i)
 has:∀ x,ids x->∃ i,i<N/\qi t i=x
 inj:∀ i j,i<N->j<N->qi t i≠0->qi t i=qi t j->i=j
 reach:∀ i j,i<N->j<N->qi t i≠0->qi t j=0->D N (home (qi t i)) i<D N j i
theorem VR.congr{N:Nat}{t:List Int}{ids ids':Int->Prop}{home home':Int->Nat}(h:VR N t ids home)(hi:∀ x,ids x↔ids' x)(hh:∀ x,ids x->home x=home' x):VR N t ids' home':=by
 refine⟨fun hz=>h.z ((hi 0).2 hz),h.len,fun i hi' hs=>(hi _).1 (h.mem i hi' hs),fun x hx=>h.has x ((hi x).2 hx),h.inj,fun i j hi' hj hs he=>?_⟩
 rw[<-hh _ (h.mem i hi' hs)]
 exact h.reach i j hi' hj hs he
theorem VR.empty(N:Nat)(home:Int->Nat):VR N (List.replicate N 0) (fun _=>False) home:=by
 have h0:∀ i,qi (List.replicate N 0) i=0:=fun i=>by
  unfold qi
  rw[List.getElem?_replicate]
  split<;>rfl
 exact⟨fun h=>h,List.length_replicate,fun i _ h=>absurd (h0 i) h,fun _ h=>h.elim,fun i _ _ _ h=>absurd (h0 i) h,fun i _ _ _ h=>absurd (h0 i) h⟩
theorem q1Z{k:Nat}{id:Int}{frm:Nat}{t:List Int}(hf:frm<2 ^ k):∀ f n,n+f=2 ^ k->(∀ m,m<n->qi t ((frm+m) % 2 ^ k)≠0)->(∃ m,n<=m/\m<2 ^ k/\qi t ((frm+m) % 2 ^ k)=0)->
  ∃ m,m<2 ^ k/\qi t ((frm+m) % 2 ^ k)=0/\(∀ j,j<m->qi t ((frm+j) % 2 ^ k)≠0)/\QN k id frm t f n=t.set ((frm+m) % 2 ^ k) id
 | 0,n,hn,_,⟨m,h1,h2,_⟩=>by omega
 | f+1,n,hn,hb,⟨m,h1,h2,h3⟩=>by
  unfold QN
  split
  ·rename_i h0;exact⟨n,by omega,h0,hb,rfl⟩
  ·rename_i h0
   refine q1Z hf f (n+1) om (fun j hj=>?_) ⟨m,?_,h2,h3⟩
   ·by_cases hjn:j=n
    ·subst hjn;exact h0
    ·exact hb j om
   ·by_cases hmn:m=n
    ·subst hmn;exact absurd h3 h0
    ·omega
theorem VR.insert{k:Nat}{t:List Int}{ids:Int->Prop}{home:Int->Nat}{id:Int}{e:Nat}(h:VR (2 ^ k) t ids home)(hid:¬ ids id)(h0:id≠0)(hh:home id<2 ^ k)(he:e<2 ^ k)(he0:qi t e=0) :
  VR (2 ^ k) (QN k id (home id) t (2 ^ k) 0) (fun x=>ids x\/x=id) home:=by
 obtain⟨m,hm,hm0,hb,heq⟩:=q1Z (k:=k) (id:=id) (frm:=home id) (t:=t) hh (2 ^ k) 0 om (fun m hm=>by omega) ⟨D (2 ^ k) (home id) e,by omega,q5W hh he,by rw[qfk hh he];exact he0⟩
 rw[heq]
 clear heq
 generalize 2 ^ k=N at *
 have hp:(home id+m) % N<N:=Zz hh m
 have hD:D N (home id) ((home id+m) % N)=m:=qoi hh hm
 have hb':∀ j,j<N->qi t j=0->m<=D N (home id) j:=fun j hj hj0=>by
  rcases Nat.lt_or_ge (D N (home id) j) m with hlt | hge
  ·have:=hb _ hlt;rw[qfk hh hj]at this;exact absurd hj0 this
  ·exact hge
 generalize (home id+m) % N=p at *
 have hpl:p<t.length:=by rw[h.len];exact hp
 have hs:∀ j,qi (t.set p id) j=if p=j then id else qi t j:=fun j=>vv hpl
 refine⟨fun hz=>hz.elim h.z fun hz=>h0 hz.symm,by rw[List.length_set];exact h.len,?_,?_,?_,?_⟩
 ·intro i hi hne
  rw[hs]at hne ⊢
  split
  ·exact .inr rfl
  ·rename_i hpi;rw[if_neg hpi]at hne;exact .inl (h.mem i hi hne)
 ·rintro x (hx | rfl)
  ·obtain⟨i,hi,hx'⟩:=h.has x hx
   refine⟨i,hi,?_⟩
   rw[hs,if_neg,hx']
   rintro rfl
   rw[hm0]at hx';subst hx'
   exact h.z hx
  ·exact⟨p,hp,by rw[hs,if_pos rfl]⟩
 ·intro i j hi hj hne heq
  rw[hs]at hne heq
  rw[hs]at heq
  split at heq
  ·rename_i hpi
   split at heq
   ·omega
   ·exact absurd (h.mem j hj (by rw[<-heq];exact h0)) (by rw[<-heq];exact hid)
  ·rename_i hpi
   rw[if_neg hpi]at hne
   split at heq
   ·exact absurd (h.mem i hi hne) (by rw[heq];exact hid)
   ·exact h.inj i j hi hj hne heq
 ·intro i j hi hj hne hj0
  rw[hs]at hne hj0 ⊢
  have hpj:p≠j:=by rintro rfl;rw[if_pos rfl]at hj0;exact h0 hj0
  rw[if_neg hpj]at hj0
  split
  ·rename_i hpi
   subst hpi
   have h1:=hb' j hj hj0
   have h2:D N (home id) j≠D N (home id) p:=fun hh'=>hpj (qBZ hh hj hp hh').symm
   rw[hD]
   rw[hD]at h2
   unfold D at *
   split at h1<;>split at hD<;>split<;>simp_all<;>omega
  ·rename_i hpi
   rw[if_neg hpi]at hne
   exact h.reach i j hi hj hne hj0
structure Rem (N:Nat) (t:List Int) (ids:Int->Prop) (home:Int->Nat) (h d:Nat):Prop where
 z:¬ ids 0
 len:t.length=N
 hN:h<N
 h0:qi t h=0
 mem:∀ i,i<N->qi t i≠0->ids (qi t i)
 has:∀ x,ids x->∃ i,i<N/\qi t i=x
 inj:∀ i j,i<N->j<N->qi t i≠0->qi t i=qi t j->i=j
 other:∀ i j,i<N->j<N->qi t i≠0->qi t j=0->j≠h->D N (home (qi t i)) i<D N j i
 seen:∀ i,i<N->0<D N h i->D N h i<d->qi t i≠0/\D N (home (qi t i)) i<D N h i
theorem Rem.keep{N:Nat}{t:List Int}{ids:Int->Prop}{home:Int->Nat}{h d c:Nat}(r:Rem N t ids home h d)(hc:c<N)(hd:D N h c=d)(h0:qi t c≠0)(hb:D N (home (qi t c)) c<D N h c):Rem N t ids home h (d+1):=by
 refine⟨r.z,r.len,r.hN,r.h0,r.mem,r.has,r.inj,r.other,fun i hi h1 h2=>?_⟩
 by_cases hid:D N h i=d
 ·have:i=c:=qBZ r.hN hi hc (hid.trans hd.symm)
  subst this
  exact⟨h0,hb⟩
 ·exact r.seen i hi h1 om
theorem Rem.move{N:Nat}{t:List Int}{ids:Int->Prop}{home:Int->Nat}{h d c:Nat}(r:Rem N t ids home h d)(hc:c<N)(hd:D N h c=d)(h1:0<d)(h0:qi t c≠0)(hx:home (qi t c)<N)
  (hb:¬ D N (home (qi t c)) c<D N h c):Rem N ((t.set h (qi t c)).set c 0) ids home c 1:=by
 have hhc:h≠c:=by rintro rfl;rw[qqo]at hd;omega
 have hs:∀ j,qi ((t.set h (qi t c)).set c 0) j=if c=j then 0 else if h=j then qi t c else qi t j:=fun j=>by
  rw[vv (by rw[List.length_set,r.len];exact hc),vv (by rw[r.len];exact r.hN)]
 have hN:=r.hN
 refine⟨r.z,by rw[List.length_set,List.length_set];exact r.len,hc,by rw[hs,if_pos rfl],?_,?_,?_,?_,fun i _ h1 h2=>by omega⟩
 ·intro i hi hne
  rw[hs]at hne ⊢
  split at hne
  ·exact absurd rfl hne
  ·rename_i hci
   rw[if_neg hci]
   split at hne
   ·rename_i hhi;rw[if_pos hhi];exact r.mem c hc h0
   ·rename_i hhi;rw[if_neg hhi];exact r.mem i hi hne
 ·intro x hx'
  obtain⟨i,hi,hxi⟩:=r.has x hx'
  by_cases hic:i=c
  ·subst hic;exact⟨h,hN,by rw[hs,if_neg (Ne.symm hhc),if_pos rfl,hxi]⟩
  ·refine⟨i,hi,?_⟩
   rw[hs,if_neg (Ne.symm hic),if_neg,hxi]
   rintro rfl
   rw[r.h0]at hxi;subst hxi;exact r.z hx'
 ·intro i j hi hj hne heq
  rw[hs]at hne heq
  rw[hs]at heq
  by_cases hci:c=i
  ·rw[if_pos hci]at hne;exact absurd rfl hne
  rw[if_neg hci]at hne heq
  by_cases hcj:c=j
  ·rw[if_pos hcj]at heq;exact absurd heq hne
  rw[if_neg hcj]at heq
  by_cases hhi:h=i
  ·rw[if_pos hhi]at hne heq
   by_cases hhj:h=j
   ·omega
   ·rw[if_neg hhj]at heq;exact absurd (r.inj c j hc hj hne heq) hcj
  ·rw[if_neg hhi]at hne heq
   by_cases hhj:h=j
   ·rw[if_pos hhj]at heq;exact absurd (r.inj i c hi hc hne heq).symm hci
   ·rw[if_neg hhj]at heq;exact r.inj i j hi hj hne heq
 ·intro i j hi hj hne hj0 hjc
  rw[hs]at hne hj0 ⊢
  rw[if_neg (Ne.symm hjc)]at hj0
  have hhj:h≠j:=by rintro rfl;rw[if_pos rfl]at hj0;exact h0 hj0
  rw[if_neg hhj]at hj0
  by_cases hci:c=i
  ·rw[if_pos hci]at hne;exact absurd rfl hne
  rw[if_neg hci]at hne ⊢
  by_cases hhi:h=i
  ·subst hhi
   rw[if_pos rfl]at hne ⊢
   have h2:=r.other c j hc hj h0 hj0 (Ne.symm hhj)
   generalize home (qi t c)=x at *
   unfold D at *
   split at h2<;>split at h2<;>split at hb<;>split at hb<;>split<;>split<;>omega
  ·rw[if_neg hhi]at hne ⊢
   exact r.other i j hi hj hne hj0 (Ne.symm hhj)
theorem Rem.done{N:Nat}{t:List Int}{ids:Int->Prop}{home:Int->Nat}{h d c:Nat}(r:Rem N t ids home h d)(hc:c<N)(hd:D N h c=d)(h0:qi t c=0)(hhc:h≠c):VR N t ids home:=by
 refine⟨r.z,r.len,r.mem,r.has,r.inj,fun i j hi hj hne hj0=>?_⟩
 by_cases hjh:j=h
 ·subst hjh
  rcases Nat.lt_or_ge (D N j i) d with hlt | hge
  ·have hij:j≠i:=by rintro rfl;exact hne hj0
   exact(r.seen i hi (qBQ hj hi hij) hlt).2
  ·have h2:=r.other i c hi hc hne h0 (Ne.symm hhc)
   have hci:c≠i:=by rintro rfl;exact hne h0
   generalize home (qi t i)=x at *
   unfold D at *
   split at h2<;>split at h2<;>split at hge<;>split at hd<;>split<;>omega
 ·exact r.other i j hi hj hne hj0 hjh
theorem qBR{k a b:Nat}(ha:a<2 ^ k)(hb:b<2 ^ k):far k (a:Int) (b:Int)=(D (2 ^ k) a b:Nat):=by
 unfold far D
 have hp:((2:Int) ^ k)=((2 ^ k:Nat):Int):=by rw[Int.natCast_pow];rfl
 rw[hp]
 generalize 2 ^ k=N at *
 split
 ·rw[Int.emod_eq_of_lt om om];omega
 ·have:((b:Int)-a) % (N:Int)=((b:Int)-a+N) % N:=by rw[Int.add_emod_right]
  rw[this,Int.emod_eq_of_lt om om];omega
theorem VC{items:List (Int × TR)}{k:Nat}{id:Int}{frm:Nat}{ids:Int->Prop}{home:Int->Nat}(hf:frm<2 ^ k)(hhome:∀ x,ids x->zk k (qk items x).at_=(home x:Int)/\home x<2 ^ k) :
  ∀ f n h (t:List Int),n+f=2 ^ k->Rem (2 ^ k) t ids home h (n-D (2 ^ k) frm h)->D (2 ^ k) frm h<n->(∃ e,e<2 ^ k/\e≠h/\qi t e=0/\n<=D (2 ^ k) frm e)->VR (2 ^ k) (y5 items k id frm f n (some h) t) ids home
 | 0,n,h,t,hn,r,hd,⟨e,h1,_,_,h2⟩=>by have:=q5W hf h1;omega
 | f+1,n,h,t,hn,r,hd,⟨e,h1,h2,h3,h4⟩=>by
  unfold y5
  have hh:=r.hN
  have hnN:n<2 ^ k:=by omega
  have hc:(frm+n) % 2 ^ k<2 ^ k:=Zz hf n
  have hDc:D (2 ^ k) frm ((frm+n) % 2 ^ k)=n:=qoi hf hnN
  have hDh:D (2 ^ k) h ((frm+n) % 2 ^ k)=n-D (2 ^ k) frm h:=by
   generalize (frm+n) % 2 ^ k=c at *
   generalize 2 ^ k=N at *
   unfold D at *
   split at hDc<;>split at hd<;>split<;>first | omega | (split<;>omega)
  split
  ·rename_i h0
   exact r.done hc hDh h0 (by rintro hhc;rw[<-hhc,qqo]at hDh;omega)
  ·rename_i h0
   have hm:=hhome _ (r.mem _ hc h0)
   rw[hm.1,qBR hm.2 hc,qBR hh hc]
   have hne:n≠D (2 ^ k) frm e:=by
    intro hh'
    have:(frm+n) % 2 ^ k=e:=by rw[hh'];exact qfk hf h1
    rw[this]at h0;exact h0 h3
   split
   ·rename_i hb
    refine VC hf hhome f (n+1) h t om ?_ om ⟨e,h1,h2,h3,by omega⟩
    have:=r.keep hc hDh h0 om
    rw[show n+1-D (2 ^ k) frm h=n-D (2 ^ k) frm h+1 by omega]
    exact this
   ·rename_i hb
    refine VC hf hhome f (n+1) _ _ om ?_ om ⟨e,h1,?_,?_,by omega⟩
    ·have:=r.move hc hDh om h0 hm.2 om
     rw[hDc,show n+1-n=1 by omega]
     exact this
    ·intro he;rw[he,hDc]at hne;omega
    ·rw[vv (by rw[List.length_set,r.len];exact hc),vv (by rw[r.len];exact hh)]
     split
     ·rfl
     ·rw[if_neg (Ne.symm h2)];exact h3
theorem q3K{items:List (Int × TR)}{k:Nat}{id:Int}{frm:Nat}{ids:Int->Prop}{home:Int->Nat}{t:List Int}{r e:Nat}(hf:frm<2 ^ k)(hhome:∀ x,ids x->zk k (qk items x).at_=(home x:Int)/\home x<2 ^ k)
  (h:VR (2 ^ k) t ids home) (hid:ids id) (hr:r<2 ^ k) (hri:qi t ((frm+r) % 2 ^ k)=id) (he:e<2 ^ k) (he0:qi t e=0) (hre:r<D (2 ^ k) frm e) :
  ∀ f n,n+f=2 ^ k->n<=r->VR (2 ^ k) (y5 items k id frm f n none t) (fun x=>ids x/\x≠id) home
 | 0,n,hn,hnr=>by omega
 | f+1,n,hn,hnr=>by
  unfold y5
  have hc:(frm+n) % 2 ^ k<2 ^ k:=Zz hf n
  have hDc:D (2 ^ k) frm ((frm+n) % 2 ^ k)=n:=qoi hf om
  have hid0:id≠0:=by rintro rfl;exact h.z hid
  split
  ·rename_i hci
   have hs:∀ j,qi (t.set ((frm+n) % 2 ^ k) 0) j=if(frm+n) % 2 ^ k=j then 0 else qi t j:=fun j=>vv (by rw[h.len];exact hc)
   generalize (frm+n) % 2 ^ k=c at *
   have hce:e≠c:=by rintro rfl;omega
   refine VC hf (fun x hx=>hhome x hx.1) f (n+1) c _ om ?_ om ⟨e,he,hce,by rw[hs,if_neg (Ne.symm hce)];exact he0,by omega⟩
   rw[hDc]
   refine⟨fun hz=>h.z hz.1,by rw[List.length_set];exact h.len,hc,by rw[hs,if_pos rfl],?_,?_,?_,?_,fun i _ h1 h2=>by omega⟩
   ·intro i hi hne
    rw[hs]at hne ⊢
    split at hne
    ·exact absurd rfl hne
    ·rename_i hci'
     rw[if_neg hci']
     exact⟨h.mem i hi hne,fun hh=>hci' (h.inj c i hc hi (by rw[hci];exact hid0) (by rw[hci,hh]))⟩
   ·rintro x ⟨hx,hxi⟩
    obtain⟨i,hi,hxx⟩:=h.has x hx
    refine⟨i,hi,?_⟩
    rw[hs,if_neg,hxx]
    rintro rfl
    exact hxi (hxx.symm.trans hci)
   ·intro i j hi hj hne heq
    rw[hs]at hne heq
    rw[hs]at heq
    split at hne
    ·exact absurd rfl hne
    ·rename_i hci'
     rw[if_neg hci']at heq
     split at heq
     ·exact absurd heq hne
     ·exact h.inj i j hi hj hne heq
   ·intro i j hi hj hne hj0 hjc
    rw[hs]at hne hj0 ⊢
    rw[if_neg (Ne.symm hjc)]at hj0
    split at hne
    ·exact absurd rfl hne
    ·rename_i hci'
     rw[if_neg hci']
     exact h.reach i j hi hj hne hj0
  ·rename_i hci
   have:n≠r:=by rintro rfl;exact hci hri
   exact q3K hf hhome h hid hr hri he he0 hre f (n+1) om om
theorem VR.remove{items:List (Int × TR)}{k:Nat}{id:Int}{ids:Int->Prop}{home:Int->Nat}{t:List Int}{e:Nat}(hhome:∀ x,ids x->zk k (qk items x).at_=(home x:Int)/\home x<2 ^ k)
  (h:VR (2 ^ k) t ids home) (hid:ids id) (he:e<2 ^ k) (he0:qi t e=0):VR (2 ^ k) (y5 items k id (home id) (2 ^ k) 0 none t) (fun x=>ids x/\x≠id) home:=by
 obtain⟨i,hi,hii⟩:=h.has id hid
 have hf:=(hhome id hid).2
 have hid0:id≠0:=by rintro rfl;exact h.z hid
 have hr:=h.reach i e hi he (by rw[hii];exact hid0) he0
 rw[hii]at hr
 refine q3K (r:=D (2 ^ k) (home id) i) (e:=e) hf hhome h hid (q5W hf hi) (by rw[qfk hf hi];exact hii) he he0 ?_ (2 ^ k) 0 om om
 generalize home id=x at *
 generalize 2 ^ k=N at *
 have:i≠e:=by rintro rfl;rw[he0]at hii;exact hid0 hii.symm
 unfold D at *
 split at hr<;>split at hr<;>split<;>split<;>omega
theorem VY{items:List (Int × TR)}{t:List Int}{k:Nat}{at_:Int}{frm r:Nat}{x:Int}(hr:qi t ((frm+r) % 2 ^ k)=x)(hx:x≠0)(ha:(qk items x).at_=at_) :
  ∀ f n,n<=r->r<n+f->(∀ m,n<=m->m<r->qi t ((frm+m) % 2 ^ k)≠0/\(qk items (qi t ((frm+m) % 2 ^ k))).at_≠at_)->yU items t k at_ frm f n=(x,r+1)
 | 0,n,h1,h2,_=>by omega
 | f+1,n,h1,h2,hb=>by
  unfold yU
  by_cases hnr:n=r
  ·subst hnr;rw[hr,if_neg hx,if_pos ha]
  ·have:=hb n (Nat.le_refl _) om
   rw[if_neg this.1,if_neg this.2]
   exact VY hr hx ha f (n+1) om om fun m h3 h4=>hb m om h4
theorem Ja{items:List (Int × TR)}{t:List Int}{k:Nat}{at_:Int}{frm r:Nat}(hr:qi t ((frm+r) % 2 ^ k)=0) :
  ∀ f n,n<=r->r<n+f->(∀ m,n<=m->m<r->qi t ((frm+m) % 2 ^ k)≠0/\(qk items (qi t ((frm+m) % 2 ^ k))).at_≠at_)->yU items t k at_ frm f n=(0,r+1)
 | 0,n,h1,h2,_=>by omega
 | f+1,n,h1,h2,hb=>by
  unfold yU
  by_cases hnr:n=r
  ·subst hnr;rw[hr,if_pos rfl]
  ·have:=hb n (Nat.le_refl _) om
   rw[if_neg this.1,if_neg this.2]
   exact Ja hr f (n+1) om om fun m h3 h4=>hb m om h4
theorem VR.look_some{items:List (Int × TR)}{t:List Int}{k:Nat}{at_:Int}{frm:Nat}{x:Int}{ids:Int->Prop}{home:Int->Nat}(h:VR (2 ^ k) t ids home)(hx:ids x)(hf:frm<2 ^ k)(hh:home x=frm)
  (ha:(qk items x).at_=at_) (hd:∀ y,ids y->(qk items y).at_=at_->y=x) {e:Nat} (he:e<2 ^ k) (he0:qi t e=0) :
  ∃ i,i<2 ^ k/\qi t i=x/\(∀ m,m<D (2 ^ k) frm i->qi t ((frm+m) % 2 ^ k)≠0)/\yU items t k at_ frm (2 ^ k) 0=(x,D (2 ^ k) frm i+1):=by
 obtain⟨i,hi,hii⟩:=h.has x hx
 have hx0:x≠0:=by rintro rfl;exact h.z hx
 have hb:∀ m,m<D (2 ^ k) frm i->qi t ((frm+m) % 2 ^ k)≠0:=fun m hm h0=>by
  have hmN:m<2 ^ k:=by have:=q5W hf hi;omega
  have h1:=h.reach i _ hi (Zz hf m) (by rw[hii];exact hx0) h0
  rw[hii,hh]at h1
  have h2:=qoi hf hmN
  generalize (frm+m) % 2 ^ k=c at *
  generalize 2 ^ k=N at *
  unfold D at *
  split at h1<;>split at h1<;>split at h2<;>split at hm<;>omega
 refine⟨i,hi,hii,hb,VY (by rw[qfk hf hi];exact hii) hx0 ha _ 0 om (by have:=q5W hf hi;omega) fun m _ hm=>⟨hb m hm,fun hat=>?_⟩⟩
 have hmN:m<2 ^ k:=by have:=q5W hf hi;omega
 have h3:=hd _ (h.mem _ (Zz hf m) (hb m hm)) hat
 have h4:=h.inj _ i (Zz hf m) hi (hb m hm) (by rw[h3,hii])
 have h5:=qoi hf hmN
 rw[h4]at h5
 omega
theorem VR.look_none{items:List (Int × TR)}{t:List Int}{k:Nat}{at_:Int}{frm:Nat}{ids:Int->Prop}{home:Int->Nat}(h:VR (2 ^ k) t ids home)(hf:frm<2 ^ k)
  (hd:∀ y,ids y->(qk items y).at_≠at_) {r:Nat} (hr:r<2 ^ k) (hr0:qi t ((frm+r) % 2 ^ k)=0) (hb:∀ m,m<r->qi t ((frm+m) % 2 ^ k)≠0):yU items t k at_ frm (2 ^ k) 0=(0,r+1):=
 Ja hr0 _ 0 om om fun m _ hm=>⟨hb m hm,hd _ (h.mem _ (Zz hf m) (hb m hm))⟩
theorem q8W{p:Nat->Prop}:∀ n,p n->∃ m,p m/\m<=n/\∀ j,j<m->¬ p j:=by
 intro n
 induction n using Nat.strongRecOn with
 | ind n ih=>
  intro hn
  by_cases h:∃ j,j<n/\p j
  ·obtain⟨j,hj,hp⟩:=h
   obtain⟨m,h1,h2,h3⟩:=ih j hj hp
   exact⟨m,h1,by omega,h3⟩
  ·exact⟨n,hn,Nat.le_refl _,fun j hj hp=>h ⟨j,hj,hp⟩⟩
theorem q1C{α:Type} [DecidableEq α]:∀ {l m:List α},l.Nodup->(∀ x∈l,x∈m)->l.length<=m.length
 | [],_,_,_=>Nat.zero_le _
 | x::l,m,hn,hs=>by
  have h1:=List.nodup_cons.1 hn
  have hx:x∈m:=hs x (.head _)
  have h2:=q1C (l:=l) (m:=m.erase x) h1.2 fun y hy=>(List.mem_erase_of_ne (by rintro rfl;exact h1.1 hy)).2 (hs y (.tail _ hy))
  rw[List.length_erase_of_mem hx]at h2
  have:0<m.length:=List.length_pos_of_mem hx
  rw[List.length_cons];omega
theorem VR.room{N:Nat}{t:List Int}{ids:Int->Prop}{home:Int->Nat}{L:List Int}(h:VR N t ids home)(hL:∀ x,ids x->x∈L)(hl:L.length<N):∃ e,e<N/\qi t e=0:=by
 refine Classical.byContradiction fun hno=>?_
 have hne:∀ e,e<N->qi t e≠0:=fun e he h0=>hno ⟨e,he,h0⟩
 have:=q1C (l:=(List.range N).map (qi t)) (m:=L) (List.pairwise_map.2 (List.nodup_range.imp_of_mem fun ha hb hab heq=>hab (h.inj _ _ (List.mem_range.1 ha) (List.mem_range.1 hb) (hne _ (List.mem_range.1 ha)) heq)))
  (fun x hx=>by obtain⟨i,hi,rfl⟩:=List.mem_map.1 hx;exact hL _ (h.mem i (List.mem_range.1 hi) (hne i (List.mem_range.1 hi))))
 rw[List.length_map,List.length_range]at this
 omega
theorem VR.empty_iff{N:Nat}{t:List Int}{ids:Int->Prop}{home:Int->Nat}{L:List Int}(h:VR N t ids home)(hL:∀ x,ids x↔x∈L)(hn:L.Nodup)(hl:L.length<N)(hh:∀ x,ids x->home x<N){i:Nat}(hi:i<N) :
  qi t i=0↔∀ b,b<N->(L.filter fun x=>decide (D N (home x) i<=b)).length<=b:=by
 constructor
 ·intro h0 b hb
  have hpos:∀ x,∃ s,x∈L->s<N/\qi t s=x:=fun x=>by
   by_cases hx:x∈L
   ·obtain⟨s,hs,he⟩:=h.has x ((hL x).2 hx);exact⟨s,fun _=>⟨hs,he⟩⟩
   ·exact⟨0,fun hx'=>absurd hx' hx⟩
  obtain⟨pos,hpos⟩:=Classical.axiomOfChoice hpos
  have hkey:∀ x,x∈L->D N (home x) i<=b->1<=D N (pos x) i/\D N (pos x) i<=b:=fun x hx hxb=>by
   obtain⟨hs,he⟩:=hpos x hx
   have hx0:x≠0:=by rintro rfl;exact h.z ((hL 0).2 hx)
   have hr:=h.reach (pos x) i hs hi (by rw[he];exact hx0) h0
   rw[he]at hr
   have hne:pos x≠i:=by intro hh';rw[hh',h0]at he;exact hx0 he.symm
   have hhx:=hh x ((hL x).2 hx)
   generalize pos x=s at *
   generalize home x=a at *
   unfold D at *
   split at hr<;>split at hr<;>split at hxb<;>split<;>omega
  have:=q1C (l:=(L.filter fun x=>decide (D N (home x) i<=b)).map fun x=>D N (pos x) i) (m:=List.range' 1 b) (List.pairwise_map.2 ((hn.filter _).imp_of_mem fun {x y} hx hy hab heq=>by
    have hx':=(List.mem_filter.1 hx).1
    have hy':=(List.mem_filter.1 hy).1
    have hp:pos x=pos y:=by
     have h1:=(hpos x hx').1
     have h2:=(hpos y hy').1
     generalize pos x=s at *
     generalize pos y=u at *
     unfold D at heq;split at heq<;>split at heq<;>omega
    exact hab (by rw[<-(hpos x hx').2,<-(hpos y hy').2,hp])))
   (fun d hd=>by
    obtain⟨x,hx,rfl⟩:=List.mem_map.1 hd
    have hx':=List.mem_filter.1 hx
    have:=hkey x hx'.1 (of_decide_eq_true hx'.2)
    exact List.mem_range'_1.2 ⟨this.1,by omega⟩)
  rw[List.length_map,List.length_range']at this
  exact this
 ·intro hb
  refine Classical.byContradiction fun h0=>?_
  obtain⟨e,he,he0⟩:=h.room (fun x hx=>(hL x).1 hx) hl
  obtain⟨m,⟨e,he,he0,hem⟩,_,hmin⟩:=q8W (p:=fun d=>∃ e,e<N/\qi t e=0/\D N e i=d) _ ⟨e,he,he0,rfl⟩
  have hei:e≠i:=by rintro rfl;exact h0 he0
  have hm1:0<m:=by rw[<-hem];exact qBQ he hi hei
  have hmN:m<N:=by rw[<-hem];exact q5W he hi
  have hsl:∀ j,j<m->(e+(1+j)) % N<N/\D N e ((e+(1+j)) % N)=1+j/\D N ((e+(1+j)) % N) i=m-1-j:=fun j hj=>by
   have h1:=qoi (n:=1+j) he om
   have h2:=Zz he (1+j)
   refine⟨h2,h1,?_⟩
   generalize (e+(1+j)) % N=c at *
   unfold D at *
   split at h1<;>split at hem<;>split<;>omega
  have hfull:∀ j,j<m->qi t ((e+(1+j)) % N)≠0:=fun j hj hz=>by
   obtain⟨h1,h2,h3⟩:=hsl j hj
   exact hmin (m-1-j) om ⟨_,h1,hz,h3⟩
  have:=q1C (l:=(List.range m).map fun j=>qi t ((e+(1+j)) % N)) (m:=L.filter fun x=>decide (D N (home x) i<=m-1)) (List.pairwise_map.2 (List.nodup_range.imp_of_mem fun {a b} ha hb' hab heq=>by
    have ha':=List.mem_range.1 ha
    have hb'':=List.mem_range.1 hb'
    have h1:=h.inj _ _ (hsl a ha').1 (hsl b hb'').1 (hfull a ha') heq
    have h2:=(hsl a ha').2.1
    rw[h1,(hsl b hb'').2.1]at h2
    omega))
   (fun x hx=>by
    obtain⟨j,hj,rfl⟩:=List.mem_map.1 hx
    have hj:=List.mem_range.1 hj
    obtain⟨h1,h2,h3⟩:=hsl j hj
    have hid:=h.mem _ h1 (hfull j hj)
    refine List.mem_filter.2 ⟨(hL _).1 hid,decide_eq_true ?_⟩
    have hr:=h.reach _ e h1 he (hfull j hj) he0
    have hhx:=hh _ hid
    generalize home (qi t ((e+(1+j)) % N))=a at *
    generalize (e+(1+j)) % N=c at *
    unfold D at *
    split at hr<;>split at hr<;>split at h3<;>split at hem<;>split<;>omega)
  have h2:=hb (m-1) om
  rw[List.length_map,List.length_range]at this
  omega
end Go.Fx.Ch
namespace Go.Fx.Ch
open Go.Fx.Tryz
set_option linter.all false
section
variable {K V:Type} [DecidableEq K]
def keys(m:List (K × V)):List K:=m.map (·.1)
theorem qu1{m:List (K × V)}{k:K}:k∈keys m↔∃ v,lk m k=some v:=by
 unfold keys
 constructor
 ·intro h
  cases hl:lk m k with
  | some v=>exact⟨v,rfl⟩
  | none=>
   obtain⟨p,hp,rfl⟩:=List.mem_map.1 h
   exact absurd rfl (JP.1 hl p hp)
 ·rintro⟨v,hv⟩
  obtain⟨a,b,rfl,_⟩:=q8D hv
  simp
theorem qDK(m:List (K × V))(f:K->V->V)(k:K):lk (m.map fun p=>(p.1,f p.1 p.2)) k=(lk m k).map (f k):=by
 induction m with
 | nil=>rfl
 | cons p m ih=>
  unfold lk at *
  simp only[List.map_cons,List.find?_cons]
  by_cases h:p.1=k
  ·subst h;simp
  ·have:(p.1==k)=false:=by simpa using h
   rw[this];exact ih
theorem qn4(a b:List (K × V))(k:K):lk (a++b) k=(lk a k).or (lk b k):=by
 unfold lk
 rw[List.find?_append]
 cases h:a.find? fun p=>p.1==k<;>simp
theorem qk8{m:List (K × V)}{k:K}{v u:V}(h:lk m k=some u):pt m k v=m.map fun p=>if p.1=k then(p.1,v)else p:=by unfold pt;rw[h]
theorem qIr(m:List (K × V))(k:K)(v:V)(x:K):lk (pt m k v) x=if x=k then some v else lk m x:=by
 cases h:lk m k with
 | none=>
  rw[JZ h,qn4]
  by_cases hx:x=k
  ·subst hx;rw[h];simp[lk]
  ·rw[if_neg hx]
   have:lk [(k,v)] x=none:=by unfold lk;simp[List.find?_cons,Ne.symm hx]
   rw[this];cases lk m x<;>rfl
 | some u=>
  rw[qk8 h]
  have h1:(m.map fun p=>if p.1=k then(p.1,v)else p)=m.map fun p=>(p.1,(fun a b=>if a=k then v else b) p.1 p.2):=List.map_congr_left fun p _=>by
   by_cases hp:p.1=k<;>simp[hp]
  rw[h1,qDK m (fun a b=>if a=k then v else b) x]
  by_cases hx:x=k
  ·subst hx;rw[h];simp
  ·simp only[if_neg hx];cases lk m x<;>rfl
theorem qIy(m:List (K × V))(k x:K):lk (dl m k) x=if x=k then none else lk m x:=by
 induction m with
 | nil=>unfold dl lk;simp
 | cons p m ih=>
  unfold dl at *
  rw[List.filter_cons]
  by_cases hp:p.1=k
  ·rw[if_neg (by simp[hp]),ih]
   by_cases hx:x=k
   ·rw[if_pos hx,if_pos hx]
   ·rw[if_neg hx,if_neg hx]
    unfold lk
    rw[List.find?_cons]
    have:(p.1==x)=false:=by simpa [hp]using Ne.symm hx
    rw[this]
  ·rw[if_pos (by simp[hp])]
   unfold lk at *
   rw[List.find?_cons,List.find?_cons]
   by_cases hx:p.1=x
   ·have:(p.1==x)=true:=by simpa using hx
    rw[this]
    rw[if_neg (by rw[<-hx];exact hp)]
   ·have:(p.1==x)=false:=by simpa using hx
    rw[this]
    exact ih
theorem qB1{m:List (K × V)}{k:K}(v:V)(h:k∈keys m):keys (pt m k v)=keys m:=by
 obtain⟨u,hu⟩:=qu1.1 h
 rw[qk8 hu]
 unfold keys
 rw[List.map_map]
 exact List.map_congr_left fun p _=>by simp only[Function.comp_apply];split<;>rfl
theorem qau{m:List (K × V)}{k:K}(v:V)(h:k ∉ keys m):keys (pt m k v)=keys m++[k]:=by
 have:lk m k=none:=by
  cases hl:lk m k with
  | none=>rfl
  | some u=>exact absurd (qu1.2 ⟨u,hl⟩) h
 rw[JZ this]
 unfold keys
 rw[List.map_append];rfl
theorem qjZ(m:List (K × V))(k:K):keys (dl m k)=(keys m).filter fun x=>x≠k:=by
 unfold keys dl
 rw[List.filter_map];rfl
theorem zf(m:List (K × V)):(keys m).length=m.length:=List.length_map _
end
theorem Vx(m:List (Int × TR))(k:Int)(t:TR)(x:Int):qk (pt m k t) x=if x=k then t else qk m x:=by
 unfold qk;rw[qIr];split<;>rfl
theorem Ze(m:List (Int × TR)){k x:Int}(h:x≠k):qk (dl m k) x=qk m x:=by
 unfold qk;rw[qIy,if_neg h]
theorem q5b(m:List (Int × TR))(p:Int × Int)(c x:Int):qk (yJ m p c) x=if x=p.1 then { qk m x with code:=QY (qk m x).code p.2 c }else qk m x:=by
 unfold yJ;rw[Vx];split
 ·rename_i h;rw[h]
 ·rfl
theorem qhd{m:List (Int × TR)}{p:Int × Int}(c:Int)(h:p.1∈keys m):keys (yJ m p c)=keys m:=qB1 _ h
theorem qdk(bs:List Int)(slot c:Int):(QY bs slot c).length<=bs.length:=by
 unfold QY
 split
 ·exact Nat.zero_le _
 ·rename_i l hl
  split
  ·rename_i ha
   obtain⟨e,he,hs⟩:=List.any_eq_true.1 ha
   obtain⟨al,i,p,n,h1,_,h3,h4,h5,rfl⟩:=q8a hl he
   have hn:=Jp h4 h3
   have:slot=((p.2+n:Nat):Int)-4:=by simp at hs;omega
   unfold jh le4
   simp only[List.length_append,List.length_take,List.length_cons,List.length_nil,List.length_drop]
   omega
  ·exact Nat.zero_le _
def jU(k:Nat)(items:List (Int × TR))(id:Int):Nat:=(zk k (qk items id).at_).toNat
theorem jx{k:Nat}(h4:4<=k)(h16:k<=16)(a:Int):0<=zk k a/\zk k a<2 ^ k:=by
 unfold zk
 have h0:0<=(a / 4*2654435761) % 4294967296:=Int.emod_nonneg _ (by decide)
 have h1:(a / 4*2654435761) % 4294967296<4294967296:=Int.emod_lt_of_pos _ (by decide)
 have hp:(0:Int)<2 ^ (32-k):=Int.pow_pos (by decide)
 refine⟨Int.ediv_nonneg h0 om,Int.ediv_lt_of_lt_mul hp ?_⟩
 have:(2:Int) ^ k*2 ^ (32-k)=4294967296:=by rw[<-Int.pow_add,show k+(32-k)=32 by omega];decide
 omega
theorem QJ{k:Nat}(h4:4<=k)(h16:k<=16)(items:List (Int × TR))(id:Int):jU k items id<2 ^ k:=by
 have:=jx h4 h16 (qk items id).at_
 have h2:((2:Int) ^ k)=((2 ^ k:Nat):Int):=by rw[Int.natCast_pow];rfl
 unfold jU;omega
theorem qr1{k:Nat}(h4:4<=k)(h16:k<=16)(items:List (Int × TR))(id:Int):zk k (qk items id).at_=(jU k items id:Int):=by
 have:=jx h4 h16 (qk items id).at_
 unfold jU;omega
theorem q1H{k:Nat}(h4:4<=k):2 ^ k / 4*3<2 ^ k/\0<2 ^ k / 4*3:=by
 have:(2:Nat) ^ k=4*2 ^ (k-2):=by rw[show(4:Nat)=2 ^ 2 by rfl,<-Nat.pow_add,show 2+(k-2)=k by omega]
 have h2:0<(2:Nat) ^ (k-2):=Nat.pow_pos (by decide)
 rw[this];omega
structure zo (s:qf):Prop where
 k4:4<=s.k
 k16:s.k<=16
 nd:(keys s.items).Nodup
 pos:∀ x∈keys s.items,0<x/\x<=s.given
 ats:∀ x∈keys s.items,∀ y∈keys s.items,(qk s.items x).at_=(qk s.items y).at_->x=y
 atw:∀ x∈keys s.items,jm (qk s.items x).at_
 tab:VR (2 ^ s.k) s.table (fun x=>x∈keys s.items) (jU s.k s.items)
 lim:s.items.length<=zJ s
 rows:s.rows.flatten.Perm (keys s.items)
 cur:s.cur<s.rows.length
 rl:s.rows.length<1000000
 ev:0<=s.ev
 dr:0<=s.dr
 sum:s.items.length+s.ev+s.dr<=s.given
 given:s.given<=2147483647
 len:s.len<=1048576
 fill:∀ r∈s.rows,qM s.items r<=s.len
theorem zo.room{s:qf}(h:zo s):∃ e,e<2 ^ s.k/\qi s.table e=0:=by
 refine h.tab.room (L:=keys s.items) (fun x hx=>hx) ?_
 have:=h.lim
 have:=(q1H h.k4).1
 rw[zf];unfold zJ at *;omega
theorem qdr{a b:List (Int × TR)}{l:List Int}(h:∀ x∈l,(qk a x).code.length<=(qk b x).code.length):qM a l<=qM b l:=by
 unfold qM
 induction l with
 | nil=>simp
 | cons x l ih=>
  have:=ih fun y hy=>h y (.tail _ hy)
  have:=h x (.head _)
  simp only[List.map_cons,List.sum_cons];omega
theorem q2k{a:List (Int × TR)}{l:List Int}(p:Int->Bool):qM a (l.filter p)<=qM a l:=by
 unfold qM
 induction l with
 | nil=>simp
 | cons x l ih=>
  rw[List.filter_cons]
  split
  ·simp only[List.map_cons,List.sum_cons];omega
  ·simp only[List.map_cons,List.sum_cons];omega
structure q30 (a b:List (Int × TR)):Prop where
 keys:keys a=keys b
 at_:∀ x,(qk a x).at_=(qk b x).at_
 sp:∀ x,(qk a x).sp=(qk b x).sp
 code:∀ x,(qk a x).code.length<=(qk b x).code.length
theorem q30.refl(a:List (Int × TR)):q30 a a:=⟨rfl,fun _=>rfl,fun _=>rfl,fun _=>Nat.le_refl _⟩
theorem q30.trans{a b c:List (Int × TR)}(h:q30 a b)(g:q30 b c):q30 a c:=
 ⟨h.keys.trans g.keys,fun x=>(h.at_ x).trans (g.at_ x),fun x=>(h.sp x).trans (g.sp x),fun x=>Nat.le_trans (h.code x) (g.code x)⟩
theorem q30.patch{m:List (Int × TR)}{p:Int × Int}(c:Int)(h:p.1∈Ch.keys m):q30 (yJ m p c) m:=by
 refine⟨qhd c h,fun x=>?_,fun x=>?_,fun x=>?_⟩<;>rw[q5b]<;>split
 ·rfl
 ·rfl
 ·rfl
 ·rfl
 ·exact qdk _ _ _
 ·exact Nat.le_refl _
theorem ZH(id:Int):∀ (l:List (Int × Int)) (s:qf),(∀ p∈l,p.1∈keys s.items)->q30 (qN id l s).items s.items/\(qN id l s).table=s.table/\(qN id l s).rows=s.rows
 | [],s,_=>⟨.refl _,rfl,rfl⟩
 | p::l,s,h=>by
  have h1:=q30.patch 0 (h p (.head _))
  have h2:=ZH id l { s with items:=yJ s.items p 0,hold:=yj s.hold p id } fun q hq=>by
   show q.1∈keys (yJ s.items p 0)
   rw[h1.keys];exact h q (.tail _ hq)
  exact⟨h2.1.trans h1,h2.2.1,h2.2.2⟩
theorem ZQ(id:Int):∀ (l:List EX) (s:qf),(qJ id l s).items=s.items/\(qJ id l s).table=s.table/\(qJ id l s).rows=s.rows
 | [],s=>⟨rfl,rfl,rfl⟩
 | x::l,s=>by
  unfold qJ
  have h:=ZQ id l (if x.chain=0 then s else { s with hold:=yj s.hold (id,x.slot) x.chain })
  split
  ·rename_i hc;rw[if_pos hc]at h;exact h
  ·rename_i hc;rw[if_neg hc]at h;exact h
structure qHq (s s':qf) (id:Int):Prop where
 keys:keys s'.items=(keys s.items).filter fun x=>x≠id
 at_:∀ x,x≠id->(qk s'.items x).at_=(qk s.items x).at_
 sp:∀ x,x≠id->(qk s'.items x).sp=(qk s.items x).sp
 code:∀ x,x≠id->(qk s'.items x).code.length<=(qk s.items x).code.length
 rows:s'.rows=s.rows.map fun r=>r.filter fun n=>n≠id
theorem Yv{s:qf}{id:Int}{order:List (Int × Int)}(ho:∀ p∈order,p.1∈keys s.items):qHq s (forget1 order s id) id:=by
 obtain⟨a1,a2,a3⟩:=ZH id order s ho
 obtain⟨b1,b2,b3⟩:=ZQ id (zw (qN id order s).items id) (qN id order s)
 unfold forget1
 dsimp only
 refine⟨?_,fun x hx=>?_,fun x hx=>?_,fun x hx=>?_,?_⟩
 ·show Ch.keys (dl (qJ id _ _).items id)=_
  rw[qjZ,b1,a1.keys]
 ·show(qk (dl (qJ id _ _).items id) x).at_=_
  rw[Ze _ hx,b1];exact a1.at_ x
 ·show(qk (dl (qJ id _ _).items id) x).sp=_
  rw[Ze _ hx,b1];exact a1.sp x
 ·show(qk (dl (qJ id _ _).items id) x).code.length<=_
  rw[Ze _ hx,b1];exact a1.code x
 ·show(qJ id _ _).rows.map _=_
  rw[b3,a3]
theorem q4h(order:List (Int × Int))(s:qf)(id:Int):(forget1 order s id).len=s.len/\(forget1 order s id).k=s.k/\(forget1 order s id).cur=s.cur/\(forget1 order s id).given=s.given/\(forget1 order s id).ev=s.ev/\(forget1 order s id).dr=s.dr/\(forget1 order s id).rows.length=s.rows.length:=by
 have hf:∀ (l:List (Int × Int)) (s:qf),(qN id l s).len=s.len/\(qN id l s).k=s.k/\(qN id l s).cur=s.cur/\(qN id l s).given=s.given/\(qN id l s).ev=s.ev/\(qN id l s).dr=s.dr/\(qN id l s).rows.length=s.rows.length:=by
  intro l
  induction l with
  | nil=>exact fun s=>⟨rfl,rfl,rfl,rfl,rfl,rfl,rfl⟩
  | cons p l ih=>exact fun s=>ih _
 have hd:∀ (l:List EX) (s:qf),(qJ id l s).len=s.len/\(qJ id l s).k=s.k/\(qJ id l s).cur=s.cur/\(qJ id l s).given=s.given/\(qJ id l s).ev=s.ev/\(qJ id l s).dr=s.dr/\(qJ id l s).rows.length=s.rows.length:=by
  intro l
  induction l with
  | nil=>exact fun s=>⟨rfl,rfl,rfl,rfl,rfl,rfl,rfl⟩
  | cons p l ih=>
   intro s
   unfold qJ
   split
   ·exact ih _
   ·exact ih _
 obtain⟨a1,a2,a3,a4,a5,a6,a7⟩:=hf order s
 obtain⟨b1,b2,b3,b4,b5,b6,b7⟩:=hd (zw (qN id order s).items id) (qN id order s)
 refine⟨b1.trans a1,b2.trans a2,b3.trans a3,b4.trans a4,b5.trans a5,b6.trans a6,?_⟩
 show(List.map _ (qJ id _ _).rows).length=_
 rw[List.length_map,b7,a7]
theorem q0C{l:List (List Int)}(p:Int->Bool):(l.map fun r=>r.filter p).flatten=l.flatten.filter p:=by
 induction l with
 | nil=>rfl
 | cons r l ih=>simp only[List.map_cons,List.flatten_cons,List.filter_append,ih]
theorem zo.forget1{s:qf}{id:Int}{order:List (Int × Int)}(h:zo s)(hid:id∈keys s.items)(ho:∀ p∈order,p.1∈keys s.items):zo (forget1 order s id)/\(Ch.forget1 order s id).items.length+1=s.items.length:=by
 have L:=Yv (id:=id) ho
 obtain⟨c1,c2,c3,c4,c5,c6,c7⟩:=q4h order s id
 have hlen:(Ch.forget1 order s id).items.length+1=s.items.length:=by
  rw[<-zf,<-zf s.items,L.keys]
  have:=h.nd
  have h1:(keys s.items).filter (fun x=>x≠id)=(keys s.items).erase id:=by rw[List.Nodup.erase_eq_filter this];exact List.filter_congr fun x _=>by by_cases hx:x=id<;>simp[hx]
  rw[h1,List.length_erase_of_mem hid]
  have:=List.length_pos_of_mem hid
  omega
 have hk:∀ x,x∈keys (Ch.forget1 order s id).items↔x∈keys s.items/\x≠id:=fun x=>by rw[L.keys];simp
 have htab:(Ch.forget1 order s id).table=zv s id/\True:=⟨by
  obtain⟨a1,a2,a3⟩:=ZH id order s ho
  obtain⟨b1,b2,b3⟩:=ZQ id (zw (qN id order s).items id) (qN id order s)
  have hkk:(qJ id (zw (qN id order s).items id) (qN id order s)).k=s.k:=c2
  show zv (qJ id _ _) id=_
  unfold zv
  rw[b1,b2,a2,hkk,a1.at_]
  have hg:∀ (f n:Nat) (o:Option Nat) (t:List Int),y5 (qN id order s).items s.k id (zk s.k (qk s.items id).at_).toNat f n o t=y5 s.items s.k id (zk s.k (qk s.items id).at_).toNat f n o t:=by
   intro f
   induction f with
   | zero=>intro n o t;cases o<;>rfl
   | succ f ih=>
    intro n o t
    cases o with
    | none=>unfold y5;rw[ih,ih]
    | some hh=>unfold y5;rw[a1.at_,ih,ih]
  exact hg _ _ _ _,trivial⟩
 refine⟨⟨by rw[c2];exact h.k4,by rw[c2];exact h.k16,?_,?_,?_,?_,?_,?_,?_,by rw[c3,c7];exact h.cur,by rw[c7];exact h.rl,by rw[c5];exact h.ev,by rw[c6];exact h.dr,?_,by rw[c4];exact h.given,by rw[c1];exact h.len,?_⟩,hlen⟩
 ·rw[L.keys];exact h.nd.filter _
 ·intro x hx;rw[c4];exact h.pos x ((hk x).1 hx).1
 ·intro x hx y hy he
  have hx':=(hk x).1 hx
  have hy':=(hk y).1 hy
  rw[L.at_ x hx'.2,L.at_ y hy'.2]at he
  exact h.ats x hx'.1 y hy'.1 he
 ·intro x hx
  have hx':=(hk x).1 hx
  rw[L.at_ x hx'.2];exact h.atw x hx'.1
 ·rw[htab.1,c2]
  obtain⟨e,he,he0⟩:=h.room
  have:=h.tab.remove (items:=s.items) (fun x _=>⟨qr1 h.k4 h.k16 _ _,QJ h.k4 h.k16 _ _⟩) hid he he0
  refine VR.congr this (fun x=>(hk x).symm) fun x hx=>?_
  unfold jU;rw[L.at_ x hx.2]
 ·have:=h.lim;unfold zJ at *;rw[c2];omega
 ·rw[L.rows,L.keys,q0C]
  exact h.rows.filter _
 ·have:=h.sum;rw[c4,c5,c6];omega
 ·intro r hr
  rw[L.rows]at hr
  obtain⟨r0,hr0,rfl⟩:=List.mem_map.1 hr
  rw[c1]
  refine Int.le_trans ?_ (h.fill r0 hr0)
  refine Int.le_trans (qdr fun x hx=>L.code x ?_) (q2k _)
  have:=(List.mem_filter.1 hx).2
  simpa using this
structure Ve (s s':qf) (l:List Int):Prop where
 keys:keys s'.items=(keys s.items).filter fun x=>x ∉ l
 at_:∀ x,x ∉ l->(qk s'.items x).at_=(qk s.items x).at_
 sp:∀ x,x ∉ l->(qk s'.items x).sp=(qk s.items x).sp
 rows:s'.rows=s.rows.map fun r=>r.filter fun n=>n ∉ l
theorem Ve.nil(s:qf):Ve s s []:=⟨(List.filter_eq_self.2 fun x _=>by simp).symm,fun _ _=>rfl,fun _ _=>rfl,by
 rw[List.map_congr_left (g:=id) fun r _=>by simp];simp⟩
theorem Ve.cons{s s1 s':qf}{id:Int}{l:List Int}(h:qHq s s1 id)(g:Ve s1 s' l):Ve s s' (id::l):=by
 refine⟨?_,fun x hx=>?_,fun x hx=>?_,?_⟩
 ·rw[g.keys,h.keys,List.filter_filter]
  exact List.filter_congr fun x _=>by by_cases h1:x=id<;>by_cases h2:x∈l<;>simp[h1,h2]
 ·rw[List.mem_cons,not_or]at hx
  exact(g.at_ x hx.2).trans (h.at_ x hx.1)
 ·rw[List.mem_cons,not_or]at hx
  exact(g.sp x hx.2).trans (h.sp x hx.1)
 ·rw[g.rows,h.rows,List.map_map]
  refine List.map_congr_left fun r _=>?_
  simp only[Function.comp_apply]
  rw[List.filter_filter]
  exact List.filter_congr fun x _=>by by_cases h1:x=id<;>by_cases h2:x∈l<;>simp[h1,h2]
theorem Ve.len{s s':qf}{l:List Int}(h:Ve s s' l)(hn:(Ch.keys s.items).Nodup)(hl:l.Nodup)(hs:∀ x∈l,x∈Ch.keys s.items):s'.items.length+l.length=s.items.length:=by
 rw[<-zf s'.items,<-zf s.items,h.keys]
 have h1:=(List.filter_append_perm (fun x=>decide (x ∉ l)) (Ch.keys s.items)).length_eq
 rw[List.length_append]at h1
 have h2:(((Ch.keys s.items).filter fun x=>!decide (x ∉ l)).Perm l):=by
  refine(List.perm_ext_iff_of_nodup (hn.filter _) hl).2 fun x=>?_
  rw[List.mem_filter]
  constructor
  ·rintro⟨_,h⟩;simpa using h
  ·intro h;exact⟨hs x h,by simpa using h⟩
 rw[<-h1,h2.length_eq]
structure q7Y (Q:qf->Prop):Prop where
 places:∀ s id,zo s->Q s->∀ p∈(lk s.hold id).getD [],p.1∈keys s.items
 forget:∀ s id order,zo s->Q s->id∈keys s.items->order.Perm ((lk s.hold id).getD [])->Q (forget1 order s id)
 cur:∀ s c,Q s->Q { s with cur:=c }
 ev:∀ s e,Q s->Q { s with ev:=e }
variable {Q:qf->Prop}
theorem zm.keep(hQ:q7Y Q){s s':qf}{l:List Int}(h:zm s l s'):zo s->Q s->l.Nodup->(∀ x∈l,x∈keys s.items)->zo s'/\Q s'/\Ve s s' l:=by
 induction h with
 | nil s=>exact fun hb hq _ _=>⟨hb,hq,.nil s⟩
 | @cons s s' id l order ho _ ih=>
  intro hb hq hn hs
  have hn:=List.nodup_cons.1 hn
  have hid:=hs id (.head _)
  have hp:∀ p∈order,p.1∈keys s.items:=fun p hp=>hQ.places s id hb hq p (ho.mem_iff.1 hp)
  have hL:=Yv (id:=id) hp
  obtain⟨a,b,c⟩:=ih (hb.forget1 hid hp).1 (hQ.forget s id order hb hq hid ho) hn.2 fun x hx=>by
   rw[hL.keys]
   exact List.mem_filter.2 ⟨hs x (.tail _ hx),by simp;rintro rfl;exact hn.1 hx⟩
  exact⟨a,b,.cons hL c⟩
theorem zo.row{s:qf}(h:zo s){r:List Int}(hr:r∈s.rows):r.Nodup/\∀ x∈r,x∈keys s.items:=by
 have hn:s.rows.flatten.Nodup:=h.rows.nodup_iff.2 h.nd
 refine⟨?_,fun x hx=>h.rows.mem_iff.1 (List.mem_flatten.2 ⟨r,hr,hx⟩)⟩
 exact(List.pairwise_flatten.1 hn).1 r hr
theorem jd(l:List Int):(yc l).Perm l:=List.mergeSort_perm l _
theorem qxb{s:qf}(h:zo s):(yf s).Nodup/\(∀ x∈yf s,x∈keys s.items)/\s.rows[s.cur]?=some (s.rows[s.cur]'h.cur)/\(yf s).Perm (s.rows[s.cur]'h.cur):=by
 have e:s.rows[s.cur]?=some (s.rows[s.cur]'h.cur):=List.getElem?_eq_getElem h.cur
 have hp:(yf s).Perm (s.rows[s.cur]'h.cur):=by unfold yf;rw[e];exact jd _
 obtain⟨h1,h2⟩:=h.row (List.getElem_mem h.cur)
 exact⟨hp.nodup_iff.2 h1,fun x hx=>h2 x (hp.mem_iff.1 hx),e,hp⟩
theorem zo.setCur{s:qf}(h:zo s){c:Nat}(hc:c<s.rows.length):zo { s with cur:=c }:=
 ⟨h.k4,h.k16,h.nd,h.pos,h.ats,h.atw,h.tab,h.lim,h.rows,hc,h.rl,h.ev,h.dr,h.sum,h.given,h.len,h.fill⟩
theorem zo.next{s:qf}(h:zo s):zo (qF s):=h.setCur (Nat.mod_lt _ (by have:=h.cur;omega))
theorem zo.setEv{s:qf}(h:zo s){e:Int}(h0:0<=e)(hs:s.items.length+e+s.dr<=s.given):zo { s with ev:=e }:=
 ⟨h.k4,h.k16,h.nd,h.pos,h.ats,h.atw,h.tab,h.lim,h.rows,h.cur,h.rl,h0,h.dr,hs,h.given,h.len,h.fill⟩
theorem zo.setDr{s:qf}(h:zo s){e:Int}(h0:0<=e)(hs:s.items.length+s.ev+e<=s.given):zo { s with dr:=e }:=
 ⟨h.k4,h.k16,h.nd,h.pos,h.ats,h.atw,h.tab,h.lim,h.rows,h.cur,h.rl,h.ev,h0,hs,h.given,h.len,h.fill⟩
theorem zo.few{s:qf}(h:zo s):s.items.length<60000:=by
 have h1:=h.lim
 have h2:(2:Nat) ^ s.k<=2 ^ 16:=Nat.pow_le_pow_right (by decide) h.k16
 unfold zJ at h1
 omega
theorem zo.rowLen{s:qf}(h:zo s){r:List Int}(hr:r∈s.rows):r.length<=s.items.length:=by
 obtain⟨h1,h2⟩:=h.row hr
 have:=q1C h1 h2
 rw[zf]at this;exact this
theorem zo.fit{s:qf}(h:zo s):Fit s:=by
 have hf:=h.few
 refine⟨fun r hr=>by have:=h.rowLen hr;omega,h.ev,?_,by omega,fun x hx=>?_⟩
 ·have:=h.sum;have:=h.given;have:=h.dr;omega
 ·obtain⟨i,hi,rfl⟩:=List.mem_iff_getElem.1 hx
  have hs:qi s.table i=s.table[i]:=by unfold qi;rw[List.getElem?_eq_getElem hi];rfl
  by_cases h0:s.table[i]=0
  ·rw[h0];exact q2Y
  ·have:=h.pos _ (by have:=h.tab.mem i (by rw[<-h.tab.len];exact hi) (by rw[hs];exact h0);rw[hs]at this;exact this)
   have:=h.given
   exact⟨by omega,by omega⟩
theorem qtn{s:qf}(h:zo s)(hr:∀ r∈s.rows,r=[]):s.items=[]:=by
 have h1:s.rows.flatten=[]:=List.flatten_eq_nil_iff.2 hr
 have h2:=h.rows.length_eq
 rw[h1,zf]at h2
 exact List.length_eq_zero_iff.1 h2.symm
theorem zm.round(hQ:q7Y Q){s s2:qf}(hb:zo s)(hq:Q s)(h:zm (qF s) (yf (qF s)) s2) :
  zo { s2 with ev:=s2.ev+(yf (qF s)).length }/\Q { s2 with ev:=s2.ev+(yf (qF s)).length }/\Ve s s2 (yf (qF s))/\s2.items.length+(yf (qF s)).length=s.items.length/\
  s2.rows[(s.cur+1) % s.rows.length]?=some []:=by
 have hn:=hb.next
 obtain⟨r1,r2,r3,r4⟩:=qxb hn
 obtain⟨a,b,c⟩:=h.keep hQ hn (hQ.cur s _ hq) r1 r2
 have hl:=c.len hn.nd r1 r2
 have hc:=h.conf
 have hl':s2.items.length+(yf (qF s)).length=s.items.length:=hl
 refine⟨a.setEv ?_ ?_,hQ.ev _ _ b,⟨c.keys,c.at_,c.sp,c.rows⟩,hl',?_⟩
 ·have:=a.ev;omega
 ·have h1:=hb.sum
  have e1:s2.ev=s.ev:=hc.2.2.2.2.1
  have e2:s2.dr=s.dr:=hc.2.2.2.2.2.1
  have e3:s2.given=s.given:=hc.2.2.2.1
  rw[e1,e2,e3];omega
 ·have e:s2.rows=s.rows.map fun r=>r.filter fun n=>n ∉ yf (qF s):=c.rows
  have r3':s.rows[(s.cur+1) % s.rows.length]?=some ((qF s).rows[(qF s).cur]'hn.cur):=r3
  rw[e,List.getElem?_map,r3',Option.map_some]
  congr 1
  refine List.filter_eq_nil_iff.2 fun x hx=>?_
  have:=r4.mem_iff.2 hx
  simp[this]
theorem EvR.of(hQ:q7Y Q){n:Nat}:∀ (m g:Nat) (s:qf),zo s->Q s->(n:Int)<=s.len->m<=s.rows.length->(∀ i,m<=i->i<s.rows.length->s.rows[(s.cur+1+i) % s.rows.length]?=some [])->g+s.items.length<1000000->EvR n m g s
 | 0,g,s,hb,hq,hn,_,he,hg=>by
  refine⟨hb.fit,by omega,?_⟩
  have hcur:=hb.cur
  have hr:∀ r∈s.rows,r=[]:=fun r hr=>by
   obtain⟨j,hj,rfl⟩:=List.mem_iff_getElem.1 hr
   have hR:s.rows.length≠0:=by omega
   have hc:(s.cur+1) % s.rows.length<s.rows.length:=Nat.mod_lt _ om
   have h1:=he (D s.rows.length ((s.cur+1) % s.rows.length) j) (Nat.zero_le _) (q5W hc hj)
   have h2:(s.cur+1+D s.rows.length ((s.cur+1) % s.rows.length) j) % s.rows.length=j:=by
    rw[<-Nat.mod_add_mod];exact qfk hc hj
   rw[h2,List.getElem?_eq_getElem hj]at h1
   exact Option.some.inj h1
  have hi:=qtn hb hr
  have hf:qZ s s.cur=0:=by
   unfold qZ
   rw[List.getElem?_eq_getElem hcur,hr _ (List.getElem_mem hcur)];rfl
  unfold y7
  rw[hf,hi]
  have:=(q1H hb.k4).2
  simp only[List.length_nil,Bool.or_eq_false_iff,decide_eq_false_iff_not]
  unfold zJ
  exact⟨by omega,by omega⟩
 | m+1,g,s,hb,hq,hn,hm,he,hg=>by
  refine⟨hb.fit,by omega,fun _ s2 hF=>?_⟩
  obtain⟨a,b,c,d,e⟩:=hF.round hQ hb hq
  have hc:=hF.conf
  have hR:s2.rows.length=s.rows.length:=hc.2.2.2.2.2.2
  have hcu:s2.cur=(s.cur+1) % s.rows.length:=hc.2.2.1
  refine EvR.of hQ m _ _ a b ?_ ?_ ?_ ?_
  ·show(n:Int)<=s2.len
   rw[hc.1];exact hn
  ·show m<=s2.rows.length
   omega
  ·intro i h1 h2
   show s2.rows[(s2.cur+1+i) % s2.rows.length]?=some []
   have h2':i<s.rows.length:=by rw[<-hR];exact h2
   rw[hR,hcu]
   have hmod:((s.cur+1) % s.rows.length+1+i) % s.rows.length=(s.cur+1+(i+1)) % s.rows.length:=by
    rw[Nat.add_assoc,Nat.mod_add_mod,Nat.add_comm 1 i]
   rw[hmod]
   by_cases hi:i+1<s.rows.length
   ·have h3:=he (i+1) om hi
    rw[c.rows,List.getElem?_map,h3];rfl
   ·have:i+1=s.rows.length:=by omega
    rw[this,Nat.add_mod_right]
    exact e
  ·show g+_+s2.items.length<_
   omega
theorem zo.evR(hQ:q7Y Q){n:Nat}{s:qf}(hb:zo s)(hq:Q s)(hn:(n:Int)<=s.len):EvR n s.rows.length 0 s:=
 EvR.of hQ _ 0 s hb hq hn (Nat.le_refl _) (fun i h1 h2=>by omega) (by have:=hb.few;omega)
theorem q32{a b:List (Int × TR)}{l:List Int}(h:∀ x∈l,qk a x=qk b x):qM a l=qM b l:=by
 unfold qM
 rw[List.map_congr_left fun x hx=>by rw[h x hx]]
theorem q1h{l:List (List Int)}{i:Nat}(hi:i<l.length)(x:Int):(l.modify i fun r=>r++[x]).flatten.Perm (l.flatten++[x]):=by
 induction l generalizing i with
 | nil=>simp at hi
 | cons r l ih=>
  cases i with
  | zero=>
   simp only[List.modify_zero_cons,List.flatten_cons,List.append_assoc]
   exact List.Perm.append_left r (List.perm_append_comm)
  | succ i=>
   simp only[List.modify_succ_cons,List.flatten_cons,List.append_assoc]
   exact List.Perm.append_left r (ih (by simpa using hi))
theorem q2L(s:qf)(t:TR):(zS s t).items=pt s.items (s.given+1) t:=rfl
theorem zo.add{s:qf}{t:TR}(h:zo s)(hf:y7 s t.code.length=false)(ha:jm t.at_)(hd:∀ x∈keys s.items,(qk s.items x).at_≠t.at_)(hg:s.given<2147483647) :
  zo (zS s t)/\keys (zS s t).items=keys s.items++[s.given+1]/\(∀ x∈keys s.items,qk (zS s t).items x=qk s.items x)/\qk (zS s t).items (s.given+1)=t/\s.given+1 ∉ keys s.items:=by
 have hnew:s.given+1 ∉ keys s.items:=fun hh=>by have:=(h.pos _ hh).2;omega
 have hk:keys (zS s t).items=keys s.items++[s.given+1]:=qau _ hnew
 have hne:∀ x∈keys s.items,x≠s.given+1:=fun x hx hh=>hnew (hh▸hx)
 have hold:∀ x∈keys s.items,qk (zS s t).items x=qk s.items x:=fun x hx=>by
  rw[q2L,Vx,if_neg (hne x hx)]
 have hnw:qk (zS s t).items (s.given+1)=t:=by rw[q2L,Vx,if_pos rfl]
 have hmem:∀ x,x∈keys (zS s t).items↔x∈keys s.items\/x=s.given+1:=fun x=>by rw[hk];simp
 have hg0:0<=s.given:=by have:=h.sum;have:=h.ev;have:=h.dr;omega
 unfold y7 at hf
 simp only[Bool.or_eq_false_iff,decide_eq_false_iff_not]at hf
 refine⟨⟨h.k4,h.k16,?_,?_,?_,?_,?_,?_,?_,?_,?_,h.ev,h.dr,?_,?_,h.len,?_⟩,hk,hold,hnw,hnew⟩
 ·rw[hk]
  exact List.nodup_append.2 ⟨h.nd,by simp,fun a ha b hb=>by rw[List.mem_singleton.1 hb];exact hne a ha⟩
 ·intro x hx
  show 0<x/\x<=s.given+1
  rcases(hmem x).1 hx with hx | rfl
  ·have:=h.pos x hx;omega
  ·omega
 ·intro x hx y hy he
  rcases(hmem x).1 hx with hx | rfl<;>rcases(hmem y).1 hy with hy | rfl
  ·rw[hold x hx,hold y hy]at he;exact h.ats x hx y hy he
  ·rw[hold x hx,hnw]at he;exact absurd he (hd x hx)
  ·rw[hold y hy,hnw]at he;exact absurd he.symm (hd y hy)
  ·rfl
 ·intro x hx
  rcases(hmem x).1 hx with hx | rfl
  ·rw[hold x hx];exact h.atw x hx
  ·rw[hnw];exact ha
 ·obtain⟨e,he,he0⟩:=h.room
  have h0:VR (2 ^ s.k) s.table (fun x=>x∈keys s.items) (jU s.k (zS s t).items):=h.tab.congr (fun _=>Iff.rfl) fun x hx=>by unfold jU;rw[hold x hx]
  have:=h0.insert (id:=s.given+1) hnew om (QJ h.k4 h.k16 _ _) he he0
  exact this.congr (fun x=>(hmem x).symm) fun x _=>rfl
 ·show(zS s t).items.length<=zJ s
  rw[<-zf,hk,List.length_append,zf]
  simp only[List.length_cons,List.length_nil]
  omega
 ·rw[hk]
  exact(q1h h.cur _).trans (h.rows.append_right _)
 ·show s.cur<(s.rows.modify s.cur _).length
  rw[List.length_modify];exact h.cur
 ·show(s.rows.modify s.cur _).length<_
  rw[List.length_modify];exact h.rl
 ·show((zS s t).items.length:Int)+s.ev+s.dr<=s.given+1
  have:=h.sum
  rw[<-zf,hk,List.length_append,zf]
  simp only[List.length_cons,List.length_nil]
  omega
 ·show s.given+1<=_
  omega
 ·intro r hr
  obtain⟨i,hi,hri⟩:=List.mem_iff_getElem?.1 hr |>.imp fun i hi=>(⟨by
   have:=(List.getElem?_eq_some_iff.1 hi).1
   have e:(zS s t).rows.length=s.rows.length:=List.length_modify _ _ _
   omega,hi⟩:i<s.rows.length/\(zS s t).rows[i]?=some r)
  have e:(zS s t).rows[i]?=if s.cur=i then some (s.rows[i]++[s.given+1])else some s.rows[i]:=by
   show(s.rows.modify s.cur _)[i]?=_
   rw[List.getElem?_modify,List.getElem?_eq_getElem hi]
   split<;>rfl
  rw[e]at hri
  have hrow:∀ x∈s.rows[i],qk (zS s t).items x=qk s.items x:=fun x hx=>hold x ((h.row (List.getElem_mem hi)).2 x hx)
  have h1:qM (zS s t).items s.rows[i]=qM s.items s.rows[i]:=q32 hrow
  have h2:=h.fill _ (List.getElem_mem hi)
  show qM _ r<=s.len
  split at hri
  ·rename_i hci
   cases hri
   subst hci
   have h3:qZ s s.cur=qM s.items s.rows[s.cur]:=by unfold qZ qM;rw[List.getElem?_eq_getElem hi];rfl
   have h4:qM (zS s t).items (s.rows[s.cur]++[s.given+1])=qM (zS s t).items s.rows[s.cur]+t.code.length:=by
    unfold qM
    rw[List.map_append,List.sum_append]
    simp[hnw]
   rw[h4,h1,<-h3]
   omega
  ·cases hri
   rw[h1];exact h2
theorem zo.look_some{s:qf}(h:zo s){a x:Int}(hx:x∈keys s.items)(ha:(qk s.items x).at_=a) :
  ∃ i,i<2 ^ s.k/\qi s.table i=x/\(∀ m,m<D (2 ^ s.k) (zk s.k a).toNat i->qi s.table (((zk s.k a).toNat+m) % 2 ^ s.k)≠0)/\qW s a=(x,D (2 ^ s.k) (zk s.k a).toNat i+1):=by
 obtain⟨e,he,he0⟩:=h.room
 have hh:jU s.k s.items x=(zk s.k a).toNat:=by unfold jU;rw[ha]
 exact h.tab.look_some hx (by rw[<-hh];exact QJ h.k4 h.k16 _ _) hh ha (fun y hy hya=>h.ats y hy x hx (hya.trans ha.symm)) he he0
theorem zo.look_none{s:qf}(h:zo s){a:Int}(ha:∀ x∈keys s.items,(qk s.items x).at_≠a) :
  ∃ r,r<2 ^ s.k/\qi s.table (((zk s.k a).toNat+r) % 2 ^ s.k)=0/\(∀ m,m<r->qi s.table (((zk s.k a).toNat+m) % 2 ^ s.k)≠0)/\qW s a=(0,r+1):=by
 obtain⟨e,he,he0⟩:=h.room
 have hf:(zk s.k a).toNat<2 ^ s.k:=by
  have:=jx h.k4 h.k16 a
  have h2:((2:Int) ^ s.k)=((2 ^ s.k:Nat):Int):=by rw[Int.natCast_pow];rfl
  omega
 obtain⟨r,hr,hr1,hr2⟩:=q8W (p:=fun m=>qi s.table (((zk s.k a).toNat+m) % 2 ^ s.k)=0) (D (2 ^ s.k) (zk s.k a).toNat e) (by show qi _ _=0;rw[qfk hf he];exact he0)
 have hlt:=q5W hf he
 exact⟨r,by omega,hr,hr2,h.tab.look_none hf ha om hr hr2⟩
theorem zo.look_iff{s:qf}(h:zo s)(a:Int):(qW s a).1≠0↔∃ x∈keys s.items,(qk s.items x).at_=a:=by
 constructor
 ·intro h0
  refine Classical.byContradiction fun hno=>h0 ?_
  obtain⟨r,_,_,_,e⟩:=h.look_none (a:=a) fun x hx hxa=>hno ⟨x,hx,hxa⟩
  rw[e]
 ·rintro⟨x,hx,hxa⟩
  obtain⟨i,_,_,_,e⟩:=h.look_some hx hxa
  rw[e]
  have:=(h.pos x hx).1
  show x≠0
  omega
theorem zo.probes{s u:qf}(h:zo s)(g:zo u)(hk:s.k=u.k)(hp:((keys s.items).map fun x=>(qk s.items x).at_).Perm ((keys u.items).map fun x=>(qk u.items x).at_)){a:Int}
  (ha:∀ x∈keys s.items,(qk s.items x).at_≠a) (hb:∀ x∈keys u.items,(qk u.items x).at_≠a):qW s a=qW u a:=by
 obtain⟨r,hr,hr0,hrb,e1⟩:=h.look_none ha
 obtain⟨q,hq,hq0,hqb,e2⟩:=g.look_none hb
 rw[e1,e2]
 have hl:∀ {s:qf},zo s->(keys s.items).length<2 ^ s.k:=fun h=>by
  have:=h.lim;have:=(q1H h.k4).1
  rw[zf];unfold zJ at *;omega
 have hcnt:∀ (i b:Nat),((keys s.items).filter fun x=>decide (D (2 ^ s.k) (jU s.k s.items x) i<=b)).length=((keys u.items).filter fun x=>decide (D (2 ^ u.k) (jU u.k u.items x) i<=b)).length:=fun i b=>by
  rw[<-hk]
  have e:∀ (m:List (Int × TR)),((keys m).filter fun x=>decide (D (2 ^ s.k) (jU s.k m x) i<=b)).length=(((keys m).map fun x=>(qk m x).at_).filter fun y=>decide (D (2 ^ s.k) (zk s.k y).toNat i<=b)).length:=fun m=>by
   rw[List.filter_map,List.length_map];rfl
  rw[e,e,(hp.filter _).length_eq]
 have hem:∀ i,i<2 ^ s.k->(qi s.table i=0↔qi u.table i=0):=fun i hi=>by
  rw[h.tab.empty_iff (L:=keys s.items) (fun x=>Iff.rfl) h.nd (hl h) (fun x _=>QJ h.k4 h.k16 _ _) hi,
   g.tab.empty_iff (L:=keys u.items) (fun x=>Iff.rfl) g.nd (hl g) (fun x _=>QJ g.k4 g.k16 _ _) (by rw[<-hk];exact hi),hk]
  refine forall_congr' fun b=>?_
  have:=hcnt i b
  rw[hk]at this
  rw[this]
 have hf:(zk s.k a).toNat<2 ^ s.k:=by
  have:=jx h.k4 h.k16 a
  have h2:((2:Int) ^ s.k)=((2 ^ s.k:Nat):Int):=by rw[Int.natCast_pow];rfl
  omega
 rw[<-hk]at hq hq0 hqb
 have hrq:r=q:=by
  rcases Nat.lt_trichotomy r q with hlt | he | hgt
  ·exact absurd ((hem _ (Zz hf r)).1 hr0) (hqb r hlt)
  ·exact he
  ·exact absurd ((hem _ (Zz hf q)).2 hq0) (hrb q hgt)
 rw[hrq]
end Go.Fx.Ch
namespace Go.Fx.Ch
open Go.Fx.Tryz
set_option linter.all false
set_option maxRecDepth 100000
def c0:List Int:=zj (zl 0 0)
theorem Qb:c0.length=11:=kr
theorem qGS:c0.all (fun b=>decide (0<=b)&&decide (b<256))=true:=kr
theorem qIB:(match zQ c0 with | some l=>l.all (fun e=>decide (e.chain=0)) | none=>false)=true:=kr
theorem qBN:∃ l,zQ c0=some l/\∀ e∈l,e.chain=0:=by
 have h:=qIB
 cases hx:zQ c0 with
 | none=>rw[hx]at h;cases h
 | some l=>
  rw[hx]at h
  exact⟨l,rfl,fun e he=>of_decide_eq_true (List.all_eq_true.1 h e he)⟩
structure Sim (s:qf):Prop where
 hold:s.hold=[]
 code:∀ x∈keys s.items,(qk s.items x).code=c0
theorem q24(id:Int):∀ (l:List EX) (s:qf),(∀ x∈l,x.chain=0)->qJ id l s=s
 | [],s,_=>rfl
 | x::l,s,h=>by
  unfold qJ
  rw[if_pos (h x (.head _))]
  exact q24 id l s fun y hy=>h y (.tail _ hy)
theorem q8P{s:qf}{id:Int}(h:Sim s)(hid:id∈keys s.items):(forget1 [] s id).hold=[]/\(forget1 [] s id).items=dl s.items id:=by
 have hz:qJ id (zw (qN id [] s).items id) (qN id [] s)=s:=by
  show qJ id (zw s.items id) s=s
  refine q24 id _ _ fun x hx=>?_
  unfold zw at hx
  rw[h.code id hid]at hx
  obtain⟨l,hl,hc⟩:=qBN
  rw[hl]at hx
  exact hc x hx
 unfold forget1
 dsimp only
 rw[hz]
 exact⟨h.hold,rfl⟩
theorem q2A:q7Y Sim:=by
 refine⟨fun s id hb hq p hp=>?_,fun s id order hb hq hid ho=>?_,fun s c hq=>⟨hq.hold,hq.code⟩,fun s e hq=>⟨hq.hold,hq.code⟩⟩
 ·rw[hq.hold]at hp
  have:((lk ([]:List (Int × List (Int × Int))) id).getD [])=[]:=rfl
  rw[this]at hp;cases hp
 ·rw[hq.hold]at ho
  have e:order=[]:=List.perm_nil.1 ho
  subst e
  obtain⟨h1,h2⟩:=q8P hq hid
  refine⟨h1,fun x hx=>?_⟩
  rw[h2]at hx ⊢
  rw[qjZ]at hx
  obtain⟨hx,hne⟩:=List.mem_filter.1 hx
  have hne:x≠id:=by simpa using hne
  rw[Ze _ hne]
  exact hq.code x hx
theorem zo.new{n k:Nat}{len:Int}(h1:1<=n)(hn:n<1000000)(h4:4<=k)(h16:k<=16)(hl0:0<=len)(hl:len<=1048576):zo (vl n len k):=by
 have hk:∀ x,¬ x∈keys (vl n len k).items:=fun x hx=>by cases hx
 have hf:(vl n len k).rows.flatten=[]:=List.flatten_eq_nil_iff.2 fun r hr=>(List.mem_replicate.1 hr).2
 refine⟨h4,h16,List.nodup_nil,fun x hx=>absurd hx (hk x),fun x hx=>absurd hx (hk x),fun x hx=>absurd hx (hk x),(VR.empty (2 ^ k) fun _=>0).congr (fun x=>⟨fun h=>h.elim,fun h=>absurd h (hk x)⟩) fun x h=>h.elim,Nat.zero_le _,?_,?_,?_,Int.le_refl _,Int.le_refl _,?_,?_,hl,fun r hr=>?_⟩
 ·rw[hf];exact List.Perm.nil
 ·show 0<(List.replicate n ([]:List Int)).length
  rw[List.length_replicate];omega
 ·show(List.replicate n ([]:List Int)).length<_
  rw[List.length_replicate];omega
 ·show((0:Nat):Int)+0+0<=0
  omega
 ·show(0:Int)<=_
  omega
 ·rw[(List.mem_replicate.1 hr).2]
  exact hl0
theorem qsl(n:Nat)(len:Int)(k:Nat):Sim (vl n len k):=⟨rfl,fun x hx=>by cases hx⟩
theorem qpf{l:List Int}{f:Int->Int}{c:Int}(h:∀ x∈l,f x=c):(l.map f).sum=c*l.length:=by
 induction l with
 | nil=>simp
 | cons x l ih=>
  rw[List.map_cons,List.sum_cons,ih fun y hy=>h y (.tail _ hy),h x (.head _),List.length_cons,Int.natCast_add,Int.mul_add]
  omega
theorem Sim.full{s:qf}(hb:zo s)(hs:Sim s)(hl:s.len=1048576)(h30:s.items.length<30)(hlim:s.items.length<zJ s):y7 s 11=false:=by
 have h1:qZ s s.cur=11*((s.rows[s.cur]'hb.cur).length:Nat):=by
  unfold qZ
  rw[List.getElem?_eq_getElem hb.cur]
  refine qpf fun x hx=>?_
  rw[hs.code x ((hb.row (List.getElem_mem hb.cur)).2 x hx),Qb];rfl
 have h2:=hb.rowLen (List.getElem_mem hb.cur)
 unfold y7
 rw[h1,hl]
 simp only[Bool.or_eq_false_iff,decide_eq_false_iff_not]
 exact⟨by omega,by omega⟩
theorem yH.none'{n:Nat}{s s':qf}{g:List Int}(h:yH n s g s')(hf:y7 s n=false):g=[]/\s'=s:=by
 cases h with
 | done _=>exact⟨rfl,rfl⟩
 | step h _ _=>rw[hf]at h;cases h
theorem Sim.putErr{s:qf}(hb:zo s){a:Int}{sp:List (Int × Int)}(hsp:zE sp=true)(ha:∀ x∈keys s.items,(qk s.items x).at_≠a)(hl:s.len=1048576)(hg:s.given<2147483647):putErr s ⟨a,sp,c0⟩=0:=by
 obtain⟨l,hx,hc⟩:=qBN
 obtain⟨r,_,_,_,hr⟩:=hb.look_none ha
 unfold Ch.putErr
 simp only[hx,hsp,hr,hl,Qb]
 have hany:(l.any fun e=>e.chain != 0)=false:=List.any_eq_false.2 fun e he=>by rw[hc e he];decide
 rw[hany]
 have hg':¬ s.given=2147483647:=by omega
 simp[hg']
theorem Sim.add{s:qf}{t:TR}(hs:Sim s)(ht:t.code=c0)(hk:keys (zS s t).items=keys s.items++[s.given+1])(ho:∀ x∈keys s.items,qk (zS s t).items x=qk s.items x)(hn:qk (zS s t).items (s.given+1)=t):Sim (zS s t):=by
 refine⟨hs.hold,fun x hx=>?_⟩
 rw[hk]at hx
 rcases List.mem_append.1 hx with hx | hx
 ·rw[ho x hx];exact hs.code x hx
 ·rw[List.mem_singleton.1 hx,hn];exact ht
structure YI (s:qf) (B:List Int):Prop where
 base:zo s
 sim:Sim s
 ats:((keys s.items).map fun x=>(qk s.items x).at_).Perm B
 len:s.len=1048576
theorem YI.length{s:qf}{B:List Int}(h:YI s B):s.items.length=B.length:=by
 have:=h.ats.length_eq
 rw[List.length_map,zf]at this;exact this
theorem YI.fresh{s:qf}{B:List Int}(h:YI s B){a:Int}(ha:a ∉ B):∀ x∈keys s.items,(qk s.items x).at_≠a:=fun x hx he=>
 ha (h.ats.mem_iff.1 (List.mem_map.2 ⟨x,hx,he⟩))
theorem YI.put{s:qf}{B:List Int}(h:YI s B){a:Int}{sp:List (Int × Int)}(haw:jm a)(ha:a ∉ B)(h30:B.length<30)(hlim:B.length<zJ s)(hg:s.given<2147483647)(hsp:zE sp=true) :
  putErr s ⟨a,sp,c0⟩=0/\y7 s 11=false/\YI (zS s ⟨a,sp,c0⟩) (B++[a])/\keys (zS s ⟨a,sp,c0⟩).items=keys s.items++[s.given+1]/\(∀ x∈keys s.items,qk (zS s ⟨a,sp,c0⟩).items x=qk s.items x)/\qk (zS s ⟨a,sp,c0⟩).items (s.given+1)=⟨a,sp,c0⟩/\s.given+1 ∉ keys s.items:=by
 have hl:=h.length
 have hf:=Sim.full h.base h.sim h.len om om
 have hc:(TR.mk a sp c0).code.length=11:=Qb
 obtain⟨b1,b2,b3,b4,b5⟩:=h.base.add (t:=⟨a,sp,c0⟩) (by rw[hc];exact hf) haw (h.fresh ha) hg
 refine⟨Sim.putErr h.base hsp (h.fresh ha) h.len hg,hf,⟨b1,h.sim.add rfl b2 b3 b4,?_,h.len⟩,b2,b3,b4,b5⟩
 rw[b2,List.map_append]
 have e:((keys s.items).map fun x=>(qk (zS s ⟨a,sp,c0⟩).items x).at_)=(keys s.items).map fun x=>(qk s.items x).at_:=List.map_congr_left fun x hx=>by rw[b3 x hx]
 rw[e,List.map_cons,b4]
 exact h.ats.append_right _
structure XI (A:Nat->Int) (s:qf) (l:List Nat):Prop where
 y:YI s (l.map A)
 keys:(keys s.items).Perm (l.map fun(i:Nat)=>(i:Int)+1)
 sp:∀ i∈l,(qk s.items ((i:Int)+1)).sp=[(8*(i:Int),1)]
 at_:∀ i∈l,(qk s.items ((i:Int)+1)).at_=A i
theorem qIm{i:Int}:zE [(8*i,1)]=true:=by
 unfold zE
 simp[qBE]
theorem XI.put{A:Nat->Int}{s:qf}{n:Nat}(h:XI A s (List.range n))(hgv:s.given=n)(haw:jm (A n))(ha:∀ i,i<n->A i≠A n)(h30:n<30)(hlim:n<zJ s) :
  putErr s ⟨A n,[(8*(n:Int),1)],c0⟩=0/\y7 s 11=false/\XI A (zS s ⟨A n,[(8*(n:Int),1)],c0⟩) (List.range (n+1))/\(zS s ⟨A n,[(8*(n:Int),1)],c0⟩).given=(n+1:Nat):=by
 have hl:((List.range n).map A).length=n:=by rw[List.length_map,List.length_range]
 obtain⟨p1,p2,p3,p4,p5,p6,p7⟩:=h.y.put (a:=A n) (sp:=[(8*(n:Int),1)]) haw (fun hm=>by
  obtain⟨i,hi,he⟩:=List.mem_map.1 hm
  exact ha i (List.mem_range.1 hi) he) om om om qIm
 refine⟨p1,p2,⟨?_,?_,fun i hi=>?_,fun i hi=>?_⟩,?_⟩
 ·rw[List.range_succ,List.map_append];exact p3
 ·rw[List.range_succ,List.map_append,p4,hgv]
  exact h.keys.append_right _
 ·have hk:∀ j,j<n->(j:Int)+1∈Ch.keys s.items:=fun j hj=>h.keys.mem_iff.2 (List.mem_map.2 ⟨j,List.mem_range.2 hj,rfl⟩)
  by_cases hin:i=n
  ·subst hin
   rw[hgv]at p6;rw[p6]
  ·have hi2:i<n:=by have:=List.mem_range.1 hi;omega
   rw[p5 _ (hk i hi2)];exact h.sp i (List.mem_range.2 hi2)
 ·have hk:∀ j,j<n->(j:Int)+1∈Ch.keys s.items:=fun j hj=>h.keys.mem_iff.2 (List.mem_map.2 ⟨j,List.mem_range.2 hj,rfl⟩)
  by_cases hin:i=n
  ·subst hin
   rw[hgv]at p6;rw[p6]
  ·have hi2:i<n:=by have:=List.mem_range.1 hi;omega
   rw[p5 _ (hk i hi2)];exact h.at_ i (List.mem_range.2 hi2)
 ·show s.given+1=_
  rw[hgv];omega
theorem qEg{i j:Nat}(hi:i<30)(hj:j<30):ZO (8*(i:Int),1) (8*(j:Int),1)=decide (i=j):=by
 have h:∀ i:Nat,i<30->∀ j:Nat,j<30->ZO (8*(i:Int),1) (8*(j:Int),1)=decide (i=j):=by decide
 exact h i hi j hj
theorem XI.drop{A:Nat->Int}{s s':qf}{l:List Nat}{i:Nat}(h:XI A s l)(hn:l.Nodup)(hl:∀ j∈l,j<30)(hi:i<30)(hF:zm s (yN s (8*(i:Int),1)) s') :
  XI A { s' with dr:=s'.dr+(yN s (8*(i:Int),1)).length } (l.filter fun j=>decide (j≠i)):=by
 have hmet:∀ j∈l,yL s (8*(i:Int),1) ((j:Int)+1)=decide (i=j):=fun j hj=>by
  unfold yL
  rw[h.sp j hj,List.any_cons,List.any_nil,Bool.or_false]
  exact qEg hi (hl j hj)
 have hmem:∀ x,x∈yN s (8*(i:Int),1)↔x=(i:Int)+1/\i∈l:=fun x=>by
  unfold yN
  rw[(jd _).mem_iff,List.mem_filter]
  show x∈Ch.keys s.items/\_↔_
  rw[h.keys.mem_iff]
  constructor
  ·rintro⟨hx,hm⟩
   obtain⟨j,hj,rfl⟩:=List.mem_map.1 hx
   rw[hmet j hj]at hm
   have:=of_decide_eq_true hm
   subst this
   exact⟨rfl,hj⟩
  ·rintro⟨rfl,hj⟩
   exact⟨List.mem_map.2 ⟨i,hj,rfl⟩,by rw[hmet i hj];exact decide_eq_true rfl⟩
 have hdn:(yN s (8*(i:Int),1)).Nodup:=(jd _).nodup_iff.2 (h.y.base.nd.filter _)
 have hds:∀ x∈yN s (8*(i:Int),1),x∈Ch.keys s.items:=fun x hx=>by
  obtain⟨rfl,hj⟩:=(hmem x).1 hx
  exact h.keys.mem_iff.2 (List.mem_map.2 ⟨i,hj,rfl⟩)
 obtain⟨b,q,L⟩:=hF.keep q2A h.y.base h.y.sim hdn hds
 have hlen:=L.len h.y.base.nd hdn hds
 have hc:=hF.conf
 have hnot:∀ j∈l,j≠i->(j:Int)+1 ∉ yN s (8*(i:Int),1):=fun j _ hji hm=>by
  have:=((hmem _).1 hm).1
  omega
 have hkeys:(Ch.keys s'.items).Perm ((l.filter fun j=>decide (j≠i)).map fun(j:Nat)=>(j:Int)+1):=by
  rw[L.keys]
  refine(h.keys.filter _).trans ?_
  rw[List.filter_map]
  refine List.Perm.of_eq ?_
  congr 1
  refine List.filter_congr fun j hj=>?_
  simp only[Function.comp_apply]
  by_cases hji:j=i
  ·subst hji
   have h1:¬ ((j:Int)+1 ∉ yN s (8*(j:Int),1)):=fun hx=>hx ((hmem _).2 ⟨rfl,hj⟩)
   have h2:¬ (j≠j):=fun hx=>hx rfl
   rw[decide_eq_false h1,decide_eq_false h2]
  ·rw[decide_eq_true hji,decide_eq_true (hnot j hj hji)]
 have hat:∀ j∈l.filter fun j=>decide (j≠i),(qk s'.items ((j:Int)+1)).at_=A j:=fun j hj=>by
  obtain⟨hj,hji⟩:=List.mem_filter.1 hj
  rw[L.at_ _ (hnot j hj (of_decide_eq_true hji))]
  exact h.at_ j hj
 refine⟨⟨b.setDr ?_ ?_,⟨q.hold,q.code⟩,?_,?_⟩,hkeys,fun j hj=>?_,hat⟩
 ·have:=b.dr;omega
 ·have h1:=h.y.base.sum
  rw[hc.2.2.2.2.1,hc.2.2.2.2.2.1,hc.2.2.2.1];omega
 ·show((Ch.keys s'.items).map _).Perm _
  refine(hkeys.map _).trans (List.Perm.of_eq ?_)
  rw[List.map_map]
  exact List.map_congr_left fun j hj=>hat j hj
 ·show s'.len=_
  rw[hc.1];exact h.y.len
 ·obtain⟨hj,hji⟩:=List.mem_filter.1 hj
  show(qk s'.items _).sp=_
  rw[L.sp _ (hnot j hj (of_decide_eq_true hji))]
  exact h.sp j hj
theorem YI.same{s u:qf}{B C:List Int}(h:YI s B)(g:YI u C)(hp:B.Perm C)(hk:s.k=u.k)(a:Int) :
  ((qW s a).1≠0↔(qW u a).1≠0)/\((qW s a).1=0->qW s a=qW u a)/\s.items.length=u.items.length:=by
 have e:∀ {s:qf} {B:List Int},YI s B->((qW s a).1≠0↔a∈B):=fun {s B} h=>by
  rw[h.base.look_iff a,<-h.ats.mem_iff,List.mem_map]
 have hiff:(qW s a).1≠0↔(qW u a).1≠0:=by rw[e h,e g,hp.mem_iff]
 refine⟨hiff,fun h0=>?_,by rw[h.length,g.length,hp.length_eq]⟩
 have h1:a ∉ B:=fun hm=>(e h).2 hm h0
 exact h.base.probes g.base hk (h.ats.trans (hp.trans g.ats.symm)) (h.fresh h1) (g.fresh fun hm=>h1 (hp.mem_iff.2 hm))
def yP(n t i:Nat):Nat:=n-1-(i+t) % n
theorem q6v{n t i:Nat}(h:0<n):yP n t i<n:=by
 unfold yP
 omega
theorem qaB{n t i j:Nat}(hi:i<n)(hj:j<n)(h:yP n t i=yP n t j):i=j:=by
 unfold yP at h
 have h1:(i+t) % n<n:=Nat.mod_lt _ om
 have h2:(j+t) % n<n:=Nat.mod_lt _ om
 have h3:(i+t) % n=(j+t) % n:=by omega
 have h4:(i+t-(j+t)) % n=0:=Nat.sub_mod_eq_zero_of_mod_eq h3
 have h5:(j+t-(i+t)) % n=0:=Nat.sub_mod_eq_zero_of_mod_eq h3.symm
 rw[Nat.mod_eq_of_lt om]at h4 h5
 omega
theorem qpW{n t j:Nat}(hj:j<n):∃ i,i<n/\yP n t i=j:=by
 refine⟨(n-1-j+(n-t % n)) % n,Nat.mod_lt _ om,?_⟩
 have h1:t % n<n:=Nat.mod_lt _ om
 have h2:=Nat.div_add_mod t n
 have e:n-1-j+(n-t % n)+t=n-1-j+n*(t / n+1):=by rw[Nat.mul_add];omega
 unfold yP
 rw[Nat.mod_add_mod,e,Nat.add_mul_mod_self_left,Nat.mod_eq_of_lt om]
 omega
theorem qoR(n t:Nat):((List.range n).map (yP n t)).Perm (List.range n):=by
 refine(List.perm_ext_iff_of_nodup ?_ List.nodup_range).2 fun j=>?_
 ·exact List.pairwise_map.2 (List.nodup_range.imp_of_mem fun ha hb hab he=>hab (qaB (List.mem_range.1 ha) (List.mem_range.1 hb) he))
 ·rw[List.mem_map,List.mem_range]
  constructor
  ·rintro⟨i,hi,rfl⟩
   exact q6v (by have:=List.mem_range.1 hi;omega)
  ·intro hj
   obtain⟨i,hi,he⟩:=qpW (t:=t) hj
   exact⟨i,List.mem_range.2 hi,he⟩
def yl(n t:Nat)(kept:Nat->Bool)(m:Nat):List Nat:=((List.range m).map (yP n t)).filter kept
theorem qhO(n t:Nat)(kept:Nat->Bool)(m:Nat):yl n t kept (m+1)=if kept (yP n t m)=true then yl n t kept m++[yP n t m]else yl n t kept m:=by
 unfold yl
 rw[List.range_succ,List.map_append,List.filter_append,List.map_cons,List.map_nil,List.filter_cons,List.filter_nil]
 split
 ·rfl
 ·rw[List.append_nil]
theorem qxJ(n t:Nat)(kept:Nat->Bool):(yl n t kept n).Perm ((List.range n).filter kept):=(qoR n t).filter _
theorem qCU{n t:Nat}{kept:Nat->Bool}{m:Nat}:(yl n t kept m).length<=m:=by
 unfold yl
 refine Nat.le_trans (List.length_filter_le _ _) ?_
 rw[List.length_map,List.length_range];exact Nat.le_refl _
theorem qEK{n t:Nat}{kept:Nat->Bool}{m:Nat}(hm:m<n):yP n t m ∉ yl n t kept m:=fun h=>by
 obtain⟨i,hi,he⟩:=List.mem_map.1 (List.mem_filter.1 h).1
 have:=List.mem_range.1 hi
 have:=qaB om hm he
 omega
theorem qHa{n t:Nat}{kept:Nat->Bool}{m:Nat}(hm:m<=n):∀ i∈yl n t kept m,i<n:=fun i h=>by
 obtain⟨j,hj,rfl⟩:=List.mem_map.1 (List.mem_filter.1 h).1
 exact q6v (by have:=List.mem_range.1 hj;omega)
def xl(n:Nat)(kept:Nat->Bool)(m:Nat):List Nat:=(List.range n).filter fun i=>decide (m<=i)||kept i
theorem qwe(n:Nat)(kept:Nat->Bool):xl n kept 0=List.range n:=List.filter_eq_self.2 fun i _=>by simp
theorem qCW{n:Nat}{kept:Nat->Bool}:xl n kept n=(List.range n).filter kept:=List.filter_congr fun i hi=>by
 have:=List.mem_range.1 hi
 rw[decide_eq_false om,Bool.false_or]
theorem qwN{n:Nat}{kept:Nat->Bool}{m:Nat}(h:kept m=true):xl n kept (m+1)=xl n kept m:=List.filter_congr fun i _=>by
 by_cases hi:i=m
 ·subst hi;rw[h,Bool.or_true,Bool.or_true]
 ·have:decide (m+1<=i)=decide (m<=i):=by
   by_cases hm:m<=i
   ·rw[decide_eq_true hm,decide_eq_true om]
   ·rw[decide_eq_false hm,decide_eq_false om]
  rw[this]
theorem qzs{n:Nat}{kept:Nat->Bool}{m:Nat}(h:kept m=false):xl n kept (m+1)=(xl n kept m).filter fun j=>decide (j≠m):=by
 unfold xl
 rw[List.filter_filter]
 refine List.filter_congr fun i _=>?_
 by_cases hi:i=m
 ·subst hi
  rw[h,decide_eq_false om,Bool.or_false,decide_eq_false (by simp),Bool.false_and]
 ·have:decide (m+1<=i)=decide (m<=i):=by
   by_cases hm:m<=i
   ·rw[decide_eq_true hm,decide_eq_true om]
   ·rw[decide_eq_false hm,decide_eq_false om]
  rw[this,decide_eq_true hi,Bool.true_and]
theorem qsg{n:Nat}{kept:Nat->Bool}{m:Nat}:(xl n kept m).Nodup:=List.nodup_range.filter _
theorem qH5{n:Nat}{kept:Nat->Bool}{m:Nat}:∀ i∈xl n kept m,i<n:=fun i h=>List.mem_range.1 (List.mem_filter.1 h).1
end Go.Fx.Ch
namespace Go.Fx.Tryz
set_option maxRecDepth 100000
open Go Go.Fx Go.Proofs
def c3:=ql Tryz.f3
def rs3:=Tryz.f3.results.toList
abbrev qY K:=qr P rs3 K
def f3 a b c d e f g h i w K:=CS P c3 none [10] [10] (qY K) (qw 210 [(Value.int .u8 a),(VS b c d),(VS e f g),(Value.int .u8 h),(Value.int .u32 i)]) w
def qC2 a b c d e f g h i w K:=SC c3 1 [10] [10] (qY K) 210 [(0,Value.int .u8 a),(1,VS b c d),(2,VS e f g),(3,Value.int .u8 h),(4,Value.int .u32 i)] w
abbrev qIh K:=kq c3 1 [10] [10] (qY K)
def qBY a b c d e f g h i j w K:=SC c3 3 [10] [10] (qY K) 210 [(10,VB false),(7,VQ a),(0,Value.int .u8 b),(1,VS c d e),(2,VS f g h),(3,Value.int .u8 i),(4,Value.int .u32 j)] w
abbrev qBK K:=kq c3 3 [10] [10] (qY K)
abbrev qHu K:=kq c3 6 [1,10,3,4,7,0] [10] (qBK K)
def qBM a b c d f g h i w K:=SG c3 7 [10] [10] (qY K) 210 [(1,VS a b c),(10,VB d),(3,Value.int .u8 f),(4,Value.int .u32 g),(7,VQ h),(0,Value.int .u8 i)] w
abbrev qIb K:=kq c3 7 [10] [10] (qY K)
def qBU a b c d e f g h i j k l m w K:=SC c3 15 [10] [10] (qY K) 210 [(11,VQ a),(38,Value.agg b),(37,VI c),(36,Value.int .u8 d),(35,Value.int .u8 e),(1,VS f g h),(10,VB i),(3,Value.int .u8 j),(4,Value.int .u32 k),(7,VQ l),(0,Value.int .u8 m)] w
abbrev qH4 K:=kq c3 15 [10] [10] (qY K)
def qC8 a b c d e f g h i j k l m n o p q r s t u v w K:=SC c3 31 [10] [10] (qY K) 210 [(13,VI a),(12,VP b),(43,VI c),(42,VP d),(39,(Value.tuple #[(VP e),(VI f)])),(41,(Value.tuple #[(VP g),(VI h)])),(40,Value.agg i),(11,VQ j),(38,Value.agg k),(37,VI l),(36,Value.int .u8 m),(35,Value.int .u8 n),(1,VS o p q),(10,VB r),(3,Value.int .u8 s),(4,Value.int .u32 t),(7,VQ u),(0,Value.int .u8 v)] w
abbrev qHd K:=kq c3 31 [10] [10] (qY K)
def qC7 a b c d e f g h i j k l m n o p q r s t u v x y z a0 b0 c0 d0 e0 f0 w K:=SC c3 63 [10] [10] (qY K) 210 [(15,VI a),(14,VP b),(48,VI c),(47,VP d),(44,(Value.tuple #[(VP e),(VI f)])),(46,(Value.tuple #[(VP g),(VI h)])),(45,Value.agg i),(13,VI j),(12,VP k),(43,VI l),(42,VP m),(39,(Value.tuple #[(VP n),(VI o)])),(41,(Value.tuple #[(VP p),(VI q)])),(40,Value.agg r),(11,VQ s),(38,Value.agg t),(37,VI u),(36,Value.int .u8 v),(35,Value.int .u8 x),(1,VS y z a0),(10,VB b0),(3,Value.int .u8 c0),(4,Value.int .u32 d0),(7,VQ e0),(0,Value.int .u8 f0)] w
abbrev qu5 K:=kq c3 63 [10] [10] (qY K)
abbrev qHQ K:=kq c3 126 [1,10,12,14,3,4,7,11] [10] (qu5 K)
def qao a b c d f g h i j k l w K:=SG c3 253 [1,10,12,14,3,4,7,11] [10] (qu5 K) 210 [(62,VB a),(1,VS b c d),(10,VB f),(12,VP g),(14,VP h),(3,Value.int .u8 i),(4,Value.int .u32 j),(7,VQ k),(11,VQ l)] w
def qC6 a b c d f g h i j k w K:=SG c3 127 [10] [10] (qY K) 210 [(1,VS a b c),(10,VB d),(12,VP f),(14,VP g),(3,Value.int .u8 h),(4,Value.int .u32 i),(7,VQ j),(11,VQ k)] w
abbrev qG2 K:=kq c3 127 [10] [10] (qY K)
def qC4 a b c d e f g h i j k l m n o w K:=SC c3 255 [10] [10] (qY K) 210 [(16,VI a),(66,VI b),(65,VI c),(64,VI d),(63,VQ e),(1,VS f g h),(10,VB i),(12,VP j),(14,VP k),(3,Value.int .u8 l),(4,Value.int .u32 m),(7,VQ n),(11,VQ o)] w
abbrev qDO K:=kq c3 255 [10] [10] (qY K)
def qBS a b c d e f g h i j k l m n o p q r w K:=SC c3 511 [10] [10] (qY K) 210 [(17,VS a b c),(16,VI d),(66,VI e),(65,VI f),(64,VI g),(63,VQ h),(1,VS i j k),(10,VB l),(12,VP m),(14,VP n),(3,Value.int .u8 o),(4,Value.int .u32 p),(7,VQ q),(11,VQ r)] w
abbrev q2o K:=kq c3 511 [10] [10] (qY K)
abbrev qGb K:=kq c3 1022 [17,12,10,14,3,4,7] [10] (q2o K)
def qsm a b c d e f g h i j k l m n o p q r s w K:=SC c3 2045 [17,12,10,14,3,4,7] [10] (q2o K) 210 [(18,VI a),(17,VS b c d),(16,VI e),(66,VI f),(65,VI g),(64,VI h),(63,VQ i),(1,VS j k l),(10,VB m),(12,VP n),(14,VP o),(3,Value.int .u8 p),(4,Value.int .u32 q),(7,VQ r),(11,VQ s)] w
abbrev qgx K:=qn 0 (q2o K)
def qkb K Y11 e w:=zh (fun e w=>CS P (cA c3 8180) none [18,1,17,10,12,14,3,4,7,16] [10,17,12,14,3,4,7] (qt [18,1,17,10,12,14,3,4,7,16] Y11 (qgx K)) e w) e w
abbrev Yb K Y11:=qt [18,1,17,10,12,14,3,4,7,16] Y11 (qgx K)
def qih a b c d f g h i j k l m n o w K Y11:=SG c3 8180 [18,1,17,10,12,14,3,4,7,16] [10,17,12,14,3,4,7] (Yb K Y11) 210 [(18,VI a),(1,VS b c d),(17,VS f g h),(10,VB i),(12,VP j),(14,VP k),(3,Value.int .u8 l),(4,Value.int .u32 m),(7,VQ n),(16,VI o)] w
abbrev qc5 K Y11:=kq c3 8180 [18,1,17,10,12,14,3,4,7,16] [10,17,12,14,3,4,7] (Yb K Y11)
abbrev qFJ K Y11:=kq c3 16360 [18,1,17,10,12,14,3,4,7,16] [10,17,12,14,3,4,7] (qc5 K Y11)
def qfm a b c d f g h i j k l m n o p w K Y11:=SG c3 32721 [18,1,17,10,12,14,3,4,7,16] [10,17,12,14,3,4,7] (qc5 K Y11) 210 [(76,VB a),(18,VI b),(1,VS c d f),(17,VS g h i),(10,VB j),(12,VP k),(14,VP l),(3,Value.int .u8 m),(4,Value.int .u32 n),(7,VQ o),(16,VI p)] w
def quW a b c d f g h i j k l m n o w K Y11:=SG c3 16361 [18,1,17,10,12,14,3,4,7,16] [10,17,12,14,3,4,7] (Yb K Y11) 210 [(18,VI a),(1,VS b c d),(17,VS f g h),(10,VB i),(12,VP j),(14,VP k),(3,Value.int .u8 l),(4,Value.int .u32 m),(7,VQ n),(16,VI o)] w
abbrev qrA K Y11:=kq c3 16361 [18,1,17,10,12,14,3,4,7,16] [10,17,12,14,3,4,7] (Yb K Y11)
abbrev ZP K Y11:=qn 1 (qrA K Y11)
abbrev qFO K Y11:=kq c3 65444 [1,17,10,12,14,3,4,7,16,18] [10,17,12,14,3,4,7,1,16,18] (ZP K Y11)
def qso a b c d e f g h i j k l m n w K Y11:=SC c3 130889 [1,17,10,12,14,3,4,7,16,18] [10,17,12,14,3,4,7,1,16,18] (ZP K Y11) 210 [(19,VB false),(18,VI a),(1,VS b c d),(17,VS e f g),(10,VB h),(12,VP i),(14,VP j),(3,Value.int .u8 k),(4,Value.int .u32 l),(7,VQ m),(16,VI n)] w
abbrev q2Q K Y11:=kq c3 130889 [1,17,10,12,14,3,4,7,16,18] [10,17,12,14,3,4,7,1,16,18] (ZP K Y11)
abbrev qFh K Y11:=kq c3 261778 [1,10,12,14,3,4,7,16,18,17,19] [10,17,12,14,3,4,7,1,16,18] (q2Q K Y11)
def qqV a b c d e f g h i j k l m n o w K Y11:=SC c3 523557 [1,10,12,14,3,4,7,16,18,17,19] [10,17,12,14,3,4,7,1,16,18] (q2Q K Y11) 210 [(20,VI a),(19,VB false),(18,VI b),(1,VS c d e),(17,VS f g h),(10,VB i),(12,VP j),(14,VP k),(3,Value.int .u8 l),(4,Value.int .u32 m),(7,VQ n),(16,VI o)] w
abbrev qh8 K Y11:=qn 2 (q2Q K Y11)
def qiT K Y11 Y16 e w:=zh (fun e w=>CS P (cA c3 2094228) none [20,18,1,17,19,10,12,14,3,4,7,16] [10,17,12,14,3,4,7,1,16,18,19] (qt [20,18,1,17,19,10,12,14,3,4,7,16] Y16 (qh8 K Y11)) e w) e w
abbrev Vq K Y11 Y16:=qt [20,18,1,17,19,10,12,14,3,4,7,16] Y16 (qh8 K Y11)
def qj0 a b c d f g h i j k l m n o p q w K Y11 Y16:=SG c3 2094228 [20,18,1,17,19,10,12,14,3,4,7,16] [10,17,12,14,3,4,7,1,16,18,19] (Vq K Y11 Y16) 210 [(20,VI a),(18,VI b),(1,VS c d f),(17,VS g h i),(19,VB j),(10,VB k),(12,VP l),(14,VP m),(3,Value.int .u8 n),(4,Value.int .u32 o),(7,VQ p),(16,VI q)] w
abbrev qrM K Y11 Y16:=kq c3 2094228 [20,18,1,17,19,10,12,14,3,4,7,16] [10,17,12,14,3,4,7,1,16,18,19] (Vq K Y11 Y16)
abbrev qDa K Y11 Y16:=kq c3 4188456 [18,1,17,10,12,14,3,4,7,16,20,19] [10,17,12,14,3,4,7,1,16,18,19] (qrM K Y11 Y16)
def quv a b c d f g h i j k l m n o p q w K Y11 Y16:=SG c3 4188457 [20,18,1,17,19,10,12,14,3,4,7,16] [10,17,12,14,3,4,7,1,16,18,19] (Vq K Y11 Y16) 210 [(18,VI a),(1,VS b c d),(17,VS f g h),(10,VB i),(12,VP j),(14,VP k),(3,Value.int .u8 l),(4,Value.int .u32 m),(7,VQ n),(16,VI o),(20,VI p),(19,VB q)] w
abbrev qrD K Y11 Y16:=kq c3 4188457 [20,18,1,17,19,10,12,14,3,4,7,16] [10,17,12,14,3,4,7,1,16,18,19] (Vq K Y11 Y16)
abbrev qDb K Y11 Y16:=qn 3 (qrD K Y11 Y16)
def qgR a b c d f g h i j k l m n o p q w K Y11 Y16:=SG c3 8376915 [20,18,1,17,19,10,12,14,3,4,7,16] [10,17,12,14,3,4,7,1,16,18,19] (Vq K Y11 Y16) 210 [(18,VI a),(1,VS b c d),(17,VS f g h),(19,VB i),(10,VB j),(12,VP k),(14,VP l),(3,Value.int .u8 m),(4,Value.int .u32 n),(7,VQ o),(16,VI p),(20,VI q)] w
theorem q36:qgR a c d e f g h i j k l m n o p q w K Y11 Y16=(Y16 (qh.mk 210 [(20,(Value.int .i64 (IntKind.wrap .i64 (q+1)))),(18,(Value.int .i64 a)),(1,(Value.slice c d e)),(17,(Value.slice f g h)),(19,(Value.bool i)),(10,(Value.bool j)),(12,(Value.pointer k)),(14,(Value.pointer l)),(3,(Value.int .u8 m)),(4,(Value.int .u32 n)),(7,(Value.pointer (some o))),(16,(Value.int .i64 p))] []) w):=qz kr
theorem qnZ:quv c e f i g h j k l m n o p q d r w K Y11 Y16=(qm r (qgR c e f i g h j true k l m n o p q d w.drew K Y11 Y16) (qg g (fun u=>0<=d/\d<(h:Nat)/\qg e (fun v=>0<=c/\c<(f:Nat)/\∃ s:Int,w.drew.cell? (u.add (Int.toNat d*1))=some (.int .u32 s)/\∃ t:Int,w.drew.cell? (v.add (Int.toNat c*1))=some (.int .u32 t)/\qgR c e f i g h j (s==t) k l m n o p q d w.drew K Y11 Y16)))):=qz (qB [18,1,17,19,10,12,14,3,4,7,16,20] (qrD K Y11 Y16) (jt 3 [10,17,12,14,3,4,7,1,16,18,19,20] (qDb K Y11 Y16) kr))
def qhm a b c d f g h i j k l m n o p w K Y11:=SG c3 261779 [1,17,10,12,14,3,4,7,16,18] [10,17,12,14,3,4,7,1,16,18] (ZP K Y11) 210 [(1,VS a b c),(10,VB d),(12,VP f),(14,VP g),(3,Value.int .u8 h),(4,Value.int .u32 i),(7,VQ j),(16,VI k),(18,VI l),(17,VS m n o),(19,VB p)] w
abbrev qFx K Y11:=kq c3 261779 [1,17,10,12,14,3,4,7,16,18] [10,17,12,14,3,4,7,1,16,18] (ZP K Y11)
def qdS a b c d f g h i j k l m n o w K Y11:=SG c3 32723 [18,1,17,10,12,14,3,4,7,16] [10,17,12,14,3,4,7] (Yb K Y11) 210 [(1,VS a b c),(17,VS d f g),(10,VB h),(12,VP i),(14,VP j),(3,Value.int .u8 k),(4,Value.int .u32 l),(7,VQ m),(16,VI n),(18,VI o)] w
theorem q3w:qdS a c d e f g h i j k l m n o w K Y11=(Y11 (qh.mk 210 [(18,(Value.int .i64 (IntKind.wrap .i64 (o+1)))),(1,(Value.slice a c d)),(17,(Value.slice e f g)),(10,(Value.bool h)),(12,(Value.pointer i)),(14,(Value.pointer j)),(3,(Value.int .u8 k)),(4,(Value.int .u32 l)),(7,(Value.pointer (some m))),(16,(Value.int .i64 n))] []) w):=qz kr
theorem qog:qhm d e f g h i j k l m c n o p q w K Y11=(qm (!q) (qg d (fun y=>0<=c/\c<(e:Nat)/\∃ r:Int,w.cell? (y.add (Int.toNat c*1))=some (.int .u32 r)/\qE 1 [(Value.int .u32 r)]/\qs (([(Value.int .u32 r)].map fun(v:Value)=>v.cells.toList).flatten.toArray) 24 w (fun z a0=>∃ (s:OA) (t u:Nat),∃ x:World,(Builtin.append_ #[22,22] 22 #[(Value.slice n o p),(Value.slice (some (Addr.mk z 0 none)) 1 1)]).run P a0=.ok (.slice s t u) x/\qdS d e f s t u g h i j k l m c x K Y11))) (qdS d e f n o p g h i j k l m c w K Y11)):=qz (qB [98,1,10,12,14,3,4,7,16,18,17] (qFx K Y11) kr)
theorem qdO:qj0 d e f g h i c j k l m n o p q r w K Y11 Y16=(qm (decide (d<((c:Nat):Int))) (quv e f g h i c j l m n o p q r d k w K Y11 Y16) (qhm f g h l m n o p q r e i c j k w K Y11)):=qz (qB [18,1,17,10,12,14,3,4,7,16,20,19] (qrM K Y11 Y16) (qB [82,18,1,17,10,12,14,3,4,7,16,20,19] (qDa K Y11 Y16) kr))
theorem qol:qqV a c d e f g h i j k l m n o p w K Y11=(qH (qiT K Y11) (qh.mk 210 [(20,(Value.int .i64 a)),(18,(Value.int .i64 c)),(1,(Value.slice d e f)),(17,(Value.slice g h i)),(19,(Value.bool false)),(10,(Value.bool j)),(12,(Value.pointer k)),(14,(Value.pointer l)),(3,(Value.int .u8 m)),(4,(Value.int .u32 n)),(7,(Value.pointer (some o))),(16,(Value.int .i64 p))] []) w):=Eq.trans (b:=CS P (cA c3 523557) none [1,10,12,14,3,4,7,16,18,17,19] [10,17,12,14,3,4,7,1,16,18] (q2Q K Y11) (qh.mk 210 [(20,(VI a)),(19,(VB false)),(18,(VI c)),(1,(VS d e f)),(17,(VS g h i)),(10,(VB j)),(12,(VP k)),(14,(VP l)),(3,(Value.int .u8 m)),(4,(Value.int .u32 n)),(7,(VP (some o))),(16,(VI p))] []) w) kr (Eq.trans (Qx 2 [10,17,12,14,3,4,7,1,16,18,19] (qh8 K Y11) kr) ((qL (b:=(cA c3 2094228)) (X':=[10,17,12,14,3,4,7,1,16,18,19]) (H:=[20,18,1,17,19,10,12,14,3,4,7,16]) kr kr kr).trans kr))
theorem qn1:qso c d e f g h i j k l m n o p w K Y11=(qqV 0 c d e f g h i j k l m n o p w K Y11):=Eq.trans (b:=CS P (cA c3 130889) none [1,17,10,12,14,3,4,7,16,18] [10,17,12,14,3,4,7,1,16,18] (ZP K Y11) (qh.mk 210 [(19,(VB false)),(18,(VI c)),(1,(VS d e f)),(17,(VS g h i)),(10,(VB j)),(12,(VP k)),(14,(VP l)),(3,(Value.int .u8 m)),(4,(Value.int .u32 n)),(7,(VP (some o))),(16,(VI p))] []) w) kr (Eq.trans (qU [1,10,12,14,3,4,7,16,18,17,19] (q2Q K Y11) kr) (Eq.trans (qU [20,18,1,17,19,10,12,14,3,4,7,16] (qFh K Y11) kr) kr))
theorem qn0:quW c d e f g h i j k l m n o p w K Y11=(qso c d e f g h i j k l m n o p w K Y11):=qz (qB [1,17,10,12,14,3,4,7,16,18] (qrA K Y11) (jt 1 [10,17,12,14,3,4,7,1,16,18] (ZP K Y11) (qB [18,1,17,19,10,12,14,3,4,7,16] (qFO K Y11) kr)))
def q5j a b c d f g h i j w K:=SG c3 1023 [10] [10] (qY K) 210 [(17,VS a b c),(12,VP d),(10,VB f),(14,VP g),(3,Value.int .u8 h),(4,Value.int .u32 i),(7,VQ j)] w
abbrev qEM K:=kq c3 1023 [10] [10] (qY K)
def qqx a b c d e f g h i j k w K:=SC c3 2047 [10] [10] (qY K) 210 [(21,(Value.func (.func 17) #[] #[(VQ a)])),(106,(Value.func (.func 17) #[] #[(VQ b)])),(17,VS c d e),(12,VP f),(10,VB g),(14,VP h),(3,Value.int .u8 i),(4,Value.int .u32 j),(7,VQ k)] w
abbrev q1V K:=kq c3 2047 [10] [10] (qY K)
abbrev qEt K:=kq c3 4094 [12,21,10,17,14,3,4] [10] (q1V K)
def qtb a b c d e f g h i j k l w K:=SC c3 8189 [12,21,10,17,14,3,4] [10] (q1V K) 210 [(22,VI a),(21,(Value.func (.func 17) #[] #[(VQ b)])),(106,(Value.func (.func 17) #[] #[(VQ c)])),(17,VS d e f),(12,VP g),(10,VB h),(14,VP i),(3,Value.int .u8 j),(4,Value.int .u32 k),(7,VQ l)] w
abbrev qeO K:=qn 4 (q1V K)
def qlH K Y24 e w:=zh (fun e w=>CS P (cA c3 32756) none [22,17,12,10,21,14,3,4] [10,12,21,17,14,3,4] (qt [22,17,12,10,21,14,3,4] Y24 (qeO K)) e w) e w
abbrev Yt K Y24:=qt [22,17,12,10,21,14,3,4] Y24 (qeO K)
def qka a b c d f g h i j k w K Y24:=SG c3 32756 [22,17,12,10,21,14,3,4] [10,12,21,17,14,3,4] (Yt K Y24) 210 [(22,VI a),(17,VS b c d),(12,VP f),(10,VB g),(21,(Value.func (.func 17) #[] #[(VQ h)])),(14,VP i),(3,Value.int .u8 j),(4,Value.int .u32 k)] w
abbrev qrQ K Y24:=kq c3 32756 [22,17,12,10,21,14,3,4] [10,12,21,17,14,3,4] (Yt K Y24)
abbrev qDP K Y24:=kq c3 65512 [17,12,10,21,14,3,4,22] [10,12,21,17,14,3,4] (qrQ K Y24)
def qhr a b c d f g h i j k w K Y24:=SG c3 65513 [22,17,12,10,21,14,3,4] [10,12,21,17,14,3,4] (Yt K Y24) 210 [(17,VS a b c),(12,VP d),(10,VB f),(21,(Value.func (.func 17) #[] #[(VQ g)])),(14,VP h),(3,Value.int .u8 i),(4,Value.int .u32 j),(22,VI k)] w
abbrev quS K Y24:=kq c3 65513 [22,17,12,10,21,14,3,4] [10,12,21,17,14,3,4] (Yt K Y24)
abbrev qCD K Y24:=qn 5 (quS K Y24)
def q4a a b c d f g h i j k w K Y24:=SG c3 131027 [22,17,12,10,21,14,3,4] [10,12,21,17,14,3,4] (Yt K Y24) 210 [(17,VS a b c),(12,VP d),(10,VB f),(21,(Value.func (.func 17) #[] #[(VQ g)])),(14,VP h),(3,Value.int .u8 i),(4,Value.int .u32 j),(22,VI k)] w
theorem qn7:q4a a c d e f g h i j k w K Y24=(Y24 (qh.mk 210 [(22,(Value.int .i64 (IntKind.wrap .i64 (k+1)))),(17,(Value.slice a c d)),(12,(Value.pointer e)),(10,(Value.bool f)),(21,(Value.func (.func 17) #[] #[(Value.pointer (some g))])),(14,(Value.pointer h)),(3,(Value.int .u8 i)),(4,(Value.int .u32 j))] []) w):=qz kr
theorem qnX:qhr e f h d i j k l m c w K Y24=(qg e (fun n=>0<=c/\c<(f:Nat)/\∃ o:Array Value,(∀ wq,(Instr.build 36 #[(0,(Value.int .u32 (IntKind.wrap .u32 ((IntKind.wrap .u32 c)*8)))),(1,(Value.int .i64 1))]).run P wq=.ok (.agg o) wq)/\∃ g:Int,w.drew.cell? (n.add (Int.toNat c*1))=some (.int .u32 g)/\(qE 2 [(Value.agg o)]/\qs (([(Value.agg o)].map fun(v:Value)=>v.cells.toList).flatten.toArray) 36 w.drew (fun d0 p=>p.cell? (n.add (Int.toNat c*1))=some (.int .u32 g)/\q9 P 19 [(Value.int .u32 0)] p (fun e0 q=>∃ (r:OA) (s t:Nat),e0=(.slice r s t)/\q.cell? (n.add (Int.toNat c*1))=some (.int .u32 g)/\∃ u:Array Value,(∀ wq,(Instr.build 41 #[(0,(Value.int .u32 g)),(1,(Value.slice (some (Addr.mk d0 0 none)) 1 1)),(2,(Value.slice r s t))]).run P wq=.ok (.agg u) wq)/\q9 P 18 [(Value.pointer d),(Value.agg u)] q (fun f0 g0=>∃ h0:Int,∃ (i0:OA) (j0 l0:Nat),∃ m0:Int,f0=(.tuple #[(Value.int .u32 h0),(Value.slice i0 j0 l0),(Value.int .i64 m0)])/\q4a e f h d i j k l m c g0 K Y24))))/\(q9 P 19 [(Value.int .u32 0)] w.drew (fun n0 x=>∃ (y:OA) (z a0:Nat),n0=(.slice y z a0)/\x.cell? (n.add (Int.toNat c*1))=some (.int .u32 g)/\qE 2 [(Value.agg o)]/\qs (([(Value.agg o)].map fun(v:Value)=>v.cells.toList).flatten.toArray) 36 x (fun o0 b0=>b0.cell? (n.add (Int.toNat c*1))=some (.int .u32 g)/\∃ c0:Array Value,(∀ wq,(Instr.build 41 #[(0,(Value.int .u32 g)),(1,(Value.slice (some (Addr.mk o0 0 none)) 1 1)),(2,(Value.slice y z a0))]).run P wq=.ok (.agg c0) wq)/\q9 P 18 [(Value.pointer d),(Value.agg c0)] b0 (fun p0 q0=>∃ r0:Int,∃ (s0:OA) (t0 u0:Nat),∃ v0:Int,p0=(.tuple #[(Value.int .u32 r0),(Value.slice s0 t0 u0),(Value.int .i64 v0)])/\q4a e f h d i j k l m c q0 K Y24)))))):=qz (qB [17,12,10,21,14,3,4,22] (quS K Y24) (jt 5 [10,12,21,17,14,3,4,22] (qCD K Y24) kr))
def quX a b c d f g h i j w K:=SG c3 4095 [10] [10] (qY K) 210 [(12,VP a),(21,(Value.func (.func 17) #[] #[(VQ b)])),(10,VB c),(17,VS d f g),(14,VP h),(3,Value.int .u8 i),(4,Value.int .u32 j)] w
abbrev q2i K:=kq c3 4095 [10] [10] (qY K)
abbrev qDl K:=kq c3 8190 [17,14,21,3,10,12,4] [10] (q2i K)
def qsi a b c d e f g h i j w K:=SC c3 16381 [17,14,21,3,10,12,4] [10] (q2i K) 210 [(23,VI a),(12,VP b),(21,(Value.func (.func 17) #[] #[(VQ c)])),(10,VB d),(17,VS e f g),(14,VP h),(3,Value.int .u8 i),(4,Value.int .u32 j)] w
abbrev qdK K:=qn 6 (q2i K)
def qkl K Y29 e w:=zh (fun e w=>CS P (cA c3 65524) none [23,12,21,10,17,14,3,4] [10,17,14,21,3,12,4] (qt [23,12,21,10,17,14,3,4] Y29 (qdK K)) e w) e w
abbrev Vc K Y29:=qt [23,12,21,10,17,14,3,4] Y29 (qdK K)
def qk5 a b c d f g h i j k w K Y29:=SG c3 65524 [23,12,21,10,17,14,3,4] [10,17,14,21,3,12,4] (Vc K Y29) 210 [(23,VI a),(12,VP b),(21,(Value.func (.func 17) #[] #[(VQ c)])),(10,VB d),(17,VS f g h),(14,VP i),(3,Value.int .u8 j),(4,Value.int .u32 k)] w
abbrev qrv K Y29:=kq c3 65524 [23,12,21,10,17,14,3,4] [10,17,14,21,3,12,4] (Vc K Y29)
abbrev qCz K Y29:=kq c3 131048 [12,21,10,17,14,3,4,23] [10,17,14,21,3,12,4] (qrv K Y29)
def qtQ a b c d f g h i j k w K Y29:=SG c3 131049 [23,12,21,10,17,14,3,4] [10,17,14,21,3,12,4] (Vc K Y29) 210 [(12,VP a),(21,(Value.func (.func 17) #[] #[(VQ b)])),(10,VB c),(17,VS d f g),(14,VP h),(3,Value.int .u8 i),(4,Value.int .u32 j),(23,VI k)] w
abbrev qut K Y29:=kq c3 131049 [23,12,21,10,17,14,3,4] [10,17,14,21,3,12,4] (Vc K Y29)
abbrev qpQ K Y29:=qn 7 (qut K Y29)
abbrev qFm K Y29:=kq c3 524196 [12,21,10,17,14,3,4,23] [10,17,14,21,3,12,4,23] (qpQ K Y29)
def qfv a b c d f g h i j k w K Y29:=SG c3 262099 [23,12,21,10,17,14,3,4] [10,17,14,21,3,12,4] (Vc K Y29) 210 [(12,VP a),(21,(Value.func (.func 17) #[] #[(VQ b)])),(10,VB c),(17,VS d f g),(14,VP h),(3,Value.int .u8 i),(4,Value.int .u32 j),(23,VI k)] w
theorem q3i:qfv a c d e f g h i j k w K Y29=(Y29 (qh.mk 210 [(23,(Value.int .i64 (IntKind.wrap .i64 (k+1)))),(12,(Value.pointer a)),(21,(Value.func (.func 17) #[] #[(Value.pointer (some c))])),(10,(Value.bool d)),(17,(Value.slice e f g)),(14,(Value.pointer h)),(3,(Value.int .u8 i)),(4,(Value.int .u32 j))] []) w):=qz kr
theorem qno:qtQ d e f g h i j k l c w K Y29=(q9 P 17 [(Value.int .i64 c),(Value.pointer (some e))] w (fun p m=>∃ n:Bool,p=(.bool n)/\qm (!n) (∃ o:Array Value,(∀ wq,(Instr.build 36 #[(0,(Value.int .u32 (IntKind.wrap .u32 ((IntKind.wrap .u32 c)*8)))),(1,(Value.int .i64 1))]).run P wq=.ok (.agg o) wq)/\q9 P 20 [(Value.pointer d),(Value.agg o)] m (fun q r=>∃ (s:OA) (t u:Nat),q=(.slice s t u)/\qfv d e f g h i j k l c r K Y29)) (qfv d e f g h i j k l c m K Y29))):=qz (qB [12,21,10,17,14,3,4,23] (qut K Y29) (jt 7 [10,17,14,21,3,12,4,23] (qpQ K Y29) (qB [135,12,21,10,17,14,3,4,23] (qFm K Y29) kr)))
def qsc a b c d f g h i j w K:=SG c3 8191 [10] [10] (qY K) 210 [(17,VS a b c),(14,VP d),(21,(Value.func (.func 17) #[] #[(VQ f)])),(3,Value.int .u8 g),(10,VB h),(12,VP i),(4,Value.int .u32 j)] w
abbrev qFK K:=kq c3 8191 [10] [10] (qY K)
def qrc a b c d e f g h i j k l m n w K:=SC c3 16383 [10] [10] (qY K) 210 [(24,VI a),(143,VI b),(142,VS c d e),(17,VS f g h),(14,VP i),(21,(Value.func (.func 17) #[] #[(VQ j)])),(3,Value.int .u8 k),(10,VB l),(12,VP m),(4,Value.int .u32 n)] w
abbrev q1i K:=kq c3 16383 [10] [10] (qY K)
abbrev qDU K:=kq c3 32766 [14,12,4] [10] (q1i K)
def qqZ a b c d e f g h i j k l m n o w K:=SC c3 65533 [14,12,4] [10] (q1i K) 210 [(25,VI a),(24,VI b),(143,VI c),(142,VS d e f),(17,VS g h i),(14,VP j),(21,(Value.func (.func 17) #[] #[(VQ k)])),(3,Value.int .u8 l),(10,VB m),(12,VP n),(4,Value.int .u32 o)] w
abbrev qbI K:=qn 8 (q1i K)
def qhL K Y35 e w:=zh (fun e w=>CS P (cA c3 262132) none [25,24,17,14,21,3,10,12,4] [10,14,12,4] (qt [25,24,17,14,21,3,10,12,4] Y35 (qbI K)) e w) e w
abbrev Va K Y35:=qt [25,24,17,14,21,3,10,12,4] Y35 (qbI K)
def qmJ a b c d f g h i j k l w K Y35:=SG c3 262132 [25,24,17,14,21,3,10,12,4] [10,14,12,4] (Va K Y35) 210 [(25,VI a),(24,VI b),(17,VS c d f),(14,VP g),(21,(Value.func (.func 17) #[] #[(VQ h)])),(3,Value.int .u8 i),(10,VB j),(12,VP k),(4,Value.int .u32 l)] w
abbrev quR K Y35:=kq c3 262132 [25,24,17,14,21,3,10,12,4] [10,14,12,4] (Va K Y35)
abbrev qEl K Y35:=kq c3 524264 [24,17,14,21,3,10,12,4,25] [10,14,12,4] (quR K Y35)
def qtN a b c d f g h i j k l w K Y35:=SG c3 524265 [25,24,17,14,21,3,10,12,4] [10,14,12,4] (Va K Y35) 210 [(24,VI a),(17,VS b c d),(14,VP f),(21,(Value.func (.func 17) #[] #[(VQ g)])),(3,Value.int .u8 h),(10,VB i),(12,VP j),(4,Value.int .u32 k),(25,VI l)] w
abbrev qpZ K Y35:=kq c3 524265 [25,24,17,14,21,3,10,12,4] [10,14,12,4] (Va K Y35)
abbrev qv0 K Y35:=qn 9 (qpZ K Y35)
abbrev qFQ K Y35:=kq c3 2097060 [24,17,14,21,3,10,12,4,25] [10,14,12,4,24,17,21,3,25] (qv0 K Y35)
def qbN a b c d f g h i j k l w K Y35:=SG c3 1048531 [25,24,17,14,21,3,10,12,4] [10,14,12,4] (Va K Y35) 210 [(24,VI a),(17,VS b c d),(14,VP f),(21,(Value.func (.func 17) #[] #[(VQ g)])),(3,Value.int .u8 h),(10,VB i),(12,VP j),(4,Value.int .u32 k),(25,VI l)] w
theorem q3v:qbN a c d e f g h i j k l w K Y35=(Y35 (qh.mk 210 [(25,(Value.int .i64 (IntKind.wrap .i64 (l+1)))),(24,(Value.int .i64 a)),(17,(Value.slice c d e)),(14,(Value.pointer f)),(21,(Value.func (.func 17) #[] #[(Value.pointer (some g))])),(3,(Value.int .u8 h)),(10,(Value.bool i)),(12,(Value.pointer j)),(4,(Value.int .u32 k))] []) w):=qz kr
theorem qoI:qtN c f g j h i d k l m e w K Y35=(c≠0/\q9 P 17 [(Value.int .i64 (IntKind.wrap .i64 ((IntKind.wrap .i64 (c-1))-((IntKind.wrap .i64 (e+(IntKind.wrap .i64 d))).tmod c)))),(Value.pointer (some i))] w (fun x n=>∃ p:Bool,x=(.bool p)/\qm p (qg f (fun q=>0<=(IntKind.wrap .i64 ((IntKind.wrap .i64 (c-1))-((IntKind.wrap .i64 (e+(IntKind.wrap .i64 d))).tmod c)))/\(IntKind.wrap .i64 ((IntKind.wrap .i64 (c-1))-((IntKind.wrap .i64 (e+(IntKind.wrap .i64 d))).tmod c)))<(g:Nat)/\∃ o:Int,n.drew.cell? (q.add (Int.toNat (IntKind.wrap .i64 ((IntKind.wrap .i64 (c-1))-((IntKind.wrap .i64 (e+(IntKind.wrap .i64 d))).tmod c)))*1))=some (.int .u32 o)/\q9 P 19 [(Value.int .u32 0)] n.drew (fun y r=>∃ (s:OA) (t u:Nat),y=(.slice s t u)/\r.cell? (q.add (Int.toNat (IntKind.wrap .i64 ((IntKind.wrap .i64 (c-1))-((IntKind.wrap .i64 (e+(IntKind.wrap .i64 d))).tmod c)))*1))=some (.int .u32 o)/\∃ v:Array Value,(∀ wq,(Instr.build 41 #[(0,(Value.int .u32 o)),(2,(Value.slice s t u))]).run P wq=.ok (.agg v) wq)/\q9 P 18 [(Value.pointer h),(Value.agg v)] r (fun z a0=>∃ b0:Int,∃ (c0:OA) (d0 e0:Nat),∃ f0:Int,z=(.tuple #[(Value.int .u32 b0),(Value.slice c0 d0 e0),(Value.int .i64 f0)])/\qbN c f g j h i d k l m e a0 K Y35)))) (qbN c f g j h i d k l m e n K Y35))):=qz (qB [24,17,14,21,3,10,12,4,25] (qpZ K Y35) (jt 9 [10,14,12,4,24,17,21,3,25] (qv0 K Y35) (qB [24,17,14,21,3,10,12,4,25,26] (qFQ K Y35) kr)))
def qfL a b c w K:=SG c3 32767 [10] [10] (qY K) 210 [(14,VP a),(12,VP b),(4,Value.int .u32 c)] w
abbrev qCf K:=kq c3 32767 [10] [10] (qY K)
abbrev qDw K:=kq c3 131071 [10] [10] (qY K)
def q1I a b c w K:=SG c3 524285 [14,12] [10] (qDw K) 210 [(199,VB a),(14,VP b),(12,VP c)] w
def qrU a b w K:=SG c3 262143 [10] [10] (qY K) 210 [(14,VP a),(12,VP b)] w
abbrev qDj K:=kq c3 262143 [10] [10] (qY K)
def qe0 a w K:=SG c3 524287 [10] [10] (qY K) 210 [(10,VB a)] w
theorem qpC:qe0 a w K=(K (Value.bool a) w):=qz kr
theorem qpl:qrU c d w K=(q9 P 15 [] w (fun k e=>∃ f:Bool,k=(.bool f)/\qm f (q9 P 23 [(Value.pointer d)] e (fun l m=>∃ g:Array Value,l=(.agg g)/\∃ h:Int,g[0]?=some (.int .i64 h)/\q9 P 23 [(Value.pointer c)] m (fun n o=>∃ i:Array Value,n=(.agg i)/\∃ j:Int,i[0]?=some (.int .i64 j)/\qe0 (h==j) o K))) (qe0 false e K))):=qz (qB [10] (qDj K) kr)
theorem qnA:q1I a c d w K=(qm a (K (Value.bool false) w) (qrU c d w K)):=qz kr
theorem qn6:qfL c d e w K=(q9 P 21 [(Value.pointer d),(Value.int .u32 e)] w (fun k l=>∃ m:Int,∃ f:Bool,k=(.tuple #[(Value.int .u32 m),(Value.bool f)])/\q9 P 21 [(Value.pointer c),(Value.int .u32 e)] l (fun n g=>∃ o:Int,∃ h:Bool,n=(.tuple #[(Value.int .u32 o),(Value.bool h)])/\qm (!(f==h)) (q1I true c d g K) (qm (!f) (q9 P 22 [(Value.pointer d),(Value.int .u32 e)] g (fun p q=>∃ i:Int,p=(.int .i64 i)/\q9 P 22 [(Value.pointer c),(Value.int .u32 e)] q (fun r s=>∃ j:Int,r=(.int .i64 j)/\q1I (i != j) c d s K))) (q1I false c d g K))))):=qz (qB [14,12,4,28] (qCf K) kr)
theorem qdo:qmJ c d h i j e k l m f g w K Y35=(qm (decide (c<d)) (qtN d h i j e k l m f g c w K Y35) (qfL e f g w K)):=qz (qB [24,17,14,21,3,10,12,4,25] (quR K Y35) (qB [146,24,17,14,21,3,10,12,4,25] (qEl K Y35) kr))
theorem qps:qqZ a c m n o p d e f g h i j k l w K=(qH (qhL K) (qh.mk 210 [(25,(Value.int .i64 a)),(24,(Value.int .i64 c)),(17,(Value.slice d e f)),(14,(Value.pointer g)),(21,(Value.func (.func 17) #[] #[(Value.pointer (some h))])),(3,(Value.int .u8 i)),(10,(Value.bool j)),(12,(Value.pointer k)),(4,(Value.int .u32 l))] []) w):=Eq.trans (b:=CS P (cA c3 65533) none [14,12,4] [10] (q1i K) (qh.mk 210 [(25,(VI a)),(24,(VI c)),(143,(VI m)),(142,(VS n o p)),(17,(VS d e f)),(14,(VP g)),(21,(Value.func (.func 17) #[] #[(VP (some h))])),(3,(Value.int .u8 i)),(10,(VB j)),(12,(VP k)),(4,(Value.int .u32 l))] []) w) kr (Eq.trans (Qx 8 [10,14,12,4] (qbI K) kr) ((qL (b:=(cA c3 262132)) (X':=[10,14,12,4]) (H:=[25,24,17,14,21,3,10,12,4]) kr kr kr).trans kr))
theorem qpk:qrc c d e f g h i j k l m n o p w K=(qqZ 0 c d e f g h i j k l m n o p w K):=Eq.trans (b:=CS P (cA c3 16383) none [10] [10] (qY K) (qh.mk 210 [(24,(VI c)),(143,(VI d)),(142,(VS e f g)),(17,(VS h i j)),(14,(VP k)),(21,(Value.func (.func 17) #[] #[(VP (some l))])),(3,(Value.int .u8 m)),(10,(VB n)),(12,(VP o)),(4,(Value.int .u32 p))] []) w) kr (Eq.trans (qU [14,12,4] (q1i K) kr) (Eq.trans (qU [25,24,17,14,21,3,10,12,4] (qDU K) kr) kr))
theorem qo9:qsc d c e f g h i j k w K=(qrc ((c:Nat):Int) ((c:Nat):Int) d c e d c e f g h i j k w K):=qz (qB [24,17,14,21,3,10,12,4] (qFK K) kr)
theorem qdp:qk5 d e f g h c i j k l w K Y29=(qm (decide (d<((c:Nat):Int))) (qtQ e f g h c i j k l d w K Y29) (qsc h c i j f k g e l w K)):=qz (qB [12,21,10,17,14,3,4,23] (qrv K Y29) (qB [129,12,21,10,17,14,3,4,23] (qCz K Y29) kr))
theorem qnz:qsi a c d e f g h i j k w K=(qH (qkl K) (qh.mk 210 [(23,(Value.int .i64 a)),(12,(Value.pointer c)),(21,(Value.func (.func 17) #[] #[(Value.pointer (some d))])),(10,(Value.bool e)),(17,(Value.slice f g h)),(14,(Value.pointer i)),(3,(Value.int .u8 j)),(4,(Value.int .u32 k))] []) w):=Eq.trans (b:=CS P (cA c3 16381) none [17,14,21,3,10,12,4] [10] (q2i K) (qh.mk 210 [(23,(VI a)),(12,(VP c)),(21,(Value.func (.func 17) #[] #[(VP (some d))])),(10,(VB e)),(17,(VS f g h)),(14,(VP i)),(3,(Value.int .u8 j)),(4,(Value.int .u32 k))] []) w) kr (Eq.trans (Qx 6 [10,17,14,21,3,12,4] (qdK K) kr) ((qL (b:=(cA c3 65524)) (X':=[10,17,14,21,3,12,4]) (H:=[23,12,21,10,17,14,3,4]) kr kr kr).trans kr))
theorem qoD:quX c d e f g h i j k w K=(qsi 0 c d e f g h i j k w K):=qz (qB [17,14,21,3,10,12,4] (q2i K) (qB [23,12,21,10,17,14,3,4] (qDl K) kr))
theorem qfw:qka d e c f g h i j k l w K Y24=(qm (decide (d<((c:Nat):Int))) (qhr e c f g h i j k l d w K Y24) (quX g i h e c f j k l w K)):=qz (qB [17,12,10,21,14,3,4,22] (qrQ K Y24) (qB [110,17,12,10,21,14,3,4,22] (qDP K Y24) kr))
theorem qok:qtb a c l d e f g h i j k m w K=(qH (qlH K) (qh.mk 210 [(22,(Value.int .i64 a)),(17,(Value.slice d e f)),(12,(Value.pointer g)),(10,(Value.bool h)),(21,(Value.func (.func 17) #[] #[(Value.pointer (some c))])),(14,(Value.pointer i)),(3,(Value.int .u8 j)),(4,(Value.int .u32 k))] []) w):=Eq.trans (b:=CS P (cA c3 8189) none [12,21,10,17,14,3,4] [10] (q1V K) (qh.mk 210 [(22,(VI a)),(21,(Value.func (.func 17) #[] #[(VP (some c))])),(106,(Value.func (.func 17) #[] #[(VP (some l))])),(17,(VS d e f)),(12,(VP g)),(10,(VB h)),(14,(VP i)),(3,(Value.int .u8 j)),(4,(Value.int .u32 k)),(7,(VP (some m)))] []) w) kr (Eq.trans (Qx 4 [10,12,21,17,14,3,4] (qeO K) kr) ((qL (b:=(cA c3 32756)) (X':=[10,12,21,17,14,3,4]) (H:=[22,17,12,10,21,14,3,4]) kr kr kr).trans kr))
theorem qoM:qqx c d e f g h i j k l m w K=(qtb 0 c d e f g h i j k l m w K):=Eq.trans (b:=CS P (cA c3 2047) none [10] [10] (qY K) (qh.mk 210 [(21,(Value.func (.func 17) #[] #[(VP (some c))])),(106,(Value.func (.func 17) #[] #[(VP (some d))])),(17,(VS e f g)),(12,(VP h)),(10,(VB i)),(14,(VP j)),(3,(Value.int .u8 k)),(4,(Value.int .u32 l)),(7,(VP (some m)))] []) w) kr (Eq.trans (qU [12,21,10,17,14,3,4] (q1V K) kr) (Eq.trans (qU [22,17,12,10,21,14,3,4] (qEt K) kr) kr))
theorem qp2:q5j d e f g h i j k c w K=(qqx c c d e f g h i j k c w K):=qz (qB [17,12,10,21,14,3,4] (qEM K) kr)
theorem q3t:qfm k l m n o a c d e f g h i j p w K Y11=(qm k (quW l m n o a c d e f g h i j p w K Y11) (q5j a c d f e g h i j w K)):=qz kr
theorem qhq:qih c g d h i e j k l m n o p f w K Y11=(qm (decide (c<((d:Nat):Int))) (qfm (decide ((((e:Nat):Int):Int)<f)) c g d h i e j k l m n o p f w K Y11) (qfm false c g d h i e j k l m n o p f w K Y11)):=qz (qB [18,1,17,10,12,14,3,4,7,16] (qc5 K Y11) (qB [76,18,1,17,10,12,14,3,4,7,16] (qFJ K Y11) kr))
theorem qoL:qsm a c d e f p q r s g h i j k l m n o t w K=(qH (qkb K) (qh.mk 210 [(18,(Value.int .i64 a)),(1,(Value.slice g h i)),(17,(Value.slice c d e)),(10,(Value.bool j)),(12,(Value.pointer k)),(14,(Value.pointer l)),(3,(Value.int .u8 m)),(4,(Value.int .u32 n)),(7,(Value.pointer (some o))),(16,(Value.int .i64 f))] []) w):=Eq.trans (b:=CS P (cA c3 2045) none [17,12,10,14,3,4,7] [10] (q2o K) (qh.mk 210 [(18,(VI a)),(17,(VS c d e)),(16,(VI f)),(66,(VI p)),(65,(VI q)),(64,(VI r)),(63,(VP (some s))),(1,(VS g h i)),(10,(VB j)),(12,(VP k)),(14,(VP l)),(3,(Value.int .u8 m)),(4,(Value.int .u32 n)),(7,(VP (some o))),(11,(VP (some t)))] []) w) kr (Eq.trans (Qx 0 [10,17,12,14,3,4,7] (qgx K) kr) ((qL (b:=(cA c3 8180)) (X':=[10,17,12,14,3,4,7]) (H:=[18,1,17,10,12,14,3,4,7,16]) kr kr kr).trans kr))
theorem qsH:qBS c d e f g h i j k l m n o p q r s t w K=(qsm 0 c d e f g h i j k l m n o p q r s t w K):=Eq.trans (b:=CS P (cA c3 511) none [10] [10] (qY K) (qh.mk 210 [(17,(VS c d e)),(16,(VI f)),(66,(VI g)),(65,(VI h)),(64,(VI i)),(63,(VP (some j))),(1,(VS k l m)),(10,(VB n)),(12,(VP o)),(14,(VP p)),(3,(Value.int .u8 q)),(4,(Value.int .u32 r)),(7,(VP (some s))),(11,(VP (some t)))] []) w) kr (Eq.trans (qU [17,12,10,14,3,4,7] (q2o K) kr) (Eq.trans (qU [18,1,17,10,12,14,3,4,7,16] (qGb K) kr) kr))
theorem qqE:qC4 c d e f g h i j k l m n o p q w K=(qBS none 0 0 c d e f g h i j k l m n o p q w K):=Eq.trans (b:=CS P (cA c3 255) none [10] [10] (qY K) (qh.mk 210 [(16,(VI c)),(66,(VI d)),(65,(VI e)),(64,(VI f)),(63,(VP (some g))),(1,(VS h i j)),(10,(VB k)),(12,(VP l)),(14,(VP m)),(3,(Value.int .u8 n)),(4,(Value.int .u32 o)),(7,(VP (some p))),(11,(VP (some q)))] []) w) kr (Eq.trans (qU [1,17,10,12,14,3,4,7,16] (qDO K) kr) kr)
theorem qr3:qC6 e f g h i j k l m c w K=(∃ d:Int,w.cell? (c.add 2)=some (.int .i64 d)/\(4:Int)≠0/\qC4 (IntKind.wrap .i64 ((IntKind.wrap .i64 (d.tdiv 4))*3)) (IntKind.wrap .i64 ((IntKind.wrap .i64 (d.tdiv 4))*3)) (IntKind.wrap .i64 (d.tdiv 4)) d (c.add 2) e f g h i j k l m c w K):=qz (qB [1,10,12,14,3,4,7,16] (qG2 K) kr)
theorem qrF:qao a c d e f g h i j k l w K=(qm a (K (Value.bool false) w) (qC6 c d e f g h i j k l w K)):=qz kr
theorem qsv:qC7 m c o p q r s t u n d v x y z a0 b0 c0 e d0 e0 f0 g0 f g h i j k l h0 w K=(qm (n != 0) (qao true f g h i d c j k l e w K) (qm (m != 0) (qao true f g h i d c j k l e w K) (qm d.isNone (qao true f g h i d c j k l e w K) (qao c.isNone f g h i d c j k l e w K)))):=Eq.trans (b:=CS P (cA c3 63) none [10] [10] (qY K) (qh.mk 210 [(15,(VI m)),(14,(VP c)),(48,(VI o)),(47,(VP p)),(44,(Value.tuple #[(VP q),(VI r)])),(46,(Value.tuple #[(VP s),(VI t)])),(45,(Value.agg u)),(13,(VI n)),(12,(VP d)),(43,(VI v)),(42,(VP x)),(39,(Value.tuple #[(VP y),(VI z)])),(41,(Value.tuple #[(VP a0),(VI b0)])),(40,(Value.agg c0)),(11,(VP (some e))),(38,(Value.agg d0)),(37,(VI e0)),(36,(Value.int .u8 f0)),(35,(Value.int .u8 g0)),(1,(VS f g h)),(10,(VB i)),(3,(Value.int .u8 j)),(4,(Value.int .u32 k)),(7,(VP (some l))),(0,(Value.int .u8 h0))] []) w) kr (Eq.trans (qU [1,10,12,14,3,4,7,11] (qu5 K) kr) (Eq.trans (qU [62,1,10,12,14,3,4,7,11] (qHQ K) kr) kr))
theorem quE:qC8 f g h i j k l m n c o p q r s t u v x y z a0 w K=(qS 3 c w (fun b0=>q9 P 16 [(Value.agg b0)] w (fun c0 d0=>∃ d:Option Addr,∃ e:Int,c0=(.tuple #[(Value.pointer d),(Value.int .i64 e)])/\qC7 e d e d d e d e b0 f g h i j k l m n c o p q r s t u v x y z a0 d0 K))):=Eq.trans (b:=CS P (cA c3 31) none [10] [10] (qY K) (qh.mk 210 [(13,(VI f)),(12,(VP g)),(43,(VI h)),(42,(VP i)),(39,(Value.tuple #[(VP j),(VI k)])),(41,(Value.tuple #[(VP l),(VI m)])),(40,(Value.agg n)),(11,(VP (some c))),(38,(Value.agg o)),(37,(VI p)),(36,(Value.int .u8 q)),(35,(Value.int .u8 r)),(1,(VS s t u)),(10,(VB v)),(3,(Value.int .u8 x)),(4,(Value.int .u32 y)),(7,(VP (some z))),(0,(Value.int .u8 a0))] []) w) kr (Eq.trans (qU [1,10,12,14,3,4,7,11,15,13] (qHd K) kr) kr)
theorem qsu:qBU c f g h i j k l m n o p q w K=(qS 3 c w (fun r=>q9 P 16 [(Value.agg r)] w (fun s t=>∃ d:Option Addr,∃ e:Int,s=(.tuple #[(Value.pointer d),(Value.int .i64 e)])/\qC8 e d e d d e d e r c f g h i j k l m n o p q t K))):=Eq.trans (b:=CS P (cA c3 15) none [10] [10] (qY K) (qh.mk 210 [(11,(VP (some c))),(38,(Value.agg f)),(37,(VI g)),(36,(Value.int .u8 h)),(35,(Value.int .u8 i)),(1,(VS j k l)),(10,(VB m)),(3,(Value.int .u8 n)),(4,(Value.int .u32 o)),(7,(VP (some p))),(0,(Value.int .u8 q))] []) w) kr (Eq.trans (qU [1,10,12,3,4,7,11,13] (qH4 K) kr) kr)
theorem qtP:qBM d e f g h i j c w K=((7:Int)≠0/\0<=((c.tmod 7):Int)/\∃ k:Array Value,(∀ wq,(Instr.build 27 #[(0,(Value.int .i64 1)),(1,(Value.int .i64 1048576)),(2,(Value.int .i64 (IntKind.wrap .i64 ((16:Int)*2 ^ (min (Int.toNat (c.tmod 7)) (IntKind.bits .i64))))))]).run P wq=.ok (.agg k) wq)/\qs (qv P 27) 27 w (fun l m=>zG 3 (Addr.mk l 0 none) k m (fun n=>qBU (Addr.mk l 0 none) k (IntKind.wrap .i64 ((16:Int)*2 ^ (min (Int.toNat (c.tmod 7)) (IntKind.bits .i64)))) (c.tmod 7) c d e f g h i j c n K))):=qz (qB [1,10,3,4,7,11] (qIb K) kr)
theorem qrd:qBY d e f c g j k l h i w K=(qm (decide ((((c:Nat):Int):Int) > 30)) (q9 P 15 [] w (fun n o=>∃ m:Bool,n=(.bool m)/\K (Value.bool m) o)) (qBM f c g false h i d e w K)):=Eq.trans (b:=CS P (cA c3 3) none [10] [10] (qY K) (qh.mk 210 [(10,(VB false)),(7,(VP (some d))),(0,(Value.int .u8 e)),(1,(VS f c g)),(2,(VS j k l)),(3,(Value.int .u8 h)),(4,(Value.int .u32 i))] []) w) kr (Eq.trans (qU [1,10,3,4,7,0] (qBK K) kr) (Eq.trans (qU [33,1,10,3,4,7,0] (qHu K) kr) kr))
theorem qqv:qC2 f g h i c d e j k w K=(qs #[(Value.slice c d e)] 23 w (fun l m=>qBY (Addr.mk l 0 none) f g h i c d e j k m K)):=Eq.trans (b:=CS P (cA c3 1) none [10] [10] (qY K) (qh.mk 210 [(0,(Value.int .u8 f)),(1,(VS g h i)),(2,(VS c d e)),(3,(Value.int .u8 j)),(4,(Value.int .u32 k))] []) w) kr (Eq.trans (qU [1,10,3,4,7,0] (qIh K) kr) kr)
theorem qIl:f3 a b c d e f g h i w K=(qC2 a b c d e f g h i w K):=kr
theorem qHT a b c d e f g i j w K(h:f3 a b c d e f g i j w K):q9 P 3 [(Value.int .u8 a),(Value.slice b c d),(Value.slice e f g),(Value.int .u8 i),(Value.int .u32 j)] w K:=qy c3 Tryz.func3 h
def c17:=ql Tryz.f17
def qIP:=Tryz.f17.results.toList
abbrev qs1 K:=qr P qIP K
def f17 a b w K:=CS P c17 none [3] [3] (qs1 K) (qw 14 [(VI a),(VP (some b))]) w
def qgI a w K:=SG c17 7 [3] [3] (qs1 K) 14 [(3,VB a)] w
theorem q39:qgI a w K=(K (Value.bool a) w):=kr
theorem qDk:f17 a b w K=(∃ (g:OA) (c h:Nat),w.cell? b=some (.slice g c h)/\qm (decide (a>=((c:Nat):Int))) (qgI true w K) (∃ (d:OA) (e i:Nat),w.cell? b=some (.slice d e i)/\qg d (fun j=>0<=a/\a<(e:Nat)/\∃ f:Bool,w.cell? (j.add (Int.toNat a*1))=some (.bool f)/\qgI f w K))):=kr
theorem qDx a b w K(h:f17 a b w K):q9 P 17 [(Value.int .i64 a),(Value.pointer (some b))] w K:=qy c17 Tryz.func17 h
end Go.Fx.Tryz
namespace Go.Fx.Ch
open Go.Fx.Tryz
def jG(stay:List Bool)(i:Nat):Bool:=(stay[i]?).getD true
theorem Zm{l:List Int}{i:Nat}(h:i<l.length):qi l i=l[i]:=by unfold qi;rw[List.getElem?_eq_getElem h];rfl
theorem q7o{l:List Int}(hn:l.Nodup){i j:Nat}(hi:i<l.length)(hj:j<l.length)(h:qi l i=qi l j):i=j:=by
 rw[Zm hi,Zm hj]at h
 exact(List.getElem_inj hn).1 h
end Go.Fx.Ch
namespace Go.Fx.Tryz
open Go Go.Fx Go.Fx.Ch
open Go.Proofs
set_option linter.all false
set_option maxRecDepth 20000
variable {w0 w:World} {H X N:qA} {K:KT} {s u:qf} {L L1 L2:qK} {q q1 q2:LB}
theorem vC.one{xs:List Value}{a:Addr}{n c:Nat}(h:vC w 1 (.slice (some a) n c) n xs){i:Nat}(hi:i<n):w.cell? (a.add (i*1))=xs[i]?:=by
 rcases h.2 with⟨h1,_⟩ | ⟨a',c',h1,h2⟩
 ·cases h1
 ·cases h1
  rw[Nat.mul_one];exact h2 i om
theorem qvG{i n10:Nat}{stay:List Bool}{sa:Option Addr}{sl sc:Nat}(hc:w.cell? (Addr.mk n10 0 none)=some (.slice sa sl sc))(hrow:vC w 1 (.slice sa sl sc) sl (stay.map Value.bool))(hK:K (.bool (jG stay i)) w) :
  q9 P 17 [J i,.pointer (some ⟨n10,0,none⟩)] w K:=by
 refine qDx _ _ _ _ ?_
 rw[qDk]
 have hl:stay.length=sl:=by have:=hrow.1;simpa using this
 refine⟨_,_,_,hc,?_⟩
 rw[qe]
 refine⟨fun hb=>?_,fun hb=>?_⟩
 ·rw[q39]
  have hge:=of_decide_eq_true hb
  have e:jG stay i=true:=by unfold jG;rw[List.getElem?_eq_none om];rfl
  rw[e]at hK;exact hK
 ·have hge:=of_decide_eq_false hb
  have hi:i<sl:=by omega
  obtain⟨a,c,e,_⟩:=hrow.ldA hi
  injection e with e1 _ _
  subst e1
  have hcell:=vC.one hrow hi
  have hi2:i<stay.length:=by omega
  rw[List.getElem?_map,List.getElem?_eq_getElem hi2]at hcell
  refine⟨_,_,_,hc,by omega,by omega,stay[i],by rw[Int.toNat_natCast];exact hcell,?_⟩
  rw[q39]
  have e:jG stay i=stay[i]:=by unfold jG;rw[List.getElem?_eq_getElem hi2];rfl
  rw[e]at hK;exact hK
theorem qnQ{n8:Nat}{b n:Int}{Y:qA}:Q6 w0 ((n8,Cs [U b,J n] 36)::Y) (.slice (some ⟨n8,0,none⟩) 1 1) [(b,n)]:=
 ⟨fun w' h'=>⟨rfl,.inr ⟨_,_,rfl,fun i hi=>by rw[qa,h'.cell (k:=0) rfl,Nat.zero_add];rfl⟩⟩,by simp⟩
theorem qoX{Y:qA}:Q6 w0 Y (.slice none 0 0) []:=⟨fun w' h'=>⟨rfl,.inl ⟨rfl,rfl⟩⟩,by simp⟩
theorem qwZ(a:Int)(ca:Option Addr)(cl cc:Nat)(wq:World):(Instr.build 41 [(0,U a),(2,.slice ca cl cc)].toArray).run P wq=.ok (.agg (zL a (.slice none 0 0) (.slice ca cl cc)).toArray) wq:=kr
theorem qge{B C:List Int}{at_:Int}(hx:YI s B)(hy:YI u C)(hp:B.Perm C)(hk:s.k=u.k)(hL1:L1.Ok w0 q1 s)(hL2:L2.Ok w0 q2 u)(hg:zr H)(hX:qD w0 X)(ha:jm at_)(h:St w0 w (L1.bl q1 s++(L2.bl q2 u++(X++H))))
  (hK:∀ w',St w0 w' H->K (.bool true) w'):qfL (some ⟨q2.cb,0,none⟩) (some ⟨q1.cb,0,none⟩) at_ w K:=by
 have hg1:zr (L2.bl q2 u++(X++H)):=hg.mono fun v hv=>List.mem_append_right _ (List.mem_append_right _ hv)
 have hg2:zr (L1.bl q1 s++(X++H)):=hg.mono fun v hv=>List.mem_append_right _ (List.mem_append_right _ hv)
 have tw:∀ {w':World},St w0 w' (L1.bl q1 s++(L2.bl q2 u++(X++H)))->St w0 w' (L2.bl q2 u++(L1.bl q1 s++(X++H))):=fun h=>h.perm (qo fun c=>by simp only[List.map_append,List.sum_append];omega)
 have wt:∀ {w':World},St w0 w' (L2.bl q2 u++(L1.bl q1 s++(X++H)))->St w0 w' (L1.bl q1 s++(L2.bl q2 u++(X++H))):=fun h=>h.perm (qo fun c=>by simp only[List.map_append,List.sum_append];omega)
 obtain⟨e1,e2,e3⟩:=hx.same hy hp hk at_
 have hb:((qW u at_).1 != 0)=((qW s at_).1 != 0):=by
  by_cases h0:(qW s at_).1=0
  ·have h1:(qW u at_).1=0:=Classical.byContradiction fun hn=>e1.2 hn h0
   rw[h0,h1]
  ·have h1:=e1.1 h0
   rw[bne_iff_ne.2 h0,bne_iff_ne.2 h1]
 have held:∀ {s:qf} {B:List Int},YI s B->s.hold.length<1000000/\∀ c,vK s c<=1000000:=fun {s B} h=>by
  refine⟨by rw[h.sim.hold];decide,fun c=>?_⟩
  unfold vK
  rw[h.sim.hold]
  show(0:Int)<=_
  omega
 have fin:∀ w3,St w0 w3 (L1.bl q1 s++(L2.bl q2 u++(X++H)))->q1I false (some ⟨q2.cb,0,none⟩) (some ⟨q1.cb,0,none⟩) w3 K:=by
  intro w3 h3
  rw[qnA,qb,qpl]
  have hgA:zr (L1.bl q1 s++(L2.bl q2 u++(X++H))):=hg1.mono fun v hv=>List.mem_append_right _ hv
  refine qiR h3 hgA fun w4 h4=>⟨_,rfl,?_⟩
  rw[qd]
  refine q0k h4 hL1 hx.base.fit.rows (held hx).1 (held hx).2 fun w5 h5=>⟨_,rfl,_,rfl,?_⟩
  refine q0k (tw h5) hL2 hy.base.fit.rows (held hy).1 (held hy).2 fun w6 h6=>⟨_,rfl,_,rfl,?_⟩
  rw[qpC,e3,beq_self_eq_true]
  exact hK w6 ((((wt h6).sub hL1.newB).sub hL2.newB).sub hX)
 rw[qn6]
 refine Zc h hL1 hg1 ha.1 ha.2 fun w1 h1=>⟨_,_,rfl,?_⟩
 refine Zc (tw h1) hL2 hg2 ha.1 ha.2 fun w2 h2=>⟨_,_,rfl,?_⟩
 rw[hb,beq_self_eq_true,Bool.not_true,qb]
 cases hb0:((qW s at_).1 != 0)with
 | true=>
  rw[Bool.not_true,qb]
  exact fin w2 (wt h2)
 | false=>
  rw[Bool.not_false,qd]
  refine q3j (wt h2) hL1 hg1 ha.1 ha.2 fun w3 h3=>⟨_,rfl,?_⟩
  refine q3j (tw h3) hL2 hg2 ha.1 ha.2 fun w4 h4=>⟨_,rfl,?_⟩
  have h0:(qW s at_).1=0:=by simpa using hb0
  rw[e2 h0]
  have:((((qW u at_).2:Nat):Int) != ((qW u at_).2:Nat))=false:=by simp
  rw[this]
  exact fin w4 (wt h4)
structure PC (w0:World) (H:qA) (all:List Int) (stay:List Bool) (k:Nat) (aa:Option Addr) (ac:Nat) (N:qA) (n10:Nat) (sa:Option Addr) (sl sc:Nat):Prop where
 g:zr H
 nd:all.Nodup
 isw:∀ x∈all,jm x
 l30:all.length<=30
 lim:all.length<=2 ^ k / 4*3
 so:zn 1 24 (.slice aa all.length ac) all.length (all.map U) N
 hN:qD w0 N
 n10:w0.heap.size<=n10
 st:∀ w',St w0 w' H->vC w' 1 (.slice sa sl sc) sl (stay.map Value.bool)
section
variable {all:List Int} {stay:List Bool} {k n10 ac sl sc t:Nat} {aa sa:Option Addr} {at_:Int}
theorem PC.glob(c:PC w0 H all stay k aa ac N n10 sa sl sc)(A:qA)(X:qA):zr (A++((n10,Cs [.slice sa sl sc] 23)::(N++(X++H)))):=
 c.g.mono fun v hv=>List.mem_append_right _ (.tail _ (List.mem_append_right _ (List.mem_append_right _ hv)))
theorem PC.kept(c:PC w0 H all stay k aa ac N n10 sa sl sc){A:qA}(hA:qD w0 A)(hX:qD w0 X)(h:St w0 w (A++((n10,Cs [.slice sa sl sc] 23)::(N++(X++H))))){i:Nat}(hK:K (.bool (jG stay i)) w) :
  q9 P 17 [J i,.pointer (some ⟨n10,0,none⟩)] w K:=by
 refine qvG ?_ (c.st w ((((h.sub hA).tail c.n10).sub c.hN).sub hX)) hK
 have hm:(n10,Cs [.slice sa sl sc] 23)∈A++((n10,Cs [.slice sa sl sc] 23)::(N++(X++H))):=List.mem_append_right _ (.head _)
 rw[qu (h.has _ _ hm)];rfl
theorem PC.addr(c:PC w0 H all stay k aa ac N n10 sa sl sc){i:Nat}(hi:i<all.length):∃ ad,aa=some ad/\∀ {w':World} {Z:qA},St w0 w' Z->(∀ v∈N,v∈Z)->∀ j,j<all.length->w'.cell? (ad.add (j*1))=some (U (qi all j)):=by
 rcases c.so.2 with⟨h1,h2,_⟩ | ⟨g,cap,cur,h1,_⟩
 ·omega
 ·injection h1 with h1 _ _
  refine⟨_,h1,fun {w' Z} h' hm j hj=>?_⟩
  have hr:vC w' 1 (.slice aa all.length ac) all.length (all.map U):=c.so.row fun v hv=>h'.has _ _ (hm v hv)
  rw[h1]at hr
  rw[Zm hj]
  exact y6 hr hj
theorem qpi{n i t:Nat}(hi:i<n)(hn:n<=30)(ht:t<256):IntKind.wrap .i64 ((IntKind.wrap .i64 ((n:Int)-1))-((IntKind.wrap .i64 ((i:Int)+IntKind.wrap .i64 (t:Int)))).tmod (n:Int))=((yP n t i:Nat):Int):=by
 rw[qc (x:=(t:Int)) om om,qc (x:=(i:Int)+t) om om,qc (x:=(n:Int)-1) om om]
 have e:((i:Int)+t).tmod n=(((i+t) % n:Nat):Int):=by
  rw[Int.tmod_eq_emod_of_nonneg om,Int.natCast_emod,Int.natCast_add]
 rw[e]
 have hlt:(i+t) % n<n:=Nat.mod_lt _ om
 unfold yP
 generalize (i+t) % n=m at *
 rw[qc om om]
 omega
theorem q74(c:PC w0 H all stay k aa ac N n10 sa sl sc)(ht:t<256)(ha:jm at_){B:List Int}(hx:YI s B)(hB:B.Perm ((yl all.length t (jG stay) all.length).map (qi all)))(hks:s.k=k)(hL1:L1.Ok w0 q1 s)(hu:YI u [])(hku:u.k=k)(hgu:u.given<=0)(hL2:L2.Ok w0 q2 u)(hX:qD w0 X)
  (h:St w0 w (L1.bl q1 s++(L2.bl q2 u++((n10,Cs [.slice sa sl sc] 23)::(N++(X++H)))))) (hK:∀ w',St w0 w' H->K (.bool true) w') :
  qH (qhL K) (qh.mk 210 [(25,J 0),(24,J all.length),(17,.slice aa all.length ac),(14,.pointer (some ⟨q2.cb,0,none⟩)),(21,.func (.func 17) #[] #[.pointer (some ⟨n10,0,none⟩)]),(3,.int .u8 t),(10,.bool false),(12,.pointer (some ⟨q1.cb,0,none⟩)),(4,U at_)] []) w:=by
 refine⟨fun m e' w'=>∃ (i:Nat) (u':qf) (L':qK) (X':qA),i<=all.length/\m=all.length-i/\e'=qh.mk 210 [(25,J i),(24,J all.length),(17,.slice aa all.length ac),(14,.pointer (some ⟨q2.cb,0,none⟩)),(21,.func (.func 17) #[] #[.pointer (some ⟨n10,0,none⟩)]),(3,.int .u8 t),(10,.bool false),(12,.pointer (some ⟨q1.cb,0,none⟩)),(4,U at_)] []/\
  YI u' ((yl all.length t (jG stay) i).map (qi all))/\u'.k=k/\u'.given<=i/\L'.Ok w0 q2 u'/\qD w0 X'/\St w0 w' (L1.bl q1 s++(L'.bl q2 u'++((n10,Cs [.slice sa sl sc] 23)::(N++(X'++H))))),
  ⟨_,0,u,L2,X,by omega,rfl,rfl,hu,hku,hgu,hL2,hX,h⟩,?_⟩
 rintro m e' w1 ⟨i,u',L',X',hi,rfl,rfl,hy,hk',hgv,hL',hX',hs⟩
 show qmJ ..
 rw[qdo,qe]
 refine⟨fun hlt=>?_,fun hge=>?_⟩
 ·have hlt:=of_decide_eq_true hlt
  have hi:i<all.length:=by omega
  have hl30:=c.l30
  rw[qoI,qpi hi hl30 ht]
  have htl:=q6v (t:=t) (i:=i) (show 0<all.length by omega)
  have hs2:St w0 w1 ((L1.bl q1 s++L'.bl q2 u')++((n10,Cs [.slice sa sl sc] 23)::(N++(X'++H)))):=by rw[List.append_assoc];exact hs
  refine⟨by omega,c.kept (qD.append hL1.newB hL'.newB) hX' hs2 ⟨_,rfl,?_⟩⟩
  rw[qe]
  refine⟨fun hb=>?_,fun hb=>?_⟩
  ·obtain⟨ad,rfl,hcell⟩:=c.addr htl
   have hs3:=hs.drew
   refine⟨by omega,by omega,qi all (yP all.length t i),?_,?_⟩
   ·rw[Int.toNat_natCast]
    exact hcell hs3 (fun v hv=>List.mem_append_right _ (List.mem_append_right _ (.tail _ (List.mem_append_left _ hv)))) _ htl
   refine Yp ⟨by decide,by decide⟩ hs3 fun w4 ov M hS hM h4=>?_
   obtain⟨ca,cc,e⟩:=hS.form
   subst e
   refine⟨_,_,_,rfl,?_,_,qwZ _ _ _ _,?_⟩
   ·rw[Int.toNat_natCast]
    exact hcell h4 (fun v hv=>List.mem_append_right _ (List.mem_append_right _ (List.mem_append_right _ (.tail _ (List.mem_append_left _ hv))))) _ htl
   have hfresh:qi all (yP all.length t i) ∉ (yl all.length t (jG stay) i).map (qi all):=fun hm=>by
    obtain⟨j,hj,he⟩:=List.mem_map.1 hm
    have:=q7o c.nd (qHa om j hj) htl he
    subst this
    exact qEK hi hj
   have hlen:((yl all.length t (jG stay) i).map (qi all)).length<=i:=by rw[List.length_map];exact qCU
   have hlim:=c.lim
   obtain⟨p1,p2,p3,p4,p5,p6,p7⟩:=hy.put (a:=qi all (yP all.length t i)) (sp:=[]) (by rw[Zm htl];exact c.isw _ (List.getElem_mem htl)) hfresh om (by unfold zJ;rw[hk'];omega) om (by decide)
   have p2':y7 u' (TR.mk (qi all (yP all.length t i)) [] c0).code.length=false:=by show y7 u' c0.length=false;rw[Qb];exact p2
   have h5:St w0 w4 (L'.bl q2 u'++(M++(L1.bl q1 s++((n10,Cs [.slice sa sl sc] 23)::(N++(X'++H)))))):=h4.perm (qo fun c=>by simp only[List.map_append,List.map_cons,List.sum_append,List.sum_cons];omega)
   have hsum:=hy.base.sum
   have hev:=hy.base.ev
   have hdr:=hy.base.dr
   have hB0:y9 w0 (M++(L1.bl q1 s++((n10,Cs [.slice sa sl sc] 23)::(N++(X'++H))))) (.slice ca (zj (zl 0 0)).length cc) c0:=(vg.of (bs:=c0) hS (yp qGS) (by rw[Qb];decide)).bytes fun v hv=>List.mem_append_left _ hv
   refine q5F (t:=⟨qi all (yP all.length t i),[],c0⟩) h5 hL' ((c.glob (L1.bl q1 s) X').mono fun v hv=>List.mem_append_right _ hv) qoX hB0 (by rw[Zm htl];exact c.isw _ (List.getElem_mem htl)) om om
    (fun _=>⟨_,hy.base.evR q2A hy.sim (by show((c0.length:Nat):Int)<=u'.len;rw[Qb,hy.len];decide)⟩) (fun hne=>absurd p1 hne) fun _ w6 L3 gone s1 ov' M' hE hok hS' hM' hs6=>?_
   obtain⟨rfl,rfl⟩:=hE.none' p2'
   obtain⟨ta,tc,e⟩:=hS'.form
   subst e
   refine⟨_,_,_,_,_,rfl,?_⟩
   rw[q3v]
   refine⟨_,?_,i+1,zS s1 ⟨qi all (yP all.length t i),[],c0⟩,L3,M'++(M++X'),by omega,rfl,?_,?_,hk',?_,hok,qD.append hM' (qD.append hM hX'),?_⟩
   ·omega
   ·rw[qc om om];rfl
   ·rw[qhO,if_pos hb,List.map_append];exact p3
   ·show s1.given+1<=_
    omega
   ·exact hs6.perm (qo fun c=>by simp only[List.map_append,List.map_cons,List.sum_append,List.sum_cons];omega)
  ·rw[q3v]
   refine⟨_,?_,i+1,u',L',X',by omega,rfl,?_,?_,hk',by omega,hL',hX',hs⟩
   ·omega
   ·rw[qc om om];rfl
   ·rw[qhO,if_neg (by rw[hb];decide)];exact hy
 ·have hge:=of_decide_eq_false hge
  have hin:i=all.length:=by omega
  subst hin
  have hs2:St w0 w1 (L1.bl q1 s++(L'.bl q2 u'++(((n10,Cs [.slice sa sl sc] 23)::(N++X'))++H))):=by rw[List.cons_append,List.append_assoc];exact hs
  refine qge hx hy hB (hks.trans hk'.symm) hL1 hL' c.g (fun v hv=>?_) ha hs2 hK
  rcases List.mem_cons.1 hv with rfl | hv
  ·exact c.n10
  ·exact qD.append c.hN hX' v hv
end
end Go.Fx.Tryz
namespace Go.Fx.Tryz
open Go Go.Fx Go.Fx.Ch
open Go.Proofs
set_option linter.all false
set_option maxRecDepth 20000
variable {w0 w:World} {H X N:qA} {K:KT} {s u:qf} {L L1 L2:qK} {q q1 q2:LB}
section
variable {all:List Int} {stay:List Bool} {k n10 ac sl sc t:Nat} {aa sa:Option Addr} {at_:Int}
theorem qBT{i:Nat}(hi:i<30):IntKind.wrap .u32 ((IntKind.wrap .u32 (i:Int))*8)=8*(i:Int):=by
 rw[jo (x:=(i:Int)) om om,jo om om]
 omega
theorem q87(c:PC w0 H all stay k aa ac N n10 sa sl sc)(ht:t<256)(ha:jm at_)(hx:XI (qi all) s (List.range all.length))(hks:s.k=k)(hL1:L1.Ok w0 q1 s)(hu:YI u [])(hku:u.k=k)(hgu:u.given<=0)(hL2:L2.Ok w0 q2 u)(hX:qD w0 X)
  (h:St w0 w (L1.bl q1 s++(L2.bl q2 u++((n10,Cs [.slice sa sl sc] 23)::(N++(X++H)))))) (hK:∀ w',St w0 w' H->K (.bool true) w') :
  qH (qkl K) (qh.mk 210 [(23,J 0),(12,.pointer (some ⟨q1.cb,0,none⟩)),(21,.func (.func 17) #[] #[.pointer (some ⟨n10,0,none⟩)]),(10,.bool false),(17,.slice aa all.length ac),(14,.pointer (some ⟨q2.cb,0,none⟩)),(3,.int .u8 t),(4,U at_)] []) w:=by
 refine⟨fun m e' w'=>∃ (i:Nat) (s':qf) (L':qK) (X':qA),i<=all.length/\m=all.length-i/\e'=qh.mk 210 [(23,J i),(12,.pointer (some ⟨q1.cb,0,none⟩)),(21,.func (.func 17) #[] #[.pointer (some ⟨n10,0,none⟩)]),(10,.bool false),(17,.slice aa all.length ac),(14,.pointer (some ⟨q2.cb,0,none⟩)),(3,.int .u8 t),(4,U at_)] []/\
  XI (qi all) s' (xl all.length (jG stay) i)/\s'.k=k/\L'.Ok w0 q1 s'/\qD w0 X'/\St w0 w' (L'.bl q1 s'++(L2.bl q2 u++((n10,Cs [.slice sa sl sc] 23)::(N++(X'++H))))),
  ⟨_,0,s,L1,X,by omega,rfl,rfl,by rw[qwe];exact hx,hks,hL1,hX,h⟩,?_⟩
 rintro m e' w1 ⟨i,s',L',X',hi,rfl,rfl,hy,hk',hL',hX',hs⟩
 show qk5 ..
 rw[qdp,qe]
 refine⟨fun hlt=>?_,fun hge=>?_⟩
 ·have hlt:=of_decide_eq_true hlt
  have hi:i<all.length:=by omega
  have hl30:=c.l30
  rw[qno,qBT om]
  have hs2:St w0 w1 ((L'.bl q1 s'++L2.bl q2 u)++((n10,Cs [.slice sa sl sc] 23)::(N++(X'++H)))):=by rw[List.append_assoc];exact hs
  refine c.kept (qD.append hL'.newB hL2.newB) hX' hs2 ⟨_,rfl,?_⟩
  rw[qe]
  refine⟨fun hb=>?_,fun hb=>?_⟩
  ·have hb:jG stay i=false:=by simpa using hb
   have hsum:=hy.y.base.sum
   have hev:=hy.y.base.ev
   have hdr:=hy.y.base.dr
   have hgv:=hy.y.base.given
   have hfew:=hy.y.base.few
   refine⟨_,qja _ _,qjj (r:=(8*(i:Int),1)) hs hL' (c.glob (L2.bl q2 u) X') om hdr om fun w6 L3 s6 ov M hF hok hS hM h6=>?_⟩
   obtain⟨oa,oc,e⟩:=hS.form
   subst e
   refine⟨_,_,_,rfl,?_⟩
   rw[q3i]
   refine⟨_,?_,i+1,{ s6 with dr:=s6.dr+(yN s' (8*(i:Int),1)).length },L3,M++X',by omega,rfl,?_,?_,?_,hok,qD.append hM hX',?_⟩
   ·omega
   ·rw[qc om om];rfl
   ·rw[qzs hb]
    exact hy.drop qsg (fun j hj=>by have:=qH5 j hj;omega) om hF
   ·show s6.k=_
    rw[hF.conf.2.1];exact hk'
   ·exact h6.perm (qo fun c=>by simp only[List.map_append,List.map_cons,List.sum_append,List.sum_cons];omega)
  ·have hb:jG stay i=true:=by simpa using hb
   rw[q3i]
   refine⟨_,?_,i+1,s',L',X',by omega,rfl,?_,by rw[qwN hb];exact hy,hk',hL',hX',hs⟩
   ·omega
   ·rw[qc om om];rfl
 ·have hge:=of_decide_eq_false hge
  have hin:i=all.length:=by omega
  subst hin
  rw[qo9,qpk,qps]
  refine q74 c ht ha hy.y ?_ hk' hL' hu hku hgu hL2 hX' hs hK
  rw[qCW]
  exact((qxJ all.length t (jG stay)).symm.map _)
theorem qgN(c:PC w0 H all stay k aa ac N n10 sa sl sc){i:Nat}(hi:i<all.length)(hx:XI (qi all) s (List.range i))(hgv:s.given=i)(hks:s.k=k)(hL1:L1.Ok w0 q1 s)(hL2:L2.Ok w0 q2 u)(hX:qD w0 X){Y:YT}
  (h:St w0 w (L1.bl q1 s++(L2.bl q2 u++((n10,Cs [.slice sa sl sc] 23)::(N++(X++H))))))
  (hY:∀ (w':World) (s':qf) (L':qK) (X':qA),XI (qi all) s' (List.range (i+1))->s'.given=(i+1:Nat)->s'.k=k->L'.Ok w0 q1 s'->qD w0 X'->St w0 w' (L'.bl q1 s'++(L2.bl q2 u++((n10,Cs [.slice sa sl sc] 23)::(N++(X'++H)))))->
   Y (qh.mk 210 [(22,J ((i+1:Nat):Int)),(17,.slice aa all.length ac),(12,.pointer (some ⟨q1.cb,0,none⟩)),(10,.bool false),(21,.func (.func 17) #[] #[.pointer (some ⟨n10,0,none⟩)]),(14,.pointer (some ⟨q2.cb,0,none⟩)),(3,.int .u8 t),(4,U at_)] []) w') :
  qhr aa all.length ac (some ⟨q1.cb,0,none⟩) false ⟨n10,0,none⟩ (some ⟨q2.cb,0,none⟩) t at_ i w K Y:=by
 have hl30:=c.l30
 obtain⟨ad,rfl,hcell⟩:=c.addr hi
 rw[qnX,qBT om]
 have h2:=h.drew
 have haw:jm (qi all i):=by rw[Zm hi];exact c.isw _ (List.getElem_mem hi)
 have hlim:=c.lim
 obtain⟨p1,p2,p3,p4⟩:=hx.put hgv haw (fun j hj he=>by have:=q7o c.nd om hi he;omega) om (by unfold zJ;rw[hks];omega)
 have p2':y7 s (TR.mk (qi all i) [(8*(i:Int),1)] c0).code.length=false:=by show y7 s c0.length=false;rw[Qb];exact p2
 have fin:∀ (w':World) (nb:Nat) (M:qA) (ca:Option Addr) (cc:Nat),w0.heap.size<=nb->zn 1 5 (.slice ca (zj (zl 0 0)).length cc) (zj (zl 0 0)).length ((zj (zl 0 0)).map B) M->qD w0 M->
   St w0 w' ((nb,Cs [U (8*(i:Int)),J 1] 36)::(M++(L1.bl q1 s++(L2.bl q2 u++((n10,Cs [.slice sa sl sc] 23)::(N++(X++H)))))))->
   q9 P 18 [.pointer (some ⟨q1.cb,0,none⟩),.agg (zL (qi all i) (.slice (some ⟨nb,0,none⟩) 1 1) (.slice ca (zj (zl 0 0)).length cc)).toArray] w' (fun r w''=>∃ x:Int,∃ (ta:Option Addr) (tl tc:Nat),∃ x2:Int,r=(.tuple [U x,.slice ta tl tc,J x2].toArray)/\
    q4a (some ad) all.length ac (some ⟨q1.cb,0,none⟩) false ⟨n10,0,none⟩ (some ⟨q2.cb,0,none⟩) t at_ i w'' K Y):=by
  intro w' nb M ca cc hnb hS hM h'
  have h5:St w0 w' (L1.bl q1 s++((nb,Cs [U (8*(i:Int)),J 1] 36)::(M++(L2.bl q2 u++((n10,Cs [.slice sa sl sc] 23)::(N++(X++H))))))):=h'.perm (qo fun c=>by simp only[List.map_append,List.map_cons,List.sum_append,List.sum_cons];omega)
  have hB0:y9 w0 ((nb,Cs [U (8*(i:Int)),J 1] 36)::(M++(L2.bl q2 u++((n10,Cs [.slice sa sl sc] 23)::(N++(X++H)))))) (.slice ca (zj (zl 0 0)).length cc) c0:=(vg.of (bs:=c0) hS (yp qGS) (by rw[Qb];decide)).bytes fun v hv=>.tail _ (List.mem_append_left _ hv)
  refine q5F (t:=⟨qi all i,[(8*(i:Int),1)],c0⟩) h5 hL1 ((c.glob (L2.bl q2 u) X).mono fun v hv=>.tail _ (List.mem_append_right _ hv)) qnQ hB0 haw om om
   (fun _=>⟨_,hx.y.base.evR q2A hx.y.sim (by show((c0.length:Nat):Int)<=s.len;rw[Qb,hx.y.len];decide)⟩) (fun hne=>absurd p1 hne) fun _ w6 L3 gone s1 ov' M' hE hok hS' hM' hs6=>?_
  obtain⟨rfl,rfl⟩:=hE.none' p2'
  obtain⟨ta,tc,e⟩:=hS'.form
  subst e
  refine⟨_,_,_,_,_,rfl,?_⟩
  rw[qn7,qc om om]
  refine hY w6 _ L3 (M'++((nb,Cs [U (8*(i:Int)),J 1] 36)::(M++X))) p3 p4 hks hok (qD.append hM' fun v hv=>?_) ?_
  ·rcases List.mem_cons.1 hv with rfl | hv
   ·exact hnb
   ·exact qD.append hM hX v hv
  ·exact hs6.perm (qo fun c=>by simp only[List.map_append,List.map_cons,List.sum_append,List.sum_cons];omega)
 refine⟨by omega,by omega,_,qja _ _,qi all i,?_,⟨⟨rfl,trivial⟩,?_⟩,?_⟩
 ·rw[Int.toNat_natCast]
  exact hcell h2 (fun v hv=>List.mem_append_right _ (List.mem_append_right _ (.tail _ (List.mem_append_left _ hv)))) _ hi
 ·refine h2.newC fun nb w3 hnb h3=>⟨?_,?_⟩
  ·rw[Int.toNat_natCast]
   exact hcell h3 (fun v hv=>.tail _ (List.mem_append_right _ (List.mem_append_right _ (.tail _ (List.mem_append_left _ hv))))) _ hi
  have h3:St w0 w3 ((nb,Cs [U (8*(i:Int)),J 1] 36)::(L1.bl q1 s++(L2.bl q2 u++((n10,Cs [.slice sa sl sc] 23)::(N++(X++H)))))):=h3
  refine Yp ⟨by decide,by decide⟩ h3 fun w4 ov M hS hM h4=>?_
  obtain⟨ca,cc,e⟩:=hS.form
  subst e
  refine⟨_,_,_,rfl,?_,_,qcE _ _ _ _ _,fin w4 nb M ca cc hnb hS hM ?_⟩
  ·rw[Int.toNat_natCast]
   exact hcell h4 (fun v hv=>List.mem_append_right _ (.tail _ (List.mem_append_right _ (List.mem_append_right _ (.tail _ (List.mem_append_left _ hv)))))) _ hi
  ·exact h4.perm (qo fun c=>by simp only[List.map_append,List.map_cons,List.sum_append,List.sum_cons];omega)
 ·refine Yp ⟨by decide,by decide⟩ h2 fun w4 ov M hS hM h4=>?_
  obtain⟨ca,cc,e⟩:=hS.form
  subst e
  refine⟨_,_,_,rfl,?_,⟨rfl,trivial⟩,?_⟩
  ·rw[Int.toNat_natCast]
   exact hcell h4 (fun v hv=>List.mem_append_right _ (List.mem_append_right _ (List.mem_append_right _ (.tail _ (List.mem_append_left _ hv))))) _ hi
  refine h4.newC fun nb w3 hnb h3=>⟨?_,_,qcE _ _ _ _ _,fin w3 nb M ca cc hnb hS hM h3⟩
  rw[Int.toNat_natCast]
  exact hcell h3 (fun v hv=>.tail _ (List.mem_append_right _ (List.mem_append_right _ (List.mem_append_right _ (.tail _ (List.mem_append_left _ hv)))))) _ hi
theorem q7m(c:PC w0 H all stay k aa ac N n10 sa sl sc)(ht:t<256)(ha:jm at_)(hx:XI (qi all) s [])(hgs:s.given=0)(hks:s.k=k)(hL1:L1.Ok w0 q1 s)(hu:YI u [])(hku:u.k=k)(hgu:u.given<=0)(hL2:L2.Ok w0 q2 u)(hX:qD w0 X)
  (h:St w0 w (L1.bl q1 s++(L2.bl q2 u++((n10,Cs [.slice sa sl sc] 23)::(N++(X++H)))))) (hK:∀ w',St w0 w' H->K (.bool true) w') :
  qH (qlH K) (qh.mk 210 [(22,J 0),(17,.slice aa all.length ac),(12,.pointer (some ⟨q1.cb,0,none⟩)),(10,.bool false),(21,.func (.func 17) #[] #[.pointer (some ⟨n10,0,none⟩)]),(14,.pointer (some ⟨q2.cb,0,none⟩)),(3,.int .u8 t),(4,U at_)] []) w:=by
 refine⟨fun m e' w'=>∃ (i:Nat) (s':qf) (L':qK) (X':qA),i<=all.length/\m=all.length-i/\e'=qh.mk 210 [(22,J i),(17,.slice aa all.length ac),(12,.pointer (some ⟨q1.cb,0,none⟩)),(10,.bool false),(21,.func (.func 17) #[] #[.pointer (some ⟨n10,0,none⟩)]),(14,.pointer (some ⟨q2.cb,0,none⟩)),(3,.int .u8 t),(4,U at_)] []/\
  XI (qi all) s' (List.range i)/\s'.given=i/\s'.k=k/\L'.Ok w0 q1 s'/\qD w0 X'/\St w0 w' (L'.bl q1 s'++(L2.bl q2 u++((n10,Cs [.slice sa sl sc] 23)::(N++(X'++H))))),
  ⟨_,0,s,L1,X,by omega,rfl,rfl,hx,hgs,hks,hL1,hX,h⟩,?_⟩
 rintro m e' w1 ⟨i,s',L',X',hi,rfl,rfl,hy,hgv,hk',hL',hX',hs⟩
 show qka ..
 rw[qfw,qe]
 refine⟨fun hlt=>?_,fun hge=>?_⟩
 ·have hlt:=of_decide_eq_true hlt
  have hi:i<all.length:=by omega
  exact qgN c hi hy hgv hk' hL' hL2 hX' hs fun w' s2 L2' X2 g1 g2 g3 g4 g5 g6=>⟨_,by omega,i+1,s2,L2',X2,by omega,rfl,rfl,g1,g2,g3,g4,g5,g6⟩
 ·have hge:=of_decide_eq_false hge
  have hin:i=all.length:=by omega
  subst hin
  rw[qoD,qnz]
  exact q87 c ht ha hy hk' hL' hu hku hgu hL2 hX' hs hK
end
theorem ZC{l:List Int}{x:Int}{j:Nat}(h:j<l.length):decide (x∈l.take (j+1))=(decide (x∈l.take j)||(l[j]==x)):=by
 rw[List.take_succ_eq_append_getElem h]
 by_cases h1:x∈l.take j
 ·rw[decide_eq_true h1,decide_eq_true (List.mem_append_left _ h1),Bool.true_or]
 ·rw[decide_eq_false h1,Bool.false_or]
  by_cases h2:l[j]=x
  ·rw[decide_eq_true (List.mem_append_right _ (List.mem_singleton.2 h2.symm)),h2,beq_self_eq_true]
  ·rw[decide_eq_false (fun hm=>(List.mem_append.1 hm).elim h1 fun hm=>h2 (List.mem_singleton.1 hm).symm),beq_eq_false_iff_ne.2 h2]
theorem q9l{all ins:List Int}{aa ia:Option Addr}{ac ic i t:Nat}{p1 p2:Option Addr}{a7:Addr}{at_ most:Int}{Z:qA}{Y11:YT}(hi:i<ins.length)(hal:all.length<1000)
  (hA:∀ w',St w0 w' Z->vC w' 1 (.slice aa all.length ac) all.length (all.map U)) (hI:∀ w',St w0 w' Z->vC w' 1 (.slice ia ins.length ic) ins.length (ins.map U)) (h:St w0 w Z)
  (hend:∀ w',St w0 w' Z->qhm ia ins.length ic false p1 p2 t at_ a7 most i aa all.length ac (decide (ins[i]∈all)) w' K Y11) :
  qH (qiT K Y11) (qh.mk 210 [(20,J 0),(18,J i),(1,.slice ia ins.length ic),(17,.slice aa all.length ac),(19,.bool false),(10,.bool false),(12,.pointer p1),(14,.pointer p2),(3,.int .u8 t),(4,U at_),(7,.pointer (some a7)),(16,J most)] []) w:=by
 refine⟨fun m e' w'=>∃ (j:Nat),j<=all.length/\m=all.length-j/\e'=qh.mk 210 [(20,J j),(18,J i),(1,.slice ia ins.length ic),(17,.slice aa all.length ac),(19,.bool (decide (ins[i]∈all.take j))),(10,.bool false),(12,.pointer p1),(14,.pointer p2),(3,.int .u8 t),(4,U at_),(7,.pointer (some a7)),(16,J most)] []/\St w0 w' Z,
  ⟨_,0,by omega,rfl,by simp,h⟩,?_⟩
 rintro m e' w1 ⟨j,hj,rfl,rfl,hs⟩
 show qj0 ..
 rw[qdO,qe]
 refine⟨fun hlt=>?_,fun hge=>?_⟩
 ·have hlt:=of_decide_eq_true hlt
  have hj:j<all.length:=by omega
  rw[qnZ,qe]
  refine⟨fun hb=>?_,fun hb=>?_⟩
  ·rw[q36]
   refine⟨_,?_,j+1,by omega,rfl,?_,hs.drew⟩
   ·omega
   ·rw[qc om om,ZC hj,hb,Bool.true_or];rfl
  ·have hs2:=hs.drew
   obtain⟨ad,_,e,_⟩:=(hA _ hs2).ldA hj
   injection e with e _ _
   subst e
   obtain⟨id',_,e,_⟩:=(hI _ hs2).ldA hi
   injection e with e _ _
   subst e
   refine⟨by omega,by omega,by omega,by omega,all[j],?_,ins[i],?_,?_⟩
   ·rw[Int.toNat_natCast];exact y6 (hA _ hs2) hj
   ·rw[Int.toNat_natCast];exact y6 (hI _ hs2) hi
   rw[q36]
   refine⟨_,?_,j+1,by omega,rfl,?_,hs2⟩
   ·omega
   ·rw[qc om om,ZC hj,hb,Bool.false_or];rfl
 ·have hge:=of_decide_eq_false hge
  have hin:j=all.length:=by omega
  subst hin
  have:=hend w1 hs
  rw[List.take_length]
  exact this
theorem q83{ins:List Int}{ia sa:Option Addr}{ic sl sc n10 t most:Nat}{p1 p2:Option Addr}{at_:Int}{R:qA}(hi30:ins.length<=30)(hiw:∀ x∈ins,jm x)(hn10:w0.heap.size<=n10)(hR:qD w0 R)
  (hI:∀ w',St w0 w' H->vC w' 1 (.slice ia ins.length ic) ins.length (ins.map U)) (h:St w0 w ((n10,Cs [.slice sa sl sc] 23)::(R++H)))
  (hend:∀ (w':World) (all:List Int) (aa:Option Addr) (ac:Nat) (N:qA),all.Nodup->(∀ x∈all,jm x)->all.length<=30->all.length<=most->zn 1 24 (.slice aa all.length ac) all.length (all.map U) N->qD w0 N->St w0 w' ((n10,Cs [.slice sa sl sc] 23)::(N++(R++H)))->
   q5j aa all.length ac p1 false p2 t at_ ⟨n10,0,none⟩ w' K) :
  qH (qkb K) (qh.mk 210 [(18,J 0),(1,.slice ia ins.length ic),(17,.slice none 0 0),(10,.bool false),(12,.pointer p1),(14,.pointer p2),(3,.int .u8 t),(4,U at_),(7,.pointer (some ⟨n10,0,none⟩)),(16,J most)] []) w:=by
 refine⟨fun m e' w'=>∃ (i:Nat) (all:List Int) (aa:Option Addr) (ac:Nat) (N:qA),i<=ins.length/\m=ins.length-i/\e'=qh.mk 210 [(18,J i),(1,.slice ia ins.length ic),(17,.slice aa all.length ac),(10,.bool false),(12,.pointer p1),(14,.pointer p2),(3,.int .u8 t),(4,U at_),(7,.pointer (some ⟨n10,0,none⟩)),(16,J most)] []/\
  all.Nodup/\(∀ x∈all,jm x)/\all.length<=i/\all.length<=most/\zn 1 24 (.slice aa all.length ac) all.length (all.map U) N/\qD w0 N/\St w0 w' ((n10,Cs [.slice sa sl sc] 23)::(N++(R++H))),
  ⟨_,0,[],none,0,[],by omega,rfl,rfl,List.nodup_nil,fun x hx=>(by cases hx),Nat.le_refl _,Nat.zero_le _,zn.nil 1 24,qD.nil _,h⟩,?_⟩
 rintro m e' w1 ⟨i,all,aa,ac,N,hi,rfl,rfl,hnd,haw,hli,hlm,hS,hN,hs⟩
 show qih ..
 have over:∀ w',St w0 w' ((n10,Cs [.slice sa sl sc] 23)::(N++(R++H)))->q5j aa all.length ac p1 false p2 t at_ ⟨n10,0,none⟩ w' K:=fun w' h'=>hend w' all aa ac N hnd haw om hlm hS hN h'
 rw[qhq,qe]
 refine⟨fun hlt=>?_,fun hge=>?_⟩
 ·have hlt:=of_decide_eq_true hlt
  have hi:i<ins.length:=by omega
  rw[q3t,qe]
  refine⟨fun hm=>?_,fun _=>over w1 hs⟩
  have hm:=of_decide_eq_true hm
  rw[qn0,qn1,qol]
  have hII:∀ w',St w0 w' ((n10,Cs [.slice sa sl sc] 23)::(N++(R++H)))->vC w' 1 (.slice ia ins.length ic) ins.length (ins.map U):=fun w' h'=>hI w' (((h'.tail hn10).sub hN).sub hR)
  refine q9l hi om (fun w' h'=>hS.row fun v hv=>h'.has _ _ (.tail _ (List.mem_append_left _ hv))) hII hs fun w2 h2=>?_
  rw[qog,qe]
  refine⟨fun hb=>?_,fun hb=>?_⟩
  ·have hb:ins[i] ∉ all:=by simpa using hb
   obtain⟨id',_,e,_⟩:=(hII _ h2).ldA hi
   injection e with e _ _
   subst e
   refine⟨by omega,by omega,ins[i],by rw[Int.toNat_natCast];exact y6 (hII _ h2) hi,⟨rfl,trivial⟩,?_⟩
   refine h2.newC fun n4 w3 hn4 h3=>?_
   have h3:St w0 w3 ([(n4,Cs [U ins[i]] 24)]++(N++((n10,Cs [.slice sa sl sc] 23)::(R++H)))):=by
    have h3:St w0 w3 ((n4,Cs [U ins[i]] 24)::(n10,Cs [.slice sa sl sc] 23)::(N++(R++H))):=h3
    exact h3.perm (qo fun c=>by simp only[List.map_append,List.map_cons,List.map_nil,List.sum_append,List.sum_cons,List.sum_nil];omega)
   obtain⟨g,cap,w5,N',hrun,hX,h5,hXN⟩:=St.append (P:=P) 22 22 24 Tryz.t24 (U 0) 1 4 Tryz.underlying22 kr rfl rfl rfl rfl om (A:=[(n4,Cs [U ins[i]] 24)]) (news:=[U ins[i]]) h3 hS hN (j:=0) rfl rfl (fun v hv=>by rw[List.mem_singleton.1 hv];rfl) (by simp[maxLen];omega) om
   refine⟨_,_,_,w5,hrun,?_⟩
   rw[q3w,qc om om]
   refine⟨_,?_,i+1,all++[ins[i]],some ⟨g,0,none⟩,cap,N',by omega,rfl,by rw[List.length_append];rfl,?_,?_,?_,?_,?_,hXN,?_⟩
   ·omega
   ·exact List.nodup_append.2 ⟨hnd,by simp,fun a ha b hb'=>by rw[List.mem_singleton.1 hb'];rintro rfl;exact hb ha⟩
   ·intro x hx
    rcases List.mem_append.1 hx with hx | hx
    ·exact haw x hx
    ·rw[List.mem_singleton.1 hx];exact hiw _ (List.getElem_mem hi)
   ·rw[List.length_append];simp only[List.length_cons,List.length_nil];omega
   ·rw[List.length_append];simp only[List.length_cons,List.length_nil];omega
   ·rw[List.length_append,List.map_append];exact hX
   ·have h6:St w0 w5 ((n4,Cs [U ins[i]] 24)::(n10,Cs [.slice sa sl sc] 23)::(N'++(R++H))):=h5.perm (qo fun c=>by simp only[List.map_append,List.map_cons,List.map_nil,List.sum_append,List.sum_cons,List.sum_nil];omega)
    exact h6.tail hn4
  ·rw[q3w,qc om om]
   exact⟨_,by omega,i+1,all,aa,ac,N,by omega,rfl,rfl,hnd,haw,by omega,hlm,hS,hN,h2⟩
 ·rw[q3t,qb]
  exact over w1 hs
theorem qsW:qv P 27=#[J 0,J 0,J 0]:=kr
theorem qEA(x:Int)(wq:World):(Instr.build 27 [(0,J 1),(1,J 1048576),(2,J x)].toArray).run P wq=.ok (.agg #[J 1,J 1048576,J x]) wq:=kr
theorem q6V{x:Int}(h0:0<=x):∃ m:Nat,m<7/\x.tmod 7=m/\IntKind.wrap .i64 (16*2 ^ (min (Int.toNat (x.tmod 7)) (IntKind.bits .i64)))=((2 ^ (4+m):Nat):Int)/\zX 1 1048576 ((2 ^ (4+m):Nat):Int)=true:=by
 have e:x.tmod 7=((x % 7).toNat:Int):=by rw[Int.tmod_eq_emod_of_nonneg h0];omega
 have hlt:(x % 7).toNat<7:=by omega
 refine⟨(x % 7).toNat,hlt,e,?_⟩
 rw[e]
 generalize (x % 7).toNat=m at *
 have:m=0\/m=1\/m=2\/m=3\/m=4\/m=5\/m=6:=by omega
 rcases this with rfl | rfl | rfl | rfl | rfl | rfl | rfl<;>exact⟨by decide,by decide⟩
theorem qwk{k:Nat}(h4:4<=k)(h16:k<=16):IntKind.wrap .i64 ((IntKind.wrap .i64 (((2 ^ k:Nat):Int).tdiv 4))*3)=((2 ^ k / 4*3:Nat):Int):=by
 rcases j8 h4 h16 with rfl | rfl | rfl | rfl | rfl | rfl | rfl | rfl | rfl | rfl | rfl | rfl | rfl<;>decide
theorem qjF{a b:Nat}(h:((2 ^ a:Nat):Int)=((2 ^ b:Nat):Int)):a=b:=(Nat.pow_right_inj (by decide)).1 (Int.natCast_inj.1 h)
theorem qdb{ins:List Int}{stay:List Bool}{ia sa:Option Addr}{ic sl sc t:Nat}{slots at_:Int}(h:St w0 w H)(hg:zr H)(hs0:0<=slots)(ht:t<256)(ha:jm at_)(hiw:∀ x∈ins,jm x)
  (hI:∀ w',St w0 w' H->vC w' 1 (.slice ia ins.length ic) ins.length (ins.map U)) (hst:∀ w',St w0 w' H->vC w' 1 (.slice sa sl sc) sl (stay.map Value.bool)) (hK:∀ w',St w0 w' H->K (.bool true) w') :
  q9 P 3 [.int .u8 slots,.slice ia ins.length ic,.slice sa sl sc,.int .u8 t,U at_] w K:=by
 refine qHT _ _ _ _ _ _ _ _ _ _ _ ?_
 rw[qIl,qqv]
 refine h.newC fun n10 w1 hn10 h1=>?_
 have h1:St w0 w1 ((n10,Cs [.slice sa sl sc] 23)::H):=h1
 have hg1:zr ((n10,Cs [.slice sa sl sc] 23)::H):=hg.mono fun v hv=>.tail _ hv
 rw[qrd,qe]
 refine⟨fun _=>qiR h1 hg1 fun w2 h2=>⟨_,rfl,hK w2 (h2.tail hn10)⟩,fun h30=>?_⟩
 have h30:=of_decide_eq_false h30
 obtain⟨m,hm,em,e16,hcf⟩:=q6V hs0
 rw[qtP,e16,em]
 refine⟨by decide,by omega,_,qEA _,?_⟩
 rw[qsW]
 refine h1.newC fun n28 w3 hn28 h3=>h3.stA (k:=0) rfl rfl (by simp) (by simp[Value.oneCell']) fun w4 h4=>?_
 have h4:St w0 w4 ((n28,Cs [J 1,J 1048576,J ((2 ^ (4+m):Nat):Int)] 27)::(n10,Cs [.slice sa sl sc] 23)::H):=h4
 rw[qsu]
 refine h4.ldA (k:=0) rfl (by simp) ?_
 refine qcg h4 (fun hc=>by rw[hcf]at hc;cases hc) fun n k hn hk _ _ hk4 hk16 _ _ _ w5 q1 L1 hL1 h5=>⟨_,_,rfl,?_⟩
 have hn1:n=1:=by omega
 subst hn1
 have hkm:=qjF hk
 subst hkm
 rw[quE]
 have h5':St w0 w5 ((n28,Cs [J 1,J 1048576,J ((2 ^ (4+m):Nat):Int)] 27)::(L1.bl q1 (vl 1 1048576 (4+m))++((n10,Cs [.slice sa sl sc] 23)::H))):=h5.perm (qo fun c=>by simp only[List.map_append,List.map_cons,List.sum_append,List.sum_cons];omega)
 refine h5'.ldA (k:=0) rfl (by simp) ?_
 refine qcg h5' (fun hc=>by rw[hcf]at hc;cases hc) fun n k hn hk _ _ _ _ _ _ _ w6 q2 L2 hL2 h6=>⟨_,_,rfl,?_⟩
 have hn1:n=1:=by omega
 subst hn1
 have hkm:=qjF hk
 subst hkm
 rw[qsv]
 simp only[show((0:Int) != 0)=false from rfl,qb,Option.isNone_some]
 rw[qrF,qb,qr3]
 have hmem:(n28,Cs [J 1,J 1048576,J ((2 ^ (4+m):Nat):Int)] 27)∈L2.bl q2 (vl 1 1048576 (4+m))++((n28,Cs [J 1,J 1048576,J ((2 ^ (4+m):Nat):Int)] 27)::(L1.bl q1 (vl 1 1048576 (4+m))++((n10,Cs [.slice sa sl sc] 23)::H))):=List.mem_append_right _ (.head _)
 refine⟨((2 ^ (4+m):Nat):Int),by rw[qa,qu (h6.has _ _ hmem)];rfl,by decide,?_⟩
 rw[qqE,qsH,qoL,qwk om om]
 have h7:St w0 w6 ((n10,Cs [.slice sa sl sc] 23)::((L1.bl q1 (vl 1 1048576 (4+m))++(L2.bl q2 (vl 1 1048576 (4+m))++[(n28,Cs [J 1,J 1048576,J ((2 ^ (4+m):Nat):Int)] 27)]))++H)):=h6.perm (qo fun c=>by simp only[List.map_append,List.map_cons,List.map_nil,List.sum_append,List.sum_cons,List.sum_nil];omega)
 have hX:qD w0 [(n28,Cs [J 1,J 1048576,J ((2 ^ (4+m):Nat):Int)] 27)]:=fun v hv=>by rw[List.mem_singleton.1 hv];exact hn28
 refine q83 om hiw hn10 (qD.append hL1.newB (qD.append hL2.newB hX)) hI h7 fun w8 all aa ac N hnd haw hl30 hlm hS hN h8=>?_
 rw[qp2,qoM,qok]
 have hb:zo (vl 1 1048576 (4+m)):=zo.new om om om om om om
 have hy:YI (vl 1 1048576 (4+m)) []:=⟨hb,qsl _ _ _,List.Perm.nil,rfl⟩
 have h9:St w0 w8 (L1.bl q1 (vl 1 1048576 (4+m))++(L2.bl q2 (vl 1 1048576 (4+m))++((n10,Cs [.slice sa sl sc] 23)::(N++([(n28,Cs [J 1,J 1048576,J ((2 ^ (4+m):Nat):Int)] 27)]++H))))):=h8.perm (qo fun c=>by simp only[List.map_append,List.map_cons,List.map_nil,List.sum_append,List.sum_cons,List.sum_nil];omega)
 exact q7m (k:=4+m) ⟨hg,hnd,haw,hl30,hlm,hS,hN,hn10,hst⟩ ht ha ⟨hy,List.Perm.nil,fun i hi=>(by cases hi),fun i hi=>(by cases hi)⟩ rfl rfl hL1 hy rfl (Int.le_refl _) hL2 hX h9 hK
end Go.Fx.Tryz
