/- A part of the proof. -/
import Derived.Test.YtepbaneageipfaaGreatDoorKaEi
import Derived.KernelRfl
import Derived.ChangeKeysEq
import Derived.Laws.Slices
import Derived.MapKept
set_option linter.all false
set_option autoImplicit true
set_option relaxedAutoImplicit true
noncomputable section
namespace Go.Fx.Tryz
set_option maxRecDepth 100000
open Go Go.Fx Go.Proofs
def c54:=qm Tryz.f54
def qNb:=Tryz.f54.results.toList
abbrev q6l K:=qr P qNb K
def f54 a b c w K:=CS P c54 none [2,3] [2,3] (q6l K) (qz 68 [(VS a b c)]) w
def qth a b c d f g h i j k w K:=SG c54 15 [2,3] [2,3] (q6l K) 68 [(2,VS a b c),(3,VI d),(4,VS f g h),(0,VS i j k)] w
abbrev qG5 K:=kq c54 31 [2,3] [2,3] (q6l K)
abbrev qvM K:=qo 0 (qG5 K)
def qB5 K Y1 e w:=zt (fun e w=>CS P (cA c54 500) none [2,3,7,21,4,0,19,20] [2,3,7] (qu [2,3,7,21,4,0,19,20] Y1 (qvM K)) e w) e w
abbrev q1h K Y1:=qu [2,3,7,21,4,0,19,20] Y1 (qvM K)
def qlN a b c d f g h i j k l m n o p q r s w K Y1:=SG c54 500 [2,3,7,21,4,0,19,20] [2,3,7] (q1h K Y1) 68 [(2,VS a b c),(3,VI d),(7,VS f g h),(21,VI i),(4,VS j k l),(0,VS m n o),(19,VS p q r),(20,VI s)] w
def quI a b c d f g h i j k l m n o p q r s w K Y1:=SG c54 2003 [2,3,7,21,4,0,19,20] [2,3,7] (q1h K Y1) 68 [(2,VS a b c),(3,VI d),(7,VS f g h),(4,VS i j k),(0,VS l m n),(19,VS o p q),(20,VI r),(21,VI s)] w
abbrev qDF K Y1:=kq c54 2003 [2,3,7,21,4,0,19,20] [2,3,7] (q1h K Y1)
abbrev q7s K Y1:=qo 1 (qDF K Y1)
abbrev qAa K Y1:=kq c54 16025 [2,3,7,4,0,19,20,21] [2,3,7,4,0,19,20,21] (q7s K Y1)
def q1s a b c d f g h i j k l m n o p q r s t u v w K Y1:=SG c54 64101 [2,3,4,0,19,20,21,9,7,8] [2,3,7,4,0,19,20,21] (qAa K Y1) 68 [(35,VB a),(2,VS b c d),(3,VI f),(7,VS g h i),(4,VS j k l),(0,VS m n o),(19,VS p q r),(20,VI s),(21,VI t),(9,VQ u),(8,VI v)] w
def qeT a b c d f g h i j k l m n o p q r s w K Y1:=SG c54 4007 [2,3,7,21,4,0,19,20] [2,3,7] (q1h K Y1) 68 [(2,VS a b c),(3,VI d),(7,VS f g h),(4,VS i j k),(0,VS l m n),(19,VS o p q),(20,VI r),(21,VI s)] w
theorem q4I:qeT a b c d e f g h i j k l m n o p q r w K Y1=(Y1 (qi.mk 68 [(2,(Value.slice a b c)),(3,(Value.int .i64 d)),(7,(Value.slice e f g)),(21,(Value.int .i64 (IntKind.wrap .i64 (r+1)))),(4,(Value.slice h i j)),(0,(Value.slice k l m)),(19,(Value.slice n o p)),(20,(Value.int .i64 q))] []) w):=kr
def qyt a b c d f g h i j k l m n o p q r s t u w K Y1:=SG c54 32051 [2,3,7,4,0,19,20,21] [2,3,7,4,0,19,20,21] (q7s K Y1) 68 [(2,VS a b c),(3,VI d),(4,VS f g h),(0,VS i j k),(19,VS l m n),(20,VI o),(21,VI p),(9,VQ q),(7,VS r s t),(8,VI u)] w
def q6P a b c d f g h i j k l m n o p q r s t u w K Y1:=SG c54 128207 [2,3,7,4,0,19,20,21] [2,3,7,4,0,19,20,21] (q7s K Y1) 68 [(2,VS a b c),(3,VI d),(4,VS f g h),(0,VS i j k),(19,VS l m n),(20,VI o),(21,VI p),(9,VQ q),(10,VI r),(7,VS s t u)] w
theorem qrp:q6P c d e f g h i j k l m n o p q a r s t u w K Y1=(∃ x:Int,w.cell? (a.add 15)=some (.int .i64 x)/\∃ y:Int,w.cell? (a.add 9)=some (.int .u32 y)/\∃ z:Int,w.cell? (a.add 8)=some (.int .i64 z)/\∃ a0:Int,w.cell? (a.add 10)=some (.int .u32 a0)/\∃ b:Array Value,(∀ wq,(Instr.build 62 #[(0,(Value.int .i64 x)),(1,(Value.int .i64 (IntKind.wrap .i64 (r-4)))),(2,(Value.int .u32 y)),(3,(Value.int .i64 z)),(4,(Value.int .u32 a0))]).run P wq=.ok (.agg b) wq)/\qJ 5 [(Value.agg b)]/\qv (([(Value.agg b)].map fun(v:Value)=>v.cells.toList).flatten.toArray) 62 w (fun f0 g0=>∃ (b0:OA) (c0 d0:Nat),∃ e0:World,(Builtin.append_ #[58,58] 58 #[(Value.slice s t u),(Value.slice (some (Addr.mk f0 0 none)) 1 1)]).run P g0=.ok (.slice b0 c0 d0) e0/\qeT c d e f b0 c0 d0 g h i j k l m n o p q e0 K Y1)):=kr
theorem qoT:qyt e f g h c a i j d k l m n o p q r s t b w K Y1=(qp (decide ((IntKind.wrap .i64 (b+1))<((a:Nat):Int))) (qh c (fun v=>0<=(IntKind.wrap .i64 (b+1))/\(IntKind.wrap .i64 (b+1))<(a:Nat)/\∃ u:Int,w.cell? ((v.add (Int.toNat (IntKind.wrap .i64 (b+1))*16)).add 15)=some (.int .i64 u)/\q6P e f g h c a i j d k l m n o p q u r s t w K Y1)) (q6P e f g h c a i j d k l m n o p q ((d:Nat):Int) r s t w K Y1)):=kr
theorem q4a:q1s s a b c d e f g h i j k l m n o p q r t u w K Y1=(qp s (qeT a b c d e f g h i j k l m n o p q r w K Y1) (qyt a b c d h i j k l m n o p q r t e f g u w K Y1)):=kr
theorem qqF:quI f g h i j k l m n o p q r c d s t a w K Y1=(qh c (fun x=>0<=a/\a<(d:Nat)/\qU 16 (x.add (Int.toNat a*16)) w (fun y=>qv (qx P 151) 151 w (fun b z=>zT 16 (Addr.mk b 0 none) y z (fun e=>∃ u:Int,e.cell? (Addr.mk b 0 none)=some (.int .i64 u)/\qp (u != 39) (∃ v:Int,e.cell? (Addr.mk b 0 none)=some (.int .i64 v)/\q1s (v != 40) f g h i j k l m n o p q r c d s t a (Addr.mk b 0 none) a e K Y1) (q1s false f g h i j k l m n o p q r c d s t a (Addr.mk b 0 none) a e K Y1)))))):=kr
def qwX a b c w K:=SG c54 63 [2,3] [2,3] (q6l K) 68 [(7,VS a b c)] w
theorem qqI:qwX a b c w K=(K (Value.tuple #[(Value.slice a b c),(Value.int .i64 0)]) w):=kr
theorem qgm:qlN f g h i a b c d j k l m n o p q r e w K Y1=(qp (decide (d<e)) (quI f g h i a b c j k l m n o p q r e d w K Y1) (qwX a b c w K)):=kr
theorem qpV:qth d e f g b a c h i j w K=(qK (qB5 K) (qi.mk 68 [(2,(Value.slice d e f)),(3,(Value.int .i64 g)),(7,(Value.slice none 0 0)),(21,(Value.int .i64 0)),(4,(Value.slice b a c)),(0,(Value.slice h i j)),(19,(Value.slice b a c)),(20,(Value.int .i64 ((a:Nat):Int)))] []) w):=kr
theorem qGG:f54 a b c w K=(q9 P 98 [(Value.slice a b c)] w (fun i d=>∃ (e:OA) (f g:Nat),∃ j:Int,∃ h:Bool,i=(.tuple #[(Value.slice e f g),(Value.int .i64 j),(Value.bool h)])/\qp (!h) (K (Value.tuple #[(Value.slice none 0 0),(Value.int .i64 170)]) d) (qth none 0 0 0 e f g a b c d K))):=kr
theorem qIy a b c w K(h:f54 a b c w K):q9 P 54 [(Value.slice a b c)] w K:=qA c54 Tryz.func54 h
def ZP:=qm Tryz.f98
def qNL:=Tryz.f98.results.toList
abbrev yR K:=qr P qNL K
def f98 a b c w K:=CS P ZP none [2,3,4] [2,3,4] (yR K) (qz 69 [(VS a b c)]) w
def qvC a b c w K:=SC ZP 1 [2,3,4] [2,3,4] (yR K) 69 [(0,VS a b c)] w
abbrev qIG K:=kq ZP 1 [2,3,4] [2,3,4] (yR K)
def qtk a b c d e f g w K:=SC ZP 3 [2,3,4] [2,3,4] (yR K) 69 [(4,VB false),(3,VI a),(2,VS b c d),(0,VS e f g)] w
abbrev qwT K:=kq ZP 3 [2,3,4] [2,3,4] (yR K)
abbrev qG4 K:=kq ZP 6 [0,2,3,4] [2,3,4] (qwT K)
def qx1 a b c d f g h i w K:=SG ZP 7 [2,3,4] [2,3,4] (yR K) 69 [(0,VS a b c),(2,VS d f g),(3,VI h),(4,VB i)] w
abbrev qGk K:=kq ZP 7 [2,3,4] [2,3,4] (yR K)
def qsO a b c d e f g h i j k w K:=SC ZP 15 [2,3,4] [2,3,4] (yR K) 69 [(5,VS a b c),(0,VS d e f),(2,VS g h i),(3,VI j),(4,VB k)] w
abbrev q2Z K:=kq ZP 15 [2,3,4] [2,3,4] (yR K)
abbrev qGP K:=kq ZP 30 [0,5] [2,3,4] (q2Z K)
def qxy a b c d e f g h i j k l w K:=SC ZP 61 [0,5] [2,3,4] (q2Z K) 69 [(6,VI a),(5,VS b c d),(0,VS e f g),(2,VS h i j),(3,VI k),(4,VB l)] w
abbrev qeW K:=qo 0 (q2Z K)
def qzh K Y5 e w:=zt (fun e w=>CS P (cA ZP 244) none [0,5,6,2,3,4] [2,3,4,0,5] (qu [0,5,6,2,3,4] Y5 (qeW K)) e w) e w
abbrev q0J K Y5:=qu [0,5,6,2,3,4] Y5 (qeW K)
def qmL a b c d f g h i j k l m w K Y5:=SG ZP 244 [0,5,6,2,3,4] [2,3,4,0,5] (q0J K Y5) 69 [(0,VS a b c),(5,VS d f g),(6,VI h),(2,VS i j k),(3,VI l),(4,VB m)] w
abbrev qsD K Y5:=kq ZP 244 [0,5,6,2,3,4] [2,3,4,0,5] (q0J K Y5)
abbrev qGj K Y5:=kq ZP 488 [0,5,6,2,3,4] [2,3,4,0,5] (qsD K Y5)
def qwg a b c d f g h i j k l m w K Y5:=SG ZP 489 [0,5,6,2,3,4] [2,3,4,0,5] (q0J K Y5) 69 [(0,VS a b c),(5,VS d f g),(6,VI h),(2,VS i j k),(3,VI l),(4,VB m)] w
abbrev VX K Y5:=qo 1 (q0J K Y5)
abbrev qEJ K Y5:=kq ZP 978 [0,5,6,2,3,4] [2,3,4,0,5,6] (VX K Y5)
abbrev qDw K Y5:=kq ZP 1957 [0,5,6,2,3,4] [2,3,4,0,5,6] (VX K Y5)
def Yx a b c d f g h i j k l m n o p w K Y5:=SG ZP 7829 [0,2,3,4,8,6,7,5] [2,3,4,0,5,6] (qDw K Y5) 69 [(41,VB a),(0,VS b c d),(5,VS f g h),(6,VI i),(2,VS j k l),(3,VI m),(4,VB n),(8,VI o),(7,VQ p)] w
def quS a b c d f g h i j k l m n o w K Y5:=SG ZP 3915 [0,5,6,2,3,4] [2,3,4,0,5,6] (VX K Y5) 69 [(0,VS a b c),(2,VS d f g),(3,VI h),(4,VB i),(8,VI j),(6,VI k),(7,VQ l),(5,VS m n o)] w
abbrev qDz K Y5:=kq ZP 3915 [0,5,6,2,3,4] [2,3,4,0,5,6] (VX K Y5)
theorem qqx:quS d e f g h i j k l c m n o p w K Y5=(qU 15 m w (fun x=>∃ q:Array Value,(∀ wq,(Instr.build 151 #[(0,(Value.agg x)),(1,(Value.int .i64 c))]).run P wq=.ok (.agg q) wq)/\qJ 16 [(Value.agg q)]/\qv (([(Value.agg q)].map fun(v:Value)=>v.cells.toList).flatten.toArray) 151 w (fun y z=>∃ (r:OA) (s t:Nat),∃ u:World,(Builtin.append_ #[147,147] 147 #[(Value.slice n o p),(Value.slice (some (Addr.mk y 0 none)) 1 1)]).run P z=.ok (.slice r s t) u/\Y5 (qi.mk 69 [(0,(Value.slice d e f)),(5,(Value.slice r s t)),(6,(Value.int .i64 (IntKind.wrap .i64 (c+l)))),(2,(Value.slice g h i)),(3,(Value.int .i64 j)),(4,(Value.bool k))] []) u))):=qB (qG [0,5,2,3,4,8,6] (qDz K Y5) kr)
theorem Jn:Yx c d e f g h i a j k l m n o p w K Y5=(qp c (K (Value.tuple #[(Value.slice none 0 0),(Value.int .i64 a),(Value.bool false)]) w) (quS d e f j k l m n o a p g h i w K Y5)):=qB kr
theorem qqt:qwg d e f g c i h j k l m n w K Y5=(∃ (r:OA) (s t:Nat),(∀ wq,(Instr.sliceAt 38 (Value.slice d e f) (some (.int .i64 h)) none none).run P wq=.ok (.slice r s t) wq)/\q9 P 138 [(Value.slice r s t)] w (fun y z=>∃ u:Array Value,∃ o:Int,∃ v:Int,y=(.tuple #[(Value.agg u),(Value.int .i64 o),(Value.int .i64 v)])/\qv (qx P 119) 119 z (fun p a0=>zT 15 (Addr.mk p 0 none) u a0 (fun q=>qp (v != 0) (Yx true d e f g c i h j k l m n o (Addr.mk p 0 none) q K Y5) (qp (decide ((((c:Nat):Int):Int) > 0)) (qh g (fun b0=>0<=(IntKind.wrap .i64 ((((c:Nat):Int):Int)-1))/\(IntKind.wrap .i64 ((((c:Nat):Int):Int)-1))<(c:Nat)/\qU 15 (b0.add (Int.toNat (IntKind.wrap .i64 ((((c:Nat):Int):Int)-1))*16)) q (fun c0=>q9 P 139 [(Value.agg c0)] q (fun d0 e0=>∃ x:Bool,d0=(.bool x)/\Yx x d e f g c i h j k l m n o (Addr.mk p 0 none) e0 K Y5)))) (Yx false d e f g c i h j k l m n o (Addr.mk p 0 none) q K Y5)))))):=qB (Q8 1 [2,3,4,0,5,6] (VX K Y5) (qG [0,5,6,2,3,4,8,7,9] (qEJ K Y5) kr))
def qwY a b c d f g w K:=SG ZP 31 [2,3,4] [2,3,4] (yR K) 69 [(0,VS a b c),(5,VS d f g)] w
abbrev q7W K:=kq ZP 31 [2,3,4] [2,3,4] (yR K)
abbrev qDe K:=kq ZP 62 [5] [2,3,4] (q7W K)
def VU a b c d f g h w K:=SG ZP 125 [5] [2,3,4] (q7W K) 69 [(65,VB a),(0,VS b c d),(5,VS f g h)] w
def qju a b c w K:=SG ZP 63 [2,3,4] [2,3,4] (yR K) 69 [(5,VS a b c)] w
abbrev qz2 K:=kq ZP 63 [2,3,4] [2,3,4] (yR K)
theorem qg0:qju c d e w K=(K (Value.tuple #[(Value.slice c d e),(Value.int .i64 0),(Value.bool true)]) w):=qB (qG [2,3,4] (qz2 K) kr)
theorem q2g:VU a g c h d e f w K=(qp a (K (Value.tuple #[(Value.slice none 0 0),(Value.int .i64 ((c:Nat):Int)),(Value.bool false)]) w) (qju d e f w K)):=qB kr
theorem qpR:qwY e f g d c h w K=(qp ((((c:Nat):Int):Int)==0) (VU true e f g d c h w K) (qh d (fun j=>0<=(IntKind.wrap .i64 ((((c:Nat):Int):Int)-1))/\(IntKind.wrap .i64 ((((c:Nat):Int):Int)-1))<(c:Nat)/\qU 15 (j.add (Int.toNat (IntKind.wrap .i64 ((((c:Nat):Int):Int)-1))*16)) w (fun k=>q9 P 139 [(Value.agg k)] w (fun l m=>∃ i:Bool,l=(.bool i)/\VU (!i) e f g d c h m K))))):=qB (qG [5] (q7W K) (qG [65,0,5] (qDe K) kr))
theorem qf6:qmL d c e f g h i j k l m n w K Y5=(qp (decide (i<((c:Nat):Int))) (qwg d c e f g h i j k l m n w K Y5) (qwY d c e f g h w K)):=qB (qG [0,5,6,2,3,4] (qsD K Y5) (qG [16,0,5,6,2,3,4] (qGj K Y5) kr))
theorem qpk:qxy a c d e f g h i j k l m w K=(qK (qzh K) (qi.mk 69 [(0,(Value.slice f g h)),(5,(Value.slice c d e)),(6,(Value.int .i64 a)),(2,(Value.slice i j k)),(3,(Value.int .i64 l)),(4,(Value.bool m))] []) w):=Eq.trans (b:=CS P (cA ZP 61) none [0,5] [2,3,4] (q2Z K) (qi.mk 69 [(6,(VI a)),(5,(VS c d e)),(0,(VS f g h)),(2,(VS i j k)),(3,(VI l)),(4,(VB m))] []) w) kr (Eq.trans (Zc 0 [2,3,4,0,5] (qeW K) kr) ((qS (b:=(cA ZP 244)) (X':=[2,3,4,0,5]) (H:=[0,5,6,2,3,4]) kr kr kr).trans kr))
theorem qoP:qsO c d e f g h i j k l m w K=(qxy 0 c d e f g h i j k l m w K):=Eq.trans (b:=CS P (cA ZP 15) none [2,3,4] [2,3,4] (yR K) (qi.mk 69 [(5,(VS c d e)),(0,(VS f g h)),(2,(VS i j k)),(3,(VI l)),(4,(VB m))] []) w) kr (Eq.trans (qZ [0,5] (q2Z K) kr) (Eq.trans (qZ [0,5,6,2,3,4] (qGP K) kr) kr))
theorem qpQ:qx1 c d e f g h i j w K=(qsO none 0 0 c d e f g h i j w K):=qB (qG [0,5,2,3,4] (qGk K) kr)
theorem qpS:qtk d e f g h c i w K=(qp (decide ((((c:Nat):Int):Int) > 65536)) (K (Value.tuple #[(Value.slice none 0 0),(Value.int .i64 0),(Value.bool false)]) w) (qx1 h c i e f g d false w K)):=Eq.trans (b:=CS P (cA ZP 3) none [2,3,4] [2,3,4] (yR K) (qi.mk 69 [(4,(VB false)),(3,(VI d)),(2,(VS e f g)),(0,(VS h c i))] []) w) kr (Eq.trans (qZ [0,2,3,4] (qwT K) kr) (Eq.trans (qZ [12,0,2,3,4] (qG4 K) kr) kr))
theorem qpq:qvC c d e w K=(qtk 0 none 0 0 c d e w K):=Eq.trans (b:=CS P (cA ZP 1) none [2,3,4] [2,3,4] (yR K) (qi.mk 69 [(0,(VS c d e))] []) w) kr (Eq.trans (qZ [0,2,3,4] (qIG K) kr) kr)
theorem qJl:f98 a b c w K=(qvC a b c w K):=kr
theorem qGa a b c w K(h:f98 a b c w K):q9 P 98 [(Value.slice a b c)] w K:=qA ZP Tryz.func98 h
def jL:=qm Tryz.f138
def q3u:=Tryz.f138.results.toList
abbrev vd K:=qr P q3u K
def f138 a b c w K:=CS P jL none [2,3,4] [2,3,4] (vd K) (qz 93 [(VS a b c)]) w
abbrev qyz K:=kq jL 31 [2,3,4] [2,3,4] (vd K)
def q0R a b c d f g h w K:=SG jL 125 [5,7,6,2,3,4] [2,3,4] (qyz K) 93 [(31,VB a),(2,VQ b),(5,VQ c),(7,VQ d),(6,VQ f),(3,VI g),(4,VI h)] w
def q7k a b c d f g w K:=SG jL 63 [2,3,4] [2,3,4] (vd K) 93 [(5,VQ a),(7,VQ b),(6,VQ c),(2,VQ d),(3,VI f),(4,VI g)] w
abbrev qDW K:=kq jL 63 [2,3,4] [2,3,4] (vd K)
abbrev qn6 K:=qo 0 (qDW K)
def q8F(a b c e:Addr)(f g:Int)(l:Nat)(R:LoopState->Option Code->Loop)(post:Option Code->World->Prop)(args:List Value)(W:World):Prop:=args.length=1/\CS P (cA jL 1012) (some l) [5,9,7] [] (jw P (cA jL 1013) l R post) { zl (qi.mk 93 [(5,(VP (some a))),(7,(VP (some b))),(6,(VP (some c))),(2,(VP (some e))),(3,(VI f)),(4,(VI g))] []) [34] args with d:=[] } W
abbrev qux(l:Nat)(R:LoopState->Option Code->Loop)(post:Option Code->World->Prop):Exit->YT:=jw P (cA jL 1013) l R post
def qai(a b c d:Addr)(e f:Int)(g:Array Value)(w:World)(l:Nat)(R:LoopState->Option Code->Loop)(post:Option Code->World->Prop):Prop:=CS P (cA jL 1012) (some l) [5,9,7] [] (qux l R post) (qi.mk 93 [(34,(Value.agg g)),(5,(VP (some a))),(7,(VP (some b))),(6,(VP (some c))),(2,(VP (some d))),(3,(VI e)),(4,(VI f))] []) w
def qmt a b c w l R post:=Ys P (cA jL 1013) (some l) [] [] (q1k l R post) (qi.mk 93 [(5,(VP (some a))),(9,(VP (some b))),(7,(VP (some c)))] []) w
theorem qiI:qmt c b f w l R post=(qU 3 f w (fun s=>∃ g:Int,w.cell? b=some (.int .i64 g)/\q9 P 169 [(Value.agg s),(Value.int .i64 g)] w (fun t a=>∃ h:Bool,t=(.bool h)/\qp (!h) (a.heap[l]?=some (.loop (R .busy none))/\post none (a.putObj l (.loop (R .ready none)))) (∃ i:Int,a.cell? b=some (.int .i64 i)/\qp (i==128) (∃ d:Option Addr,a.drew.cell? (b.add 1)=some (.pointer d)/\∃ j:Option Addr,a.drew.cell? c=some (.pointer j)/\q9 P 166 [(Value.pointer j),(Value.int .i64 2)] a.drew (fun u k=>∃ m:Int,u=(.int .u32 m)/\k.cell? (b.add 1)=some (.pointer d)/\qh d (fun v=>zW v (Value.int .i64 (IntKind.wrap .i64 m)) k (fun n=>n.heap[l]?=some (.loop (R .busy none))/\post none (n.putObj l (.loop (R .ready none))))))) (∃ e:Option Addr,a.drew.cell? (b.add 1)=some (.pointer e)/\∃ o:Option Addr,a.drew.cell? c=some (.pointer o)/\q9 P 166 [(Value.pointer o),(Value.int .i64 1)] a.drew (fun x p=>∃ q:Int,x=(.int .u32 q)/\p.cell? (b.add 1)=some (.pointer e)/\qh e (fun y=>zW y (Value.int .i64 (IntKind.wrap .i64 q)) p (fun r=>r.heap[l]?=some (.loop (R .busy none))/\post none (r.putObj l (.loop (R .ready none))))))))))):=kr
theorem q8z:qai a b f g h i c w l R post=(qv (qx P 222) 222 w (fun d j=>zT 3 (Addr.mk d 0 none) c j (fun e=>e.heap[l]?=some (.loop (R .ready none))/\qmt a (Addr.mk d 0 none) b (e.putObj l (.loop (R .busy none))) l R post))):=kr
theorem qb7:q8F b c d e f g l R post [(Value.agg a)] w=([(Value.agg a)].length=1/\qai b c d e f g a w l R post):=kr
def q9I(a b c e:Addr)(f g:Int)(d:List Deferred)(w:World)(K:KT):Prop:=(qn6 K) .normal (qi.mk 93 [(5,(VP (some a))),(7,(VP (some b))),(6,(VP (some c))),(2,(VP (some e))),(3,(VI f)),(4,(VI g))] d) w
def q6r a b c f g h d w K:=Ys P (cA jL 127) none [2,3,4] [2,3,4] (vd K) (qi.mk 93 [(6,(VP (some a))),(5,(VP (some b))),(2,(VP (some c))),(3,(VI f)),(4,(VI g)),(7,(VP (some h)))] d) w
def q0V a b c f g h d w K:=Ys P (cA jL 255) none [2,3,4] [2,3,4] (vd K) (qi.mk 93 [(6,(VP (some a))),(5,(VP (some b))),(2,(VP (some c))),(3,(VI f)),(4,(VI g)),(7,(VP (some h)))] d) w
def q0Q a b c f g h d w K:=Ys P (cA jL 511) none [2,3,4] [2,3,4] (vd K) (qi.mk 93 [(6,(VP (some a))),(5,(VP (some b))),(2,(VP (some c))),(3,(VI f)),(4,(VI g)),(7,(VP (some h)))] d) w
abbrev qxW K:=kq jL 511 [2,3,4] [2,3,4] (vd K)
abbrev q8H K:=qo 3 (qxW K)
def qs4 K Y7 e w:=zt (fun e w=>CS P (cA jL 32724) none [69,6,5,2,3,4] [2,3,4,5,6] (qu [69,6,5,2,3,4] Y7 (q8H K)) e w) e w
abbrev q1u K Y7:=qu [69,6,5,2,3,4] Y7 (q8H K)
def qce a b c f g h d w K Y7:=Ys P (cA jL 32724) none [69,6,5,2,3,4] [2,3,4,5,6] (q1u K Y7) (qi.mk 93 [(69,(VI a)),(6,(VP (some b))),(5,(VP (some c))),(2,(VP (some f))),(3,(VI g)),(4,(VI h))] d) w
def qnE a b c f g h d w K Y7:=Ys P (cA jL 130899) none [69,6,5,2,3,4] [2,3,4,5,6] (q1u K Y7) (qi.mk 93 [(6,(VP (some a))),(5,(VP (some b))),(2,(VP (some c))),(3,(VI f)),(4,(VI g)),(69,(VI h))] d) w
def qm4 a b c f g h d w K Y7:=Ys P (cA jL 261799) none [69,6,5,2,3,4] [2,3,4,5,6] (q1u K Y7) (qi.mk 93 [(6,(VP (some a))),(5,(VP (some b))),(2,(VP (some c))),(3,(VI f)),(4,(VI g)),(69,(VI h))] d) w
theorem qh3:qm4 a b c e f g d w K Y7=(Y7 (qi.mk 93 [(69,(Value.int .i64 (IntKind.wrap .i64 (g+1)))),(6,(Value.pointer (some a))),(5,(Value.pointer (some b))),(2,(Value.pointer (some c))),(3,(Value.int .i64 e)),(4,(Value.int .i64 f))] d) w):=kr
theorem qeD:qnE b c e f g a d w K Y7=(∃ h:Option Addr,w.cell? c=some (.pointer h)/\q9 P 166 [(Value.pointer h),(Value.int .i64 4)] w (fun j k=>∃ i:Int,j=(.int .u32 i)/\0<=a/\a<(4:Nat)/\zW ((b.add 11).add (Int.toNat a*1)) (Value.int .u32 i) k (fun l=>qm4 b c e f g a d l K Y7))):=kr
def Vb a b c d w K:=Ys P (cA jL 1023) none [2,3,4] [2,3,4] (vd K) (qi.mk 93 [(2,(VP (some a))),(5,(VP (some b))),(6,(VP (some c)))] d) w
abbrev qtg K:=kq jL 1023 [2,3,4] [2,3,4] (vd K)
def Vu a b c f d w K:=Ys P (cA jL 4093) none [2,5,6] [2,3,4] (qtg K) (qi.mk 93 [(86,(VB a)),(2,(VP (some b))),(5,(VP (some c))),(6,(VP (some f)))] d) w
def qbw a b c d w K:=Ys P (cA jL 2047) none [2,3,4] [2,3,4] (vd K) (qi.mk 93 [(2,(VP (some a))),(5,(VP (some b))),(6,(VP (some c)))] d) w
def qbM a b c d w K:=Ys P (cA jL 4095) none [2,3,4] [2,3,4] (vd K) (qi.mk 93 [(2,(VP (some a))),(3,(VI b)),(4,(VI c))] d) w
theorem qcA:qbM a b c d w K=(zr P q3u (qi.mk 93 [(2,(Value.pointer (some a))),(3,(Value.int .i64 b)),(4,(Value.int .i64 c))] d) K d w):=kr
theorem qaw:qbw a b g d w K=(qU 15 g w.drew (fun i=>∃ c:Option Addr,w.drew.cell? b=some (.pointer c)/\qh c (fun h=>∃ e:Int,w.drew.cell? (h.add 1)=some (.int .i64 e)/\zT 15 a i w.drew (fun f=>f.cell? (h.add 1)=some (.int .i64 e)/\f.cell? b=some (.pointer c)/\qbM a e 0 d f K)))):=kr
theorem q08:Vu b a c e d w K=(qp b (∃ f:Array Value,(∀ wq,(Instr.build 119 #[]).run P wq=.ok (.agg f) wq)/\zT 15 a f w (fun g=>zr P q3u (qi.mk 93 [(4,(Value.int .i64 170)),(3,(Value.int .i64 0)),(87,(Value.agg f)),(86,(Value.bool true)),(86,(Value.bool b)),(2,(Value.pointer (some a))),(5,(Value.pointer (some c))),(6,(Value.pointer (some e)))] d) K d g)) (qbw a c e d w K)):=kr
theorem qab:Vb c a b d w K=(∃ e:Option Addr,w.cell? a=some (.pointer e)/\qh e (fun h=>∃ f:Bool,w.cell? (h.add 2)=some (.bool f)/\qp f (Vu true c a b d w K) (qU 15 b w (fun i=>q9 P 170 [(Value.agg i)] w (fun j k=>∃ g:Int,j=(.int .i64 g)/\Vu (g != 0) c a b d k K))))):=kr
theorem q9L:qce a b c e f g d w K Y7=(qp (decide (a<4)) (qnE b c e f g a d w K Y7) (Vb e c b d w K)):=kr
theorem qhh:q0Q a b c e f g d w K=(qU 3 g w (fun j=>q9 P 169 [(Value.agg j),(Value.int .i64 1024)] w (fun k h=>∃ i:Bool,k=(.bool i)/\qp i (qK (qs4 K) (qi.mk 93 [(69,(Value.int .i64 0)),(6,(Value.pointer (some a))),(5,(Value.pointer (some b))),(2,(Value.pointer (some c))),(3,(Value.int .i64 e)),(4,(Value.int .i64 f))] d) h) (Vb c b a d h K)))):=kr
theorem qit:q0V a b e f g c d w K=(qU 3 c w (fun l=>q9 P 169 [(Value.agg l),(Value.int .i64 512)] w (fun m h=>∃ i:Bool,m=(.bool i)/\qp i (∃ j:Option Addr,h.cell? b=some (.pointer j)/\q9 P 166 [(Value.pointer j),(Value.int .i64 4)] h (fun n o=>∃ k:Int,n=(.int .u32 k)/\zW (a.add 10) (Value.int .u32 k) o (fun p=>q0Q a b e f g c d p K))) (q0Q a b e f g c d h K)))):=kr
theorem qft:q6r a b e f g c d w K=(qU 3 c w (fun l=>q9 P 169 [(Value.agg l),(Value.int .i64 256)] w (fun m h=>∃ i:Bool,m=(.bool i)/\qp i (∃ j:Option Addr,h.cell? b=some (.pointer j)/\q9 P 166 [(Value.pointer j),(Value.int .i64 4)] h (fun n o=>∃ k:Int,n=(.int .u32 k)/\zW (a.add 9) (Value.int .u32 k) o (fun p=>q0V a b e f g c d p K))) (q0V a b e f g c d h K)))):=kr
theorem q8R:q9I a b c e f g d w K=(q6r c a e f g b d w K):=kr
theorem qd2:q7k b c a d e f w K=(q9 P 168 [(Value.pointer (some a)),(Value.pointer (some a))] w (fun h i=>∃ g:Value,h=g/\Q6 P (qn6 K) (qi.mk 93 [(5,(Value.pointer (some b))),(7,(Value.pointer (some c))),(6,(Value.pointer (some a))),(2,(Value.pointer (some d))),(3,(Value.int .i64 e)),(4,(Value.int .i64 f))] []) i g (q8F b c a d e f))):=kr
theorem q1F:q0R b a c d e f g w K=(qp b (∃ h:Array Value,(∀ wq,(Instr.build 119 #[]).run P wq=.ok (.agg h) wq)/\zT 15 a h w (fun i=>qU 15 a i (fun j=>K (Value.tuple #[(Value.agg j),(Value.int .i64 0),(Value.int .i64 170)]) i))) (q7k c d e a f g w K)):=kr
theorem qyA:f138 e f g w K=(qv (qx P 119) 119 w (fun h t=>∃ i:Array Value,(∀ wq,(Instr.build 211 #[(0,(Value.slice e f g))]).run P wq=.ok (.agg i) wq)/\qv i 211 t (fun u v=>qv (qx P 209) 209 v (fun a x=>zW (Addr.mk a 0 none) (Value.pointer (some (Addr.mk u 0 none))) x (fun j=>∃ k:Option Addr,j.cell? (Addr.mk a 0 none)=some (.pointer k)/\q9 P 166 [(Value.pointer k),(Value.int .i64 1)] j (fun y z=>∃ l:Int,y=(.int .u32 l)/\∃ m:Array Value,(∀ wq,(Instr.build 119 #[(0,(Value.int .i64 (IntKind.wrap .i64 l)))]).run P wq=.ok (.agg m) wq)/\qv (qx P 119) 119 z (fun b a0=>zT 15 (Addr.mk b 0 none) m a0 (fun n=>∃ o:Int,n.cell? (Addr.mk b 0 none)=some (.int .i64 o)/\q9 P 167 [(Value.int .i64 o)] n (fun b0 c0=>∃ p:Array Value,∃ q:Bool,b0=(.tuple #[(Value.agg p),(Value.bool q)])/\qv (qx P 214) 214 c0 (fun d d0=>zT 3 (Addr.mk d 0 none) p d0 (fun c=>qp (!q) (q0R true (Addr.mk h 0 none) (Addr.mk a 0 none) (Addr.mk d 0 none) (Addr.mk b 0 none) 0 0 c K) (∃ r:Option Addr,c.cell? (Addr.mk a 0 none)=some (.pointer r)/\qh r (fun e0=>∃ s:Bool,c.cell? (e0.add 2)=some (.bool s)/\q0R s (Addr.mk h 0 none) (Addr.mk a 0 none) (Addr.mk d 0 none) (Addr.mk b 0 none) 0 0 c K))))))))))))):=kr
theorem qzd a b c w K(h:f138 a b c w K):q9 P 138 [(Value.slice a b c)] w K:=qA jL Tryz.func138 h
def q5Z:=qm Tryz.f166
def qLt:=Tryz.f166.results.toList
abbrev q0I K:=qr P qLt K
def f166 a b w K:=CS P q5Z none [4] [4] (q0I K) (qz 54 [(VP a),(VI b)]) w
def qoE a b c w K:=SG q5Z 7 [4] [4] (q0I K) 54 [(0,VP a),(4,Value.int .u32 b),(1,VI c)] w
abbrev qAB K:=kq q5Z 15 [4] [4] (q0I K)
abbrev qjB K:=qo 0 (qAB K)
def quR K Y1 e w:=zt (fun e w=>CS P (cA q5Z 244) none [23,0,5,4,1,22] [4,5,1,0] (qu [23,0,5,4,1,22] Y1 (qjB K)) e w) e w
abbrev q2x K Y1:=qu [23,0,5,4,1,22] Y1 (qjB K)
def q9J a b c d f g w K Y1:=SG q5Z 244 [23,0,5,4,1,22] [4,5,1,0] (q2x K Y1) 54 [(23,VI a),(0,VP b),(5,Value.int .u32 c),(4,Value.int .u32 d),(1,VI f),(22,VI g)] w
def qmw a b c d f g w K Y1:=SG q5Z 979 [23,0,5,4,1,22] [4,5,1,0] (q2x K Y1) 54 [(0,VP a),(4,Value.int .u32 b),(1,VI c),(22,VI d),(23,VI f),(5,Value.int .u32 g)] w
def qkx a b c d f g w K Y1:=SG q5Z 1959 [23,0,5,4,1,22] [4,5,1,0] (q2x K Y1) 54 [(0,VP a),(5,Value.int .u32 b),(4,Value.int .u32 c),(1,VI d),(22,VI f),(23,VI g)] w
theorem qi1:qkx a b c d e f w K Y1=(Y1 (qi.mk 54 [(23,(Value.int .i64 (IntKind.wrap .i64 (f+1)))),(0,(Value.pointer a)),(5,(Value.int .u32 b)),(4,(Value.int .u32 c)),(1,(Value.int .i64 d)),(22,(Value.int .i64 e))] []) w):=kr
theorem qeM:qmw b d e f a g w K Y1=(qh b (fun k=>qh b (fun l=>∃ (h:OA) (i m:Nat),w.drew.cell? k=some (.slice h i m)/\∃ c:Int,w.drew.cell? (l.add 1)=some (.int .i64 c)/\qh h (fun n=>0<=(IntKind.wrap .i64 (c+a))/\(IntKind.wrap .i64 (c+a))<(i:Nat)/\∃ j:Int,w.drew.cell? (n.add (Int.toNat (IntKind.wrap .i64 (c+a))*1))=some (.int .u8 j)/\0<=(IntKind.wrap .i64 ((8:Int)*a))/\qkx b (IntKind.wrap .u32 ((BitVec.ofInt (IntKind.bits .u32) g ||| BitVec.ofInt (IntKind.bits .u32) (IntKind.wrap .u32 ((IntKind.wrap .u32 j)*2 ^ (min (Int.toNat (IntKind.wrap .i64 ((8:Int)*a))) (IntKind.bits .u32))))).toNat:Int)) d e f a w.drew K Y1)))):=kr
def qjW a b c w K:=SG q5Z 31 [4] [4] (q0I K) 54 [(5,Value.int .u32 a),(1,VI b),(0,VP c)] w
theorem qhz:qjW b c a w K=(qh a (fun e=>∃ d:Int,w.cell? (e.add 1)=some (.int .i64 d)/\qh a (fun f=>zW (f.add 1) (Value.int .i64 (IntKind.wrap .i64 (d+c))) w (fun g=>K (Value.int .u32 b) g)))):=kr
theorem qbz:q9J a b c f d e w K Y1=(qp (decide (a<e)) (qmw b f d e a c w K Y1) (qjW c d b w K)):=kr
theorem qeI:qoE b c a w K=(qK (quR K) (qi.mk 54 [(23,(Value.int .i64 0)),(0,(Value.pointer b)),(5,(Value.int .u32 0)),(4,(Value.int .u32 c)),(1,(Value.int .i64 a)),(22,(Value.int .i64 a))] []) w):=kr
theorem qDR:f166 a b w K=(qh a (fun e=>qh a (fun f=>∃ c:Int,w.drew.cell? (e.add 1)=some (.int .i64 c)/\∃ (g:OA) (d h:Nat),w.drew.cell? f=some (.slice g d h)/\qp (decide ((IntKind.wrap .i64 (c+b)) > ((d:Nat):Int))) (qh a (fun i=>zW (i.add 2) (Value.bool true) w.drew (fun j=>K (Value.int .u32 0) j))) (qoE a 0 b w.drew K)))):=kr
theorem qBh a b w K(h:f166 a b w K):q9 P 166 [(Value.pointer a),(Value.int .i64 b)] w K:=qA q5Z Tryz.func166 h
def qso:=qm Tryz.f167
def qM6:=Tryz.f167.results.toList
abbrev q5o K:=qr P qM6 K
def f167 a w K:=CS P qso none [2,3] [2,3] (q5o K) (qz 14 [(VI a)]) w
abbrev qB1 K:=kq qso 3 [2,3] [2,3] (q5o K)
def q1b a b c w K:=SG qso 13 [2,0] [2,3] (qB1 K) 14 [(9,VB a),(2,VQ b),(0,VI c)] w
def qkL a b w K:=SG qso 7 [2,3] [2,3] (q5o K) 14 [(2,VQ a),(0,VI b)] w
theorem qgb:qkL b a w K=(0<=a/\a<(46:Nat)/\qU 3 ((Addr.mk 0 0 none).add (Int.toNat a*3)) w (fun d=>zT 3 b d w (fun c=>qU 3 b c (fun e=>K (Value.tuple #[(Value.agg e),(Value.bool true)]) c)))):=kr
theorem q3b:q1b b a c w K=(qp b (∃ d:Array Value,(∀ wq,(Instr.build 214 #[]).run P wq=.ok (.agg d) wq)/\zT 3 a d w (fun e=>qU 3 a e (fun f=>K (Value.tuple #[(Value.agg f),(Value.bool false)]) e))) (qkL a c w K)):=kr
theorem qAv:f167 a w K=(qv (qx P 214) 214 w (fun b c=>qp (decide (a<1)) (q1b true (Addr.mk b 0 none) a c K) (q1b (decide (a>=46)) (Addr.mk b 0 none) a c K))):=kr
theorem qAw a w K(h:f167 a w K):q9 P 167 [(Value.int .i64 a)] w K:=qA qso Tryz.func167 h
def qLO:=qm Tryz.f168
def qKJ:=Tryz.f168.results.toList
abbrev qzT K:=qr P qKJ K
def f168 a b w K:=CS P qLO none [4] [4] (qzT K) (qz 6 [(VP a),(VP b)]) w
theorem qBd:f168 a b w K=(qv #[(Value.pointer a)] 219 w (fun c d=>qv #[(Value.pointer b)] 219 d (fun e f=>K (Value.func (.func 185) #[] #[(Value.pointer (some (Addr.mk c 0 none))),(Value.pointer (some (Addr.mk e 0 none)))]) f))):=kr
theorem qEQ a b w K(h:f168 a b w K):q9 P 168 [(Value.pointer a),(Value.pointer b)] w K:=qA qLO Tryz.func168 h
def qM5:=qm Tryz.f169
def qLK:=Tryz.f169.results.toList
abbrev qzc K:=qr P qLK K
def f169 a b w K:=CS P qM5 none [4] [4] (qzc K) (qz 10 [(Value.agg a),(VI b)]) w
theorem qFj:f169 a b w K=(qv a 214 w (fun e c=>∃ d:Int,c.cell? ((Addr.mk e 0 none).add 1)=some (.int .i64 d)/\K (Value.bool ((IntKind.wrap .i64 ((BitVec.ofInt (IntKind.bits .i64) d &&& BitVec.ofInt (IntKind.bits .i64) b).toNat:Int)) != 0)) c)):=kr
theorem qAL a b w K(h:f169 a b w K):q9 P 169 [(Value.agg a),(Value.int .i64 b)] w K:=qA qM5 Tryz.func169 h
def yJ:=qm Tryz.f170
def qLJ:=Tryz.f170.results.toList
abbrev yd K:=qr P qLJ K
def f170 a w K:=CS P yJ none [2] [2] (yd K) (qz 47 [(Value.agg a)]) w
def qmO a w K:=SC yJ 1 [2] [2] (yd K) 47 [(0,Value.agg a)] w
abbrev qDk K:=kq yJ 1 [2] [2] (yd K)
def qmV a b c w K:=SC yJ 3 [2] [2] (yd K) 47 [(2,VI a),(1,VQ b),(0,Value.agg c)] w
abbrev qkF K:=kq yJ 3 [2] [2] (yd K)
abbrev qCk K:=kq yJ 6 [2,1] [2] (qkF K)
def qjM a b w K:=SG yJ 7 [2] [2] (yd K) 47 [(2,VI a),(1,VQ b)] w
abbrev qD1 K:=kq yJ 7 [2] [2] (yd K)
def qnN a b c d e f g h i w K:=SC yJ 15 [2] [2] (yd K) 47 [(3,VS a b c),(12,VS d e f),(11,Value.agg g),(2,VI h),(1,VQ i)] w
abbrev qkQ K:=kq yJ 15 [2] [2] (yd K)
abbrev qC2 K:=kq yJ 30 [2,3] [2] (qkQ K)
def q0X a b c d w K:=SG yJ 31 [2] [2] (yd K) 47 [(2,VI a),(3,VS b c d)] w
abbrev Vx K:=kq yJ 31 [2] [2] (yd K)
abbrev qAR K:=kq yJ 62 [] [2] (Vx K)
def qnt a b c d e f g h i w K:=SC yJ 125 [] [2] (Vx K) 47 [(25,VI a),(24,VI b),(23,VS c d e),(2,VI f),(3,VS g h i)] w
abbrev q3G K:=qo 0 (Vx K)
def quA K Y6 e w:=zt (fun e w=>CS P (cA yJ 500) none [25,23,2,24] [2] (qu [25,23,2,24] Y6 (q3G K)) e w) e w
abbrev jl K Y6:=qu [25,23,2,24] Y6 (q3G K)
def q7Z a b c d f g w K Y6:=SG yJ 500 [25,23,2,24] [2] (jl K Y6) 47 [(25,VI a),(23,VS b c d),(2,VI f),(24,VI g)] w
abbrev qsX K Y6:=kq yJ 500 [25,23,2,24] [2] (jl K Y6)
def qjI a b c d e f g w K Y6:=SC yJ 1001 [25,23,2,24] [2] (jl K Y6) 47 [(26,VB a),(25,VI b),(23,VS c d e),(2,VI f),(24,VI g)] w
abbrev qye K Y6:=kq yJ 1001 [25,23,2,24] [2] (jl K Y6)
def qnQ a b c d f g w K Y6:=SG yJ 2003 [25,23,2,24] [2] (jl K Y6) 47 [(23,VS a b c),(24,VI d),(25,VI f),(2,VI g)] w
abbrev qaH K Y6:=kq yJ 2003 [25,23,2,24] [2] (jl K Y6)
abbrev q2i K Y6:=qo 1 (qaH K Y6)
abbrev qyb K Y6:=kq yJ 8012 [23,2,24,25] [2,23,24,25] (q2i K Y6)
def Ql a b c d f g h w K Y6:=SG yJ 32051 [23,2,24,25] [2,23,24,25] (q2i K Y6) 47 [(45,VB a),(23,VS b c d),(24,VI f),(25,VI g),(2,VI h)] w
def q8l a b c d f g w K Y6:=SG yJ 4007 [25,23,2,24] [2] (jl K Y6) 47 [(23,VS a b c),(2,VI d),(24,VI f),(25,VI g)] w
theorem qau:q8l a c d e f g w K Y6=(Y6 (qi.mk 47 [(25,(Value.int .i64 (IntKind.wrap .i64 (g+1)))),(23,(Value.slice a c d)),(2,(Value.int .i64 e)),(24,(Value.int .i64 f))] []) w):=qB kr
theorem q20:Ql a c d e f g h w K Y6=(qp a (K (Value.int .i64 170) w) (q8l c d e h f g w K Y6)):=qB kr
theorem qhW:qnQ d e g h c i w K Y6=(qh d (fun q=>0<=c/\c<(e:Nat)/\qU 2 (q.add (Int.toNat c*2)) w (fun r=>qv (qx P 238) 238 w (fun j s=>zT 2 (Addr.mk j 0 none) r s (fun f=>∃ k:Bool,f.cell? (Addr.mk j 0 none)=some (.bool k)/\qp k (∃ l:Int,f.cell? ((Addr.mk j 0 none).add 1)=some (.int .i64 l)/\qp (decide (l>=6)) (Ql true d e g h c i f K Y6) (∃ m:Bool,f.cell? (Addr.mk j 0 none)=some (.bool m)/\qp (!m) (∃ n:Int,f.cell? ((Addr.mk j 0 none).add 1)=some (.int .i64 n)/\Ql (decide (n>=12)) d e g h c i f K Y6) (Ql false d e g h c i f K Y6))) (∃ o:Bool,f.cell? (Addr.mk j 0 none)=some (.bool o)/\qp (!o) (∃ p:Int,f.cell? ((Addr.mk j 0 none).add 1)=some (.int .i64 p)/\Ql (decide (p>=12)) d e g h c i f K Y6) (Ql false d e g h c i f K Y6))))))):=qB (qG [23,2,24,25] (qaH K Y6) (Q8 1 [2,23,24,25] (q2i K Y6) (qG [23,24,25,2,7] (qyb K Y6) kr)))
def qco w K:=SG yJ 63 [2] [2] (yd K) 47 [] w
abbrev qsY K:=kq yJ 63 [2] [2] (yd K)
theorem qcD:qco w K=(K (Value.int .i64 0) w):=qB (qG [2] (qsY K) kr)
theorem qdI:qjI c d e f g h i w K Y6=(qp c (qnQ e f g i d h w K Y6) (qco w K)):=Eq.trans (b:=CS P (cA yJ 1001) none [25,23,2,24] [2] (jl K Y6) (qi.mk 47 [(26,(VB c)),(25,(VI d)),(23,(VS e f g)),(2,(VI h)),(24,(VI i))] []) w) kr (Eq.trans (qZ [23,24,25,2] (qye K Y6) kr) kr)
theorem q82:q7Z c e f g h d w K Y6=(qjI (decide (c<d)) c e f g h d w K Y6):=qB (qG [26,23,24,25,2] (qsX K Y6) kr)
theorem qgl:qnt a c d e f g h i j w K=(qK (quA K) (qi.mk 47 [(25,(Value.int .i64 a)),(23,(Value.slice d e f)),(2,(Value.int .i64 g)),(24,(Value.int .i64 c))] []) w):=Eq.trans (b:=CS P (cA yJ 125) none [] [2] (Vx K) (qi.mk 47 [(25,(VI a)),(24,(VI c)),(23,(VS d e f)),(2,(VI g)),(3,(VS h i j))] []) w) kr (Eq.trans (Zc 0 [2] (q3G K) kr) ((qS (b:=(cA yJ 500)) (X':=[2]) (H:=[25,23,2,24]) kr kr kr).trans kr))
theorem qgI:q0X f d c e w K=(qnt 0 ((c:Nat):Int) d c e f d c e w K):=qB (qG [] (Vx K) (qG [25,23,2,24] (qAR K) kr))
theorem qgK:qnN c d e h i j k f g w K=(qU 15 g w (fun u=>q9 P 188 [(Value.agg u)] w (fun x y=>∃ m:Array Value,∃ n:Bool,x=(.tuple #[(Value.agg m),(Value.bool n)])/\qv (qx P 238) 238 y (fun o z=>zT 2 (Addr.mk o 0 none) m z (fun l=>qp n (qU 2 (Addr.mk o 0 none) l (fun p=>qJ 2 [(Value.agg p)]/\qv (([(Value.agg p)].map fun(v:Value)=>v.cells.toList).flatten.toArray) 238 l (fun a0 b0=>∃ (q:OA) (r s:Nat),∃ t:World,(Builtin.append_ #[235,235] 235 #[(Value.slice c d e),(Value.slice (some (Addr.mk a0 0 none)) 1 1)]).run P b0=.ok (.slice q r s) t/\q0X f q r s t K))) (q0X f c d e l K)))))):=Eq.trans (b:=CS P (cA yJ 15) none [2] [2] (yd K) (qi.mk 47 [(3,(VS c d e)),(12,(VS h i j)),(11,(Value.agg k)),(2,(VI f)),(1,(VP (some g)))] []) w) kr (Eq.trans (qZ [2,3] (qkQ K) kr) (Eq.trans (qZ [2,4,3,5] (qC2 K) kr) kr))
theorem qiE:qjM d c w K=(qU 15 c w (fun h=>q9 P 187 [(Value.agg h)] w (fun i j=>∃ (e:OA) (f g:Nat),i=(.slice e f g)/\qnN e f g e f g h d c j K))):=qB (qG [2,3,1] (qD1 K) kr)
theorem qhv:qmV d c e w K=(qU 15 c w (fun h=>q9 P 186 [(Value.agg h)] w (fun i f=>∃ g:Bool,i=(.bool g)/\qp (!g) (K (Value.int .i64 170) f) (qjM d c f K)))):=Eq.trans (b:=CS P (cA yJ 3) none [2] [2] (yd K) (qi.mk 47 [(2,(VI d)),(1,(VP (some c))),(0,(Value.agg e))] []) w) kr (Eq.trans (qZ [2,1] (qkF K) kr) (Eq.trans (qZ [10,2,1] (qCk K) kr) kr))
theorem qfx:qmO c w K=(qv c 119 w (fun d e=>qmV 0 (Addr.mk d 0 none) c e K)):=Eq.trans (b:=CS P (cA yJ 1) none [2] [2] (yd K) (qi.mk 47 [(0,(Value.agg c))] []) w) kr (Eq.trans (qZ [2,1] (qDk K) kr) kr)
theorem qAO:f170 a w K=(qmO a w K):=kr
theorem qCs a w K(h:f170 a w K):q9 P 170 [(Value.agg a)] w K:=qA yJ Tryz.func170 h
def qgL:=qm Tryz.f185
def qLj:=Tryz.f185.results.toList
abbrev q5D K:=qr P qLj K
def f185 a b c w K:=CS P qgL none [] [] (q5D K) (qz 73 [a,(VP (some b)),(VP (some c))]) w
def qm5 a b c d f g w K:=SG qgL 3 [] [] (q5D K) 73 [(64,VI a),(0,b),(62,VS c d f),(63,VI g)] w
abbrev qnd K:=qo 0 (q5D K)
def que K Y1 e w:=zt (fun e w=>CS P (cA qgL 12) none [64,0,62,63] [] (qu [64,0,62,63] Y1 (qnd K)) e w) e w
abbrev q1S K Y1:=qu [64,0,62,63] Y1 (qnd K)
def q8E a b c d f g w K Y1:=SG qgL 12 [64,0,62,63] [] (q1S K Y1) 73 [(64,VI a),(0,b),(62,VS c d f),(63,VI g)] w
def qmX a b c d f g w K Y1:=SG qgL 51 [64,0,62,63] [] (q1S K Y1) 73 [(0,a),(62,VS b c d),(63,VI f),(64,VI g)] w
def qjz a b c d f g w K Y1:=SG qgL 103 [64,0,62,63] [] (q1S K Y1) 73 [(0,a),(62,VS b c d),(63,VI f),(64,VI g)] w
theorem qgg:qjz a b c d e f w K Y1=(Y1 (qi.mk 73 [(64,(Value.int .i64 (IntKind.wrap .i64 (f+1)))),(0,a),(62,(Value.slice b c d)),(63,(Value.int .i64 e))] []) w):=kr
theorem qeB:qmX b c d e f a w K Y1=(qh c (fun k=>0<=a/\a<(d:Nat)/\qU 3 (k.add (Int.toNat a*3)) w (fun l=>qv (qx P 222) 222 w (fun g m=>zT 3 (Addr.mk g 0 none) l m (fun h=>qU 3 (Addr.mk g 0 none) h (fun n=>yO P b [(Value.agg n)] h (fun o i=>∃ j:Bool,o=(.bool j)/\qp (!j) (K (Value.tuple #[]) i) (qjz b c d e f a i K Y1)))))))):=kr
theorem qbY:q8E a c d e f b w K Y1=(qp (decide (a<b)) (qmX c d e f b a w K Y1) (K (Value.tuple #[]) w)):=kr
theorem qiQ:qm5 a b c d e f w K=(qK (que K) (qi.mk 73 [(64,(Value.int .i64 a)),(0,b),(62,(Value.slice c d e)),(63,(Value.int .i64 f))] []) w):=kr
theorem qDI:f185 k a b w K=(∃ l:Option Addr,w.drew.cell? a=some (.pointer l)/\qh l (fun d0=>∃ m:Option Addr,w.drew.cell? b=some (.pointer m)/\qh m (fun e0=>∃ c:Array Value,(∀ wq,(Instr.build 222 #[(0,(Value.int .i64 1)),(1,(Value.pointer (some (d0.add 1)))),(2,(Value.pointer (some (e0.add 1))))]).run P wq=.ok (.agg c) wq)/\∃ n:Option Addr,w.drew.cell? a=some (.pointer n)/\qh n (fun f0=>∃ o:Option Addr,w.drew.cell? b=some (.pointer o)/\qh o (fun g0=>∃ d:Array Value,(∀ wq,(Instr.build 222 #[(0,(Value.int .i64 2)),(1,(Value.pointer (some (f0.add 2)))),(2,(Value.pointer (some (g0.add 2))))]).run P wq=.ok (.agg d) wq)/\∃ p:Option Addr,w.drew.cell? a=some (.pointer p)/\qh p (fun h0=>∃ q:Option Addr,w.drew.cell? b=some (.pointer q)/\qh q (fun i0=>∃ e:Array Value,(∀ wq,(Instr.build 222 #[(0,(Value.int .i64 4)),(1,(Value.pointer (some (h0.add 3)))),(2,(Value.pointer (some (i0.add 3))))]).run P wq=.ok (.agg e) wq)/\∃ r:Option Addr,w.drew.cell? a=some (.pointer r)/\qh r (fun j0=>∃ s:Option Addr,w.drew.cell? b=some (.pointer s)/\qh s (fun l0=>∃ f:Array Value,(∀ wq,(Instr.build 222 #[(0,(Value.int .i64 8)),(1,(Value.pointer (some (j0.add 4)))),(2,(Value.pointer (some (l0.add 4))))]).run P wq=.ok (.agg f) wq)/\∃ t:Option Addr,w.drew.cell? a=some (.pointer t)/\qh t (fun m0=>∃ u:Option Addr,w.drew.cell? b=some (.pointer u)/\qh u (fun n0=>∃ g:Array Value,(∀ wq,(Instr.build 222 #[(0,(Value.int .i64 16)),(1,(Value.pointer (some (m0.add 5)))),(2,(Value.pointer (some (n0.add 5))))]).run P wq=.ok (.agg g) wq)/\∃ x:Option Addr,w.drew.cell? a=some (.pointer x)/\qh x (fun o0=>∃ y:Option Addr,w.drew.cell? b=some (.pointer y)/\qh y (fun p0=>∃ h:Array Value,(∀ wq,(Instr.build 222 #[(0,(Value.int .i64 32)),(1,(Value.pointer (some (o0.add 6)))),(2,(Value.pointer (some (p0.add 6))))]).run P wq=.ok (.agg h) wq)/\∃ z:Option Addr,w.drew.cell? a=some (.pointer z)/\qh z (fun q0=>∃ a0:Option Addr,w.drew.cell? b=some (.pointer a0)/\qh a0 (fun r0=>∃ i:Array Value,(∀ wq,(Instr.build 222 #[(0,(Value.int .i64 64)),(1,(Value.pointer (some (q0.add 7)))),(2,(Value.pointer (some (r0.add 7))))]).run P wq=.ok (.agg i) wq)/\∃ b0:Option Addr,w.drew.cell? a=some (.pointer b0)/\qh b0 (fun s0=>∃ c0:Option Addr,w.drew.cell? b=some (.pointer c0)/\qh c0 (fun t0=>∃ j:Array Value,(∀ wq,(Instr.build 222 #[(0,(Value.int .i64 128)),(1,(Value.pointer (some (s0.add 8)))),(2,(Value.pointer (some (t0.add 8))))]).run P wq=.ok (.agg j) wq)/\qJ 3 [(Value.agg c),(Value.agg d),(Value.agg e),(Value.agg f),(Value.agg g),(Value.agg h),(Value.agg i),(Value.agg j)]/\qv (([(Value.agg c),(Value.agg d),(Value.agg e),(Value.agg f),(Value.agg g),(Value.agg h),(Value.agg i),(Value.agg j)].map fun(v:Value)=>v.cells.toList).flatten.toArray) 222 w.drew (fun u0 x0=>qm5 0 k (some (Addr.mk u0 0 none)) 8 8 8 x0 K)))))))))))))))))):=kr
theorem qFn a b c w K(h:f185 a b c w K):q9 P 185 [a,(Value.pointer (some b)),(Value.pointer (some c))] w K:=qA qgL Tryz.func185 h
end Go.Fx.Tryz
namespace Go.Fx.Tryz
open Go Go.Fx Go.Fx.Ch
open Go.Proofs
set_option maxRecDepth 20000
variable {w0 w:World} {H:qE} {K:KT}
def y8(s:ByteArray)(f r:Nat):List Value:=[.string s,J f,J r]
theorem quj(h:St w0 w H){s:ByteArray}{f r:Nat}{x:HI}(hK:∀ w',St w0 w' H->K (.bool (q2h r x)) w'):q9 P 196 [.agg (y8 s f r).toArray,.agg (qq x).toArray] w K:=by
 refine qAd _ _ _ _ ?_
 rw[qF5]
 refine h.newC fun n2 w3 hn2 h3=>h3.newC fun n4 w5 hn4 h5=>?_
 have h5:St w0 w5 ((n4,Cs (qq x) 119)::(n2,Cs (y8 s f r) 214)::H):=h5
 have c:∀ i,w5.cell? (Addr.mk n4 i none)=(qq x)[i]?:=fun i=>h5.cell (k:=0) rfl
 refine⟨r,by rw[qa];exact h5.cell (k:=1) rfl,?_⟩
 have hd:∀ {w'},St w0 w' ((n4,Cs (qq x) 119)::(n2,Cs (y8 s f r) 214)::H)->St w0 w' H:=fun h'=>(h'.tail hn4).tail hn2
 have hK5:=hK w5 (hd h5)
 unfold q2h at hK5
 generalize (r:Int)=r at *
 simp only[qa,Nat.zero_add]
 have csub:w5.cell? (Addr.mk n4 1 none)=some (J x.sub):=c 1
 have cty:w5.cell? (Addr.mk n4 3 none)=some (J x.ty):=c 3
 have cc:w5.cell? (Addr.mk n4 7 none)=some (J x.c):=c 7
 have ck:w5.cell? (Addr.mk n4 8 none)=some (J x.k):=c 8
 have ci:w5.cell? (Addr.mk n4 9 none)=some (U x.i):=c 9
 simp only[qdD,qfq,qec,qhs,qdt,qhM,qe9,qgJ,qi6,qgo]
 cases e1:(r==1)<;>rw[e1]at hK5<;>simp only[qe,qb]
 case true=>exact⟨_,csub,zI ⟨_,rfl,hK5⟩⟩
 cases e2:(r==2)<;>rw[e2]at hK5<;>simp only[qe,qb]
 case true=>
  refine h5.ldA (k:=0) (i:=0) rfl (by simp[qq]) (qvW (x:=x) h5 fun w' h'=>⟨_,rfl,?_⟩)
  have hK:=hK w' (hd h')
  unfold q2h at hK
  rw[e1,e2]at hK
  exact hK
 cases e3:(r==3)<;>rw[e3]at hK5<;>simp only[qe,qb]
 case true=>
  refine⟨_,csub,zI ⟨_,rfl,?_⟩⟩
  cases hb:zS x.sub 8 10<;>rw[hb]at hK5<;>simp only[qe,qb]
  ·exact⟨_,csub,zI ⟨_,rfl,hK5⟩⟩
  ·exact hK5
 cases e4:(r==4)<;>rw[e4]at hK5<;>simp only[qe,qb]
 case true=>
  refine⟨_,csub,?_⟩
  cases hb:(x.sub==1)<;>rw[hb]at hK5<;>simp only[qe,qb]
  ·exact⟨_,csub,zI ⟨_,rfl,hK5⟩⟩
  ·exact hK5
 cases e5:(r==5)<;>rw[e5]at hK5<;>simp only[qe,qb]
 case true=>
  refine⟨_,csub,?_⟩
  cases hb:(x.sub==14)<;>rw[hb]at hK5<;>simp only[qe,qb]
  ·exact⟨_,csub,hK5⟩
  ·exact hK5
 cases e6:(r==6)<;>rw[e6]at hK5<;>simp only[qe,qb]
 case true=>exact⟨_,ck,zI ⟨_,rfl,hK5⟩⟩
 cases e7:(r==7)<;>rw[e7]at hK5<;>simp only[qe,qb]
 case true=>
  refine⟨_,cty,q57 ⟨_,rfl,?_⟩⟩
  cases hb:qf0 x.ty<;>rw[hb]at hK5<;>simp only[qe,qb]
  ·exact hK5
  ·refine⟨_,cty,_,ck,qck h5 fun w' h'=>⟨_,rfl,?_⟩⟩
   have hK:=hK w' (hd h')
   unfold q2h at hK
   rw[e1,e2,e3,e4,e5,e6,e7,hb]at hK
   exact hK
 cases e8:(r==8)<;>rw[e8]at hK5<;>simp only[qe,qb]
 case true=>
  refine⟨_,ck,qck h5 fun w' h'=>⟨_,rfl,?_⟩⟩
  have hK:=hK w' (hd h')
  unfold q2h at hK
  rw[e1,e2,e3,e4,e5,e6,e7,e8]at hK
  exact hK
 cases e9:(r==9)<;>rw[e9]at hK5<;>simp only[qe,qb]
 case true=>exact⟨_,cty,q57 ⟨_,rfl,hK5⟩⟩
 cases e10:(r==10)<;>rw[e10]at hK5<;>simp only[qe,qb]
 case true=>
  refine⟨_,cty,q57 ⟨_,rfl,?_⟩⟩
  cases hb:qf0 x.ty<;>rw[hb]at hK5<;>simp only[qe,qb]
  ·exact⟨_,cty,hK5⟩
  ·exact hK5
 cases e11:(r==11)<;>rw[e11]at hK5<;>simp only[qe,qb]
 case true=>exact⟨_,ck,zI ⟨_,rfl,hK5⟩⟩
 cases e12:(r==12)<;>rw[e12]at hK5<;>simp only[qe,qb]
 case true=>
  refine⟨_,csub,zI ⟨_,rfl,?_⟩⟩
  cases hb:zS x.sub 0 2<;>rw[hb]at hK5<;>simp only[qe,qb]
  ·exact hK5
  ·refine⟨_,csub,?_⟩
   cases hc:(x.sub==0)<;>rw[hc]at hK5<;>simp only[qe,qb]
   ·exact⟨_,cc,hK5⟩
   ·exact hK5
 cases e13:(r==13)<;>rw[e13]at hK5<;>simp only[qe,qb]
 case true=>exact⟨_,ck,zI ⟨_,rfl,hK5⟩⟩
 cases e14:(r==14)<;>rw[e14]at hK5<;>simp only[qe,qb]
 case true=>exact⟨_,csub,zI ⟨_,rfl,hK5⟩⟩
 cases e15:(r==15)<;>rw[e15]at hK5<;>simp only[qe,qb]
 case true=>
  refine⟨_,ck,zI ⟨_,rfl,?_⟩⟩
  cases hb:zS x.k 0 8<;>rw[hb]at hK5<;>simp only[qe,qb]
  ·exact hK5
  ·exact⟨_,ci,hK5⟩
 cases e16:(r==16)<;>rw[e16]at hK5<;>simp only[qe,qb]
 case true=>
  refine⟨_,ck,?_⟩
  cases hb:(x.k==4)<;>rw[hb]at hK5<;>simp only[qe,qb]
  ·exact⟨_,ck,hK5⟩
  ·exact hK5
 cases e17:(r==17)<;>rw[e17]at hK5<;>simp only[qe,qb]
 case true=>exact⟨_,ck,zI ⟨_,rfl,hK5⟩⟩
 cases e18:(r==18)<;>rw[e18]at hK5<;>simp only[qe,qb]
 case true=>exact⟨_,ck,zI ⟨_,rfl,hK5⟩⟩
 cases e19:(r==19)<;>rw[e19]at hK5<;>simp only[qe,qb]
 case true=>
  refine⟨_,ck,zI ⟨_,rfl,?_⟩⟩
  cases hb:zS x.k 0 508<;>rw[hb]at hK5<;>simp only[qe,qb]
  ·exact hK5
  ·exact⟨_,ck,by omega,hK5⟩
 exact hK5
theorem qMu(a b:Nat)(ha:a<32768)(hb:b<32768):(IntKind.wrap .i64 ((BitVec.ofInt (IntKind.bits .i64) (a:Int) &&& BitVec.ofInt (IntKind.bits .i64) (b:Int)).toNat:Int))=((Nat.land a b:Nat):Int):=by
 have hle:Nat.land a b<=a:=Nat.and_le_left
 have e:(BitVec.ofInt (IntKind.bits .i64) (a:Int) &&& BitVec.ofInt (IntKind.bits .i64) (b:Int)).toNat=Nat.land a b:=by
  show(BitVec.ofInt 64 (a:Int) &&& BitVec.ofInt 64 (b:Int)).toNat=Nat.land a b
  rw[BitVec.toNat_and,BitVec.ofInt_natCast,BitVec.ofInt_natCast,BitVec.toNat_ofNat,BitVec.toNat_ofNat,Nat.mod_eq_of_lt om,Nat.mod_eq_of_lt om]
  rfl
 rw[e,qc om om]
theorem yQ(h:St w0 w H){s:ByteArray}{f r bit:Nat}(hf:f<32768)(hb:bit<32768)(hK:∀ w',St w0 w' H->K (.bool (has f bit)) w'):q9 P 169 [.agg (y8 s f r).toArray,J bit] w K:=by
 refine qAL _ _ _ _ ?_
 rw[qFj]
 refine h.newC fun n2 w3 hn2 h3=>⟨f,by rw[qa];exact h3.cell (k:=0) rfl,?_⟩
 rw[qMu f bit hf hb]
 have:=hK w3 (h3.tail hn2)
 unfold has at this
 have e:(((Nat.land f bit:Nat):Int) != 0)=(Nat.land f bit != 0):=by
  rw[Bool.eq_iff_iff];simp
 rw[e];exact this
structure Q7 (gcs:List Value):Prop where
 len:gcs.length=138
 row:∀ i,i<46->∃ s,(gcs.drop (i*3)).take 3=y8 s (forms.getD i (0,0)).1 (forms.getD i (0,0)).2
theorem qxt:∃ z:List Value,qx P 214=z.toArray/\z.length=3:=⟨[.string ⟨#[]⟩,J 0,J 0],by kernel_rfl,rfl⟩
theorem qLh(wq:World):(Instr.build 214 [].toArray).run P wq=.ok (.agg (y8 ⟨#[]⟩ 0 0).toArray) wq:=kr
theorem ZQ(h:St w0 w H){gcs:List Value}{gt:TypeId}(hg:(0,Cs gcs gt)∈H)(ht:Q7 gcs){op:Int}
  (hK:∀ w' s,St w0 w' H->K (.tuple [.agg (y8 s (zi (if 1<=op/\op<46 then op else 0)).1 (zi (if 1<=op/\op<46 then op else 0)).2).toArray,.bool (decide (1<=op/\op<46))].toArray) w') :
  q9 P 167 [J op] w K:=by
 refine qAw _ _ _ ?_
 obtain⟨z,hz,hzl⟩:=qxt
 rw[qAv,hz]
 refine h.newC fun n1 w2 hn1 h2=>?_
 have no:¬ (1<=op/\op<46)->q1b true (Addr.mk n1 0 none) op w2 K:=fun hno=>by
  rw[q3b]
  simp only[qe]
  refine⟨_,qLh,h2.stA (k:=0) rfl (by simp[y8]) (by simp[hzl]) (by simp[y8,Value.oneCell']) fun w7 h7=>?_⟩
  have h7:St w0 w7 ((n1,Cs (qX z 0 (y8 ⟨#[]⟩ 0 0)) 214)::H):=h7
  rw[qI _ _ (by rw[hzl];rfl)]at h7
  refine h7.ldA (k:=0) (i:=0) rfl (by simp[y8]) ?_
  have hK:=hK w7 ⟨#[]⟩ (h7.tail hn1)
  rw[if_neg hno,show decide (1<=op/\op<46)=false by simpa using hno]at hK
  exact hK
 rw[qg]
 refine⟨fun hb=>no (by have:=of_decide_eq_true hb;omega),fun hb=>?_⟩
 have h1:¬ op<1:=of_decide_eq_false hb
 cases hb2:decide (op>=46)with
 | true=>exact no (by have:=of_decide_eq_true hb2;omega)
 | false=>
  have h46:¬ op>=46:=of_decide_eq_false hb2
  have hin:1<=op/\op<46:=by omega
  rw[q3b]
  simp only[qb]
  rw[qgb]
  refine⟨by omega,by omega,?_⟩
  obtain⟨s,hs⟩:=ht.row op.toNat om
  rw[qa,Nat.zero_add]
  refine q2V (h2.has _ _ (.tail _ hg)) (by rw[ht.len];omega) ?_
  rw[hs]
  refine h2.stA (k:=0) rfl (by simp[y8]) (by simp[hzl]) (by simp[y8,Value.oneCell']) fun w7 h7=>?_
  have h7:St w0 w7 ((n1,Cs (qX z 0 (y8 s (forms.getD op.toNat (0,0)).1 (forms.getD op.toNat (0,0)).2)) 214)::H):=h7
  rw[qI _ _ (by rw[hzl];rfl)]at h7
  refine h7.ldA (k:=0) (i:=0) rfl (by simp[y8]) ?_
  have hK:=hK w7 s (h7.tail hn1)
  rw[if_pos hin,show decide (1<=op/\op<46)=true by simpa using hin]at hK
  exact hK
def yI:List (Nat × Nat):=[(1,1),(2,2),(4,3),(8,4),(16,5),(32,6),(64,7),(128,8)]
def Pcs(n m:Nat)(f:Nat × Nat):List Value:=[J f.1,.pointer (some (Addr.mk n f.2 none)),.pointer (some (Addr.mk m f.2 none))]
theorem JX(b:Int)(p q:Option Addr)(wq:World):(Instr.build 222 [(0,J b),(1,.pointer p),(2,.pointer q)].toArray).run P wq=.ok (.agg #[J b,.pointer p,.pointer q]) wq:=kr
theorem qG9:∃ z:List Value,qx P 222=z.toArray/\z.length=3:=⟨[J 0,.pointer none,.pointer none],by kernel_rfl,rfl⟩
theorem q6t{v0:Value}{b1 b2 n m:Nat}{t1 t2:TypeId}(I:Nat->List (Nat × Obj)->Prop)(h:St w0 w H)(h1:(b1,Cs [.pointer (some (Addr.mk n 0 none))] t1)∈H)(h2:(b2,Cs [.pointer (some (Addr.mk m 0 none))] t2)∈H)(h0:I 0 H)
  (hy:∀ i:Nat,i<8->∀ q o X W,w0.heap.size<=q->I i X->St w0 W ((q,o)::X)->yO P v0 [.agg (Pcs n m (yI.getD i (0,0))).toArray] W fun r W'=>r=.bool true/\∃ X',I (i+1) X'/\St w0 W' ((q,o)::X'))
  (hK:∀ W X,I 8 X->St w0 W X->K (.tuple #[]) W):q9 P 185 [v0,.pointer (some (Addr.mk b1 0 none)),.pointer (some (Addr.mk b2 0 none))] w K:=by
 refine qFn _ _ _ _ _ ?_
 rw[qDI]
 have hd:=h.drew
 have c1:w.drew.cell? (Addr.mk b1 0 none)=some (.pointer (some (Addr.mk n 0 none))):=qw (hd.has _ _ h1)
 have c2:w.drew.cell? (Addr.mk b2 0 none)=some (.pointer (some (Addr.mk m 0 none))):=qw (hd.has _ _ h2)
 refine⟨_,c1,_,c2,_,JX _ _ _,_,c1,_,c2,_,JX _ _ _,_,c1,_,c2,_,JX _ _ _,_,c1,_,c2,_,JX _ _ _,_,c1,_,c2,_,JX _ _ _,_,c1,_,c2,_,JX _ _ _,_,c1,_,c2,_,JX _ _ _,_,c1,_,c2,_,JX _ _ _,⟨rfl,rfl,rfl,rfl,rfl,rfl,rfl,rfl,trivial⟩,?_⟩
 refine hd.newC fun q w1 hq h3=>?_
 simp only[qa,Nat.zero_add]at h3
 have h3:St w0 w1 ((q,Cs ((yI.map (Pcs n m)).flatten) 222)::H):=h3
 obtain⟨z,hz,hzl⟩:=qG9
 rw[qiQ]
 refine⟨fun k e w=>∃ (i:Nat) (X:qE),i<=8/\k=8-i/\e=qi.mk 73 [(64,J i),(0,v0),(62,.slice (some (Addr.mk q 0 none)) 8 8),(63,J 8)] []/\I i X/\St w0 w ((q,Cs ((yI.map (Pcs n m)).flatten) 222)::X),⟨8,0,H,by omega,rfl,rfl,h0,h3⟩,?_⟩
 rintro k e W ⟨i,X,hi,rfl,rfl,hI,hs⟩
 show q8E ..
 rw[qbY,qg]
 refine⟨fun hlt=>?_,fun hge=>?_⟩
 ·have hlt:i<8:=by have:=of_decide_eq_true hlt;omega
  rw[qeB,hz]
  refine⟨by omega,by omega,?_⟩
  rw[Int.toNat_natCast,qa,Nat.zero_add]
  refine hs.ldA (k:=0) rfl (by show i*3+3<=24;omega) ?_
  have hp:(((yI.map (Pcs n m)).flatten).drop (i*3)).take 3=Pcs n m (yI.getD i (0,0)):=by
   have:i=0\/i=1\/i=2\/i=3\/i=4\/i=5\/i=6\/i=7:=by omega
   rcases this with rfl | rfl | rfl | rfl | rfl | rfl | rfl | rfl<;>rfl
  rw[hp]
  refine hs.newC fun u w2 hu h4=>?_
  refine h4.stA (k:=0) rfl rfl (by simp[hzl]) (by simp[Pcs,Value.oneCell']) fun w3 h5=>?_
  have h5:St w0 w3 ((u,Cs (qX z 0 (Pcs n m (yI.getD i (0,0)))) 222)::(q,Cs ((yI.map (Pcs n m)).flatten) 222)::X):=h5
  rw[qI _ _ (by rw[hzl];rfl)]at h5
  refine h5.ldA (k:=0) (i:=0) rfl (by simp[Pcs]) ?_
  refine vY ?_ (hy i hlt q _ X w3 hq hI (h5.tail hu))
  rintro r W' ⟨rfl,X',hI',h6⟩
  refine⟨true,rfl,?_⟩
  rw[Bool.not_true,qb,qgg]
  exact⟨8-(i+1),by omega,i+1,X',by omega,rfl,by rw[qc om om];rfl,hI',h6⟩
 ·have:i=8:=by have:=of_decide_eq_false hge;omega
  subst this
  exact hK _ X hI (hs.tail hq)
theorem qMv:yu P 185=true:=kr
abbrev mk(l:Nat):Deferred:={ target:=.collected l,args:=#[] }
theorem YZ{KK:Exit->YT}{e:qi}{round:Nat->(LoopState->Option Code->Loop)->(Option Code->World->Prop)->List Value->World->Prop}
  (h:St w0 w H) {b1 b2 n m:Nat} {t1 t2:TypeId} (h1:(b1,Cs [.pointer (some (Addr.mk n 0 none))] t1)∈H) (h2:(b2,Cs [.pointer (some (Addr.mk m 0 none))] t2)∈H)
  (I:Nat->List (Nat × Obj)->Prop) (I0:I 0 H)
  (hround:∀ l l' q o R post (i:Nat) W X,i<8->I i X->St w0 W ((l,.loop (R .ready none))::(l',.deferred (some []))::(q,o)::X)->w0.heap.size<=l->w0.heap.size<=l'->w0.heap.size<=q->
   (∀ W' X',I (i+1) X'->St w0 W' ((l,.loop (R .ready none))::(l',.deferred (some []))::(q,o)::X')->post none W')->round l R post [.agg (Pcs n m (yI.getD i (0,0))).toArray] W)
  (hend:∀ W X l',w0.heap.size<=l'->I 8 X->St w0 W ((l',.deferred (some []))::X)->KK .normal { e with d:=mk l'::e.d } W) :
  Q6 P KK e w (.func (.func 185) #[] #[.pointer (some (Addr.mk b1 0 none)),.pointer (some (Addr.mk b2 0 none))]) round:=by
 refine⟨qMv,fun R hy=>?_⟩
 have h3:=(h.alloc (.deferred (some []))).alloc (.loop (R .ready none))
 have hsz:(w.alloc (.deferred (some []))).heap.size=w.heap.size+1:=by simp
 rw[hsz]at h3
 have hle:w0.heap.size<=w.heap.size:=h.le
 refine q6t (n:=n) (m:=m) (t1:=t1) (t2:=t2) (fun i Y=>∃ X,I i X/\Y=(w.heap.size+1,.loop (R .ready none))::(w.heap.size,.deferred (some []))::X) h3 (.tail _ (.tail _ h1)) (.tail _ (.tail _ h2)) ⟨H,I0,rfl⟩ ?_ ?_
 ·rintro i hi q o Y W hq ⟨X,hI,rfl⟩ hs
  have hs':St w0 W ((w.heap.size+1,.loop (R .ready none))::(w.heap.size,.deferred (some []))::(q,o)::X):=hs.perm ((List.Perm.swap _ _ _).trans ((List.Perm.swap _ _ _).cons _))
  refine vY ?_ (hy [.agg (Pcs n m (yI.getD i (0,0))).toArray] W (fun j W'=>match j with
   | none=>∃ X',I (i+1) X'/\St w0 W' ((w.heap.size+1,.loop (R .ready none))::(w.heap.size,.deferred (some []))::(q,o)::X')
   | some _=>False)
   (hround _ _ q o R _ i W X hi hI hs' om om hq (fun W' X' h1 h2=>⟨X',h1,h2⟩)) (hs'.get (k:=0) rfl))
  rintro v W' ⟨j,rfl,hj⟩
  cases j with
  | none=>
   obtain⟨X',h2,h3⟩:=hj
   exact⟨rfl,_,⟨X',h2,rfl⟩,h3.perm (((List.Perm.swap _ _ _).cons _).trans (List.Perm.swap _ _ _))⟩
  | some c=>exact hj.elim
 ·rintro W Y ⟨X,hI,rfl⟩ hs
  refine⟨.ready,none,hs.get (k:=0) rfl,by simp,?_⟩
  exact hend _ X _ hle hI ((hs.put (k:=0) rfl _).tail om)
theorem JM(h:St w0 w H){p q:Addr}(hK:∀ w' b1 b2,w0.heap.size<=b1->w0.heap.size<=b2->St w0 w' ((b2,Cs [.pointer (some q)] 219)::(b1,Cs [.pointer (some p)] 219)::H)->K (.func (.func 185) #[] #[.pointer (some (Addr.mk b1 0 none)),.pointer (some (Addr.mk b2 0 none))]) w') :
  q9 P 168 [.pointer (some p),.pointer (some q)] w K:=by
 refine qEQ _ _ _ _ ?_
 rw[qBd]
 exact h.newC fun n2 w3 hn2 h3=>h3.newC fun n4 w5 hn4 h5=>hK w5 n2 n4 hn2 hn4 h5
theorem qKB:∃ z:List Value,qx P 119=z.toArray/\z.length=15:=⟨qq {},by kernel_rfl,rfl⟩
theorem bop(op:Int)(wq:World):(Instr.build 119 [(0,J op)].toArray).run P wq=.ok (.agg (qq { op:=op }).toArray) wq:=kr
theorem qpb(a:Addr)(v5:Value)(cs:Array Value)(d0:List Deferred)(w:World)(K:KT) :
  zr P qop (qi.mk 39 [(38,(Value.agg cs)),(4,.pointer (some a)),(5,v5)] d0) K [] w=qU 15 a w (fun cs=>K (Value.agg cs) w):=kr
theorem Zo(x:HI):∀ v∈qq x,v.oneCell'=true:=by simp[qq,Value.oneCell']
theorem q8O(x:HI):(qq x).length=15:=rfl
theorem Zz(op:Int):(zi op).1<32768/\(zi op).2<32:=by
 unfold zi
 have hl:forms.length=46:=rfl
 rcases Nat.lt_or_ge op.toNat 46 with h | h
 ·have key:∀ i,i<46->(forms.getD i (0,0)).1<32768/\(forms.getD i (0,0)).2<32:=by decide
  exact key _ h
 ·rw[List.getD_eq_getElem?_getD,List.getElem?_eq_none om];simp
theorem qeu(fs:Nat)(x:HI)(i:Nat)(hi:i<8)(hb:has fs (yI.getD i (0,0)).1=true)(v:Value)(hv:(qq x)[(yI.getD i (0,0)).2]?=some v) :
  (qq (vP fs x i)).set (yI.getD i (0,0)).2 v=qq (vP fs x (i+1)):=by
 have:i=0\/i=1\/i=2\/i=3\/i=4\/i=5\/i=6\/i=7:=by omega
 rcases this with rfl | rfl | rfl | rfl | rfl | rfl | rfl | rfl<;>simp[yI,qq]at hb hv ⊢<;>subst hv<;>simp[vP,pick,hb]
theorem qiG(fs:Nat)(x:HI)(i:Nat)(hi:i<8)(hb:has fs (yI.getD i (0,0)).1=false):vP fs x (i+1)=vP fs x i:=by
 have:i=0\/i=1\/i=2\/i=3\/i=4\/i=5\/i=6\/i=7:=by omega
 rcases this with rfl | rfl | rfl | rfl | rfl | rfl | rfl | rfl<;>simp[yI]at hb<;>simp[vP,pick,hb]
theorem Ve(i:Nat)(hi:i<8):(yI.getD i (0,0)).1<32768/\(yI.getD i (0,0)).2<15:=by
 have key:∀ i,i<8->(yI.getD i (0,0)).1<32768/\(yI.getD i (0,0)).2<15:=by decide
 exact key i hi
theorem qyV(h:St w0 w H){s:ByteArray}{f r:Nat}{x:HI}(hf:f<32768)(hK:∀ w',St w0 w' H->K (.agg (qq (Yy f x)).toArray) w'):q9 P 195 [.agg (y8 s f r).toArray,.agg (qq x).toArray] w K:=by
 refine qBK _ _ _ _ ?_
 obtain⟨z,hz,hzl⟩:=qKB
 rw[qCA,hz]
 refine h.newC fun n2 w3 hn2 h3=>h3.newC fun n4 w5 hn4 h5=>h5.newC fun n6 w7 hn6 h7=>?_
 refine⟨x.op,h7.cell (k:=1) rfl,_,bop _,h7.newC fun n10 w11 hn10 h11=>?_⟩
 refine h11.stA (k:=0) rfl rfl (by simp[hzl]) (by simpa using Zo _) fun w12 h12=>?_
 have h12:St w0 w12 ((n10,Cs (qX z 0 (qq { op:=x.op })) 119)::(n6,Cs z 119)::(n4,Cs (qq x) 119)::(n2,Cs (y8 s f r) 214)::H):=h12
 rw[qI _ _ (by rw[hzl];rfl)]at h12
 refine JM h12 fun w14 b1 b2 hb1 hb2 h14=>⟨_,rfl,?_⟩
 have e0:qq { op:=x.op }=qq (vP f x 0):=by simp[qq,vP,pick]
 rw[e0]at h14
 refine YZ (n:=n4) (m:=n10) h14 (.tail _ (.head _)) (.head _)
  (fun i X=>X=(b2,Cs [.pointer (some (Addr.mk n10 0 none))] 219)::(b1,Cs [.pointer (some (Addr.mk n4 0 none))] 219)::(n10,Cs (qq (vP f x i)) 119)::(n6,Cs z 119)::(n4,Cs (qq x) 119)::(n2,Cs (y8 s f r) 214)::H) rfl ?_ ?_
 ·rintro l l' q o R post i W X hi rfl hs hl hl' hq hpost
  rw[qcy]
  refine⟨rfl,?_⟩
  rw[qcF]
  obtain⟨z3,hz3,hz3l⟩:=qG9
  rw[hz3]
  refine hs.newC fun n21 w22 hn21 h22=>?_
  refine h22.stA (k:=0) rfl rfl (by simp[hz3l]) (by simp[Pcs,Value.oneCell']) fun w23 h23=>?_
  have h23:St w0 w23 ((n21,Cs (qX z3 0 (Pcs n4 n10 (yI.getD i (0,0)))) 222)::(l,.loop (R .ready none))::(l',.deferred (some []))::(q,o)::(b2,Cs [.pointer (some (Addr.mk n10 0 none))] 219)::(b1,Cs [.pointer (some (Addr.mk n4 0 none))] 219)::(n10,Cs (qq (vP f x i)) 119)::(n6,Cs z 119)::(n4,Cs (qq x) 119)::(n2,Cs (y8 s f r) 214)::H):=h23
  rw[qI _ _ (by rw[hz3l];rfl)]at h23
  refine⟨h23.get (k:=1) rfl,?_⟩
  have h24:=h23.put (k:=1) rfl (.loop (R .busy none))
  rw[qha]
  refine h24.ldA (k:=9) (i:=0) rfl (by simp[y8]) ?_
  refine⟨(yI.getD i (0,0)).1,h24.cell (k:=0) rfl,yQ h24 hf (Ve i hi).1 fun w29 h29=>⟨_,rfl,?_⟩⟩
  rw[qg]
  refine⟨fun hb=>?_,fun hb=>?_⟩
  ·have h30:=h29.drew
   obtain⟨v,hv⟩:∃ v:Int,(qq x)[(yI.getD i (0,0)).2]?=some (J v):=by
    have:i=0\/i=1\/i=2\/i=3\/i=4\/i=5\/i=6\/i=7:=by omega
    rcases this with rfl | rfl | rfl | rfl | rfl | rfl | rfl | rfl<;>exact⟨_,rfl⟩
   refine⟨some (Addr.mk n10 (yI.getD i (0,0)).2 none),by rw[qa];exact h30.cell (k:=0) rfl,some (Addr.mk n4 (yI.getD i (0,0)).2 none),by rw[qa];exact h30.cell (k:=0) rfl,v,?_,?_⟩
   ·rw[h30.cell (k:=8) rfl];exact hv
   ·refine h30.st1 (k:=6) rfl (by rw[q8O];exact(Ve i hi).2) rfl fun w36 h36=>?_
    refine⟨h36.get (k:=1) rfl,?_⟩
    have h37:=h36.put (k:=1) rfl (.loop (R .ready none))
    refine hpost _ _ rfl ?_
    rw[<-qeu f x i hi hb (J v) hv]
    exact h37.tail hn21
  ·refine⟨h29.get (k:=1) rfl,?_⟩
   have h37:=h29.put (k:=1) rfl (.loop (R .ready none))
   refine hpost _ _ rfl ?_
   rw[qiG f x i hi hb]
   exact h37.tail hn21
 ·rintro W X l' hl' rfl hs
  show qcl ..
  rw[q8o]
  have fin:∀ {W y},y=Yy f x->St w0 W ((l',.deferred (some []))::(b2,Cs [.pointer (some (Addr.mk n10 0 none))] 219)::(b1,Cs [.pointer (some (Addr.mk n4 0 none))] 219)::(n10,Cs (qq y) 119)::(n6,Cs z 119)::(n4,Cs (qq x) 119)::(n2,Cs (y8 s f r) 214)::H)->
    q0C (Addr.mk n6 0 none) (Addr.mk n10 0 none) [mk l'] W K:=fun {W y} hy h1=>by
   rw[qdP]
   refine h1.ldA (k:=3) (i:=0) rfl (by simp[qq]) ?_
   refine h1.stA (k:=4) rfl rfl (by simp[hzl]) (fun v hv=>Zo y v (List.mem_of_mem_take (by simpa using hv))) fun w70 h70=>?_
   have h70:St w0 w70 ((l',.deferred (some []))::(b2,Cs [.pointer (some (Addr.mk n10 0 none))] 219)::(b1,Cs [.pointer (some (Addr.mk n4 0 none))] 219)::(n10,Cs (qq y) 119)::(n6,Cs (qX z 0 (qq y)) 119)::(n4,Cs (qq x) 119)::(n2,Cs (y8 s f r) 214)::H):=h70
   rw[qI _ _ (by rw[hzl];rfl)]at h70
   show w70.heap[l']?=some (.deferred (some []))/\zr P qop _ K [] (w70.putObj l' (.deferred none))
   refine⟨h70.get (k:=0) rfl,?_⟩
   rw[qpb]
   have h71:=h70.put (k:=0) rfl (.deferred none)
   refine h71.ldA (k:=4) (i:=0) rfl (by simp[qq]) ?_
   subst hy
   exact hK _ (((((((h71.tail hl').tail hb2).tail hb1).tail hn10).tail hn6).tail hn4).tail hn2)
  have s4:∀ {W y},y={ vP f x 8 with i:=pick (has f 256) x.i,chain:=pick (has f 512) x.chain }->St w0 W ((l',.deferred (some []))::(b2,Cs [.pointer (some (Addr.mk n10 0 none))] 219)::(b1,Cs [.pointer (some (Addr.mk n4 0 none))] 219)::(n10,Cs (qq y) 119)::(n6,Cs z 119)::(n4,Cs (qq x) 119)::(n2,Cs (y8 s f r) 214)::H)->
    q0t (Addr.mk n6 0 none) (Addr.mk n10 0 none) (Addr.mk n4 0 none) (Addr.mk n2 0 none) [mk l'] W K:=fun {W y} hy h1=>by
   rw[qhq]
   refine h1.ldA (k:=6) (i:=0) rfl (by simp[y8]) (yQ (bit:=1024) h1 hf om fun w2 h2=>⟨_,rfl,?_⟩)
   rw[qg]
   refine⟨fun hb=>?_,fun hb=>fin ?_ h2⟩
   ·rw[qa,qa]
    refine h2.ldA (k:=5) (i:=0+11) rfl (by simp[qq]) ?_
    refine h2.stA (k:=3) rfl rfl (by simp[qq]) (fun v hv=>Zo x v (List.mem_of_mem_drop (List.mem_of_mem_take (by simpa using hv)))) fun w3 h3=>?_
    have e:qX (qq y) (0+11) ((qq x).drop (0+11) |>.take 4)=qq { y with v0:=x.v0,v1:=x.v1,v2:=x.v2,v3:=x.v3 }:=rfl
    have h3:St w0 w3 ((l',.deferred (some []))::(b2,Cs [.pointer (some (Addr.mk n10 0 none))] 219)::(b1,Cs [.pointer (some (Addr.mk n4 0 none))] 219)::(n10,Cs (qq { y with v0:=x.v0,v1:=x.v1,v2:=x.v2,v3:=x.v3 }) 119)::(n6,Cs z 119)::(n4,Cs (qq x) 119)::(n2,Cs (y8 s f r) 214)::H):=by rw[<-e];exact h3
    refine fin ?_ h3
    subst hy
    simp[Yy,pick,hb]
   ·subst hy
    simp[Yy,pick,hb,vP]
  have s3:∀ {W y},y={ vP f x 8 with i:=pick (has f 256) x.i }->St w0 W ((l',.deferred (some []))::(b2,Cs [.pointer (some (Addr.mk n10 0 none))] 219)::(b1,Cs [.pointer (some (Addr.mk n4 0 none))] 219)::(n10,Cs (qq y) 119)::(n6,Cs z 119)::(n4,Cs (qq x) 119)::(n2,Cs (y8 s f r) 214)::H)->
    q13 (Addr.mk n6 0 none) (Addr.mk n10 0 none) (Addr.mk n4 0 none) (Addr.mk n2 0 none) [mk l'] W K:=fun {W y} hy h1=>by
   rw[qed]
   refine h1.ldA (k:=6) (i:=0) rfl (by simp[y8]) (yQ (bit:=512) h1 hf om fun w2 h2=>⟨_,rfl,?_⟩)
   rw[qg]
   refine⟨fun hb=>⟨x.chain,by rw[qa];exact h2.cell (k:=5) rfl,?_⟩,fun hb=>s4 ?_ h2⟩
   ·rw[qa]
    refine h2.st1 (k:=3) rfl (by simp[qq]) rfl fun w3 h3=>s4 (y:={ y with chain:=x.chain }) ?_ h3
    subst hy
    simp[pick,hb]
   ·subst hy
    simp[pick,hb,vP]
  rw[qeF]
  refine hs.ldA (k:=6) (i:=0) rfl (by simp[y8]) (yQ (bit:=256) hs hf om fun w2 h2=>⟨_,rfl,?_⟩)
  rw[qg]
  refine⟨fun hb=>⟨x.i,by rw[qa];exact h2.cell (k:=5) rfl,?_⟩,fun hb=>s3 ?_ h2⟩
  ·rw[qa]
   refine h2.st1 (k:=3) rfl (by simp[qq]) rfl fun w3 h3=>s3 (y:={ vP f x 8 with i:=x.i }) ?_ h3
   simp[pick,hb]
  ·simp[pick,hb,vP]
end Go.Fx.Tryz
namespace Go.Fx.Tryz
open Go Go.Fx Go.Fx.Ch
open Go.Proofs
set_option linter.all false
set_option maxRecDepth 20000
variable {w0 w:World} {H:qE} {K:KT}
theorem q0b : P.fieldsOf 119 = #[{ name := "Op", type := 3, offset := 0, embedded := false, tag := "", pkgPath := "", byteOffset := 0 }, { name := "Sub", type := 3, offset := 1, embedded := false, tag := "", pkgPath := "", byteOffset := 8 }, { name := "From", type := 3, offset := 2, embedded := false, tag := "", pkgPath := "", byteOffset := 16 }, { name := "Ty", type := 3, offset := 3, embedded := false, tag := "", pkgPath := "", byteOffset := 24 }, { name := "D", type := 3, offset := 4, embedded := false, tag := "", pkgPath := "", byteOffset := 32 }, { name := "A", type := 3, offset := 5, embedded := false, tag := "", pkgPath := "", byteOffset := 40 }, { name := "B", type := 3, offset := 6, embedded := false, tag := "", pkgPath := "", byteOffset := 48 }, { name := "C", type := 3, offset := 7, embedded := false, tag := "", pkgPath := "", byteOffset := 56 }, { name := "K", type := 3, offset := 8, embedded := false, tag := "", pkgPath := "", byteOffset := 64 }, { name := "I", type := 24, offset := 9, embedded := false, tag := "", pkgPath := "", byteOffset := 72 }, { name := "Chain", type := 24, offset := 10, embedded := false, tag := "", pkgPath := "", byteOffset := 76 }, { name := "V", type := 117, offset := 11, embedded := false, tag := "", pkgPath := "", byteOffset := 80 }] := by kernel_rfl
def Vcs(x:HI):List Value:=[U x.v0,U x.v1,U x.v2,U x.v3]
theorem qMB(w:World)(d:Nat)(x y:HI):(Op.equalIn (d+2) 117 (.agg (Vcs x).toArray) (.agg (Vcs y).toArray)).run P w=.ok (x.v0==y.v0&&(x.v1==y.v1&&(x.v2==y.v2&&x.v3==y.v3))) w:=by
 have h24:∀ d (x y:Int),(Op.equalIn (d+1) 24 (.int .u32 x) (.int .u32 y)).run P w=.ok (x==y) w:=fun d x y=>by simp[Op.equalIn,run_underlying Tryz.underlying24]
 rw[show d+2=(d+1)+1 from rfl,run_equalIn_array w (d+1) _ _ Tryz.underlying117 (by kernel_rfl:P.info? 24=some Tryz.t24)]
 have hc:P.cellsOf 24=1:=kr
 have p:∀ x:HI,(part 24 (Vcs x).toArray 0).run P w=.ok (U x.v0) w/\(part 24 (Vcs x).toArray 1).run P w=.ok (U x.v1) w/\(part 24 (Vcs x).toArray 2).run P w=.ok (U x.v2) w/\(part 24 (Vcs x).toArray 3).run P w=.ok (U x.v3) w:=fun x=>⟨by kernel_rfl,by kernel_rfl,by kernel_rfl,by kernel_rfl⟩
 obtain⟨a0,a1,a2,a3⟩:=p x
 obtain⟨b0,b1,b2,b3⟩:=p y
 rw[hc,show List.range 4=[0,1,2,3] from rfl]
 simp only[Op.eqItems,Nat.mul_one,Sem.run_bind,a0,a1,a2,a3,b0,b1,b2,b3,h24,Result.andThen_ok]
 by_cases e0:x.v0=y.v0<;>simp[e0,h24,a1,a2,a3,b1,b2,b3]
 by_cases e1:x.v1=y.v1<;>simp[e1,h24,a2,a3,b2,b3]
 by_cases e2:x.v2=y.v2<;>simp[e2,h24,a3,b3]
 by_cases e3:x.v3=y.v3<;>simp[e3]
def qIP(x y:HI):Bool:=x.op==y.op&&(x.sub==y.sub&&(x.frm==y.frm&&(x.ty==y.ty&&(x.d==y.d&&(x.a==y.a&&(x.b==y.b&&(x.c==y.c&&(x.k==y.k&&(x.i==y.i&&(x.chain==y.chain&&(x.v0==y.v0&&(x.v1==y.v1&&(x.v2==y.v2&&x.v3==y.v3)))))))))))))
theorem qzD(x y:HI):qIP x y=(x==y):=by
 rw[Bool.eq_iff_iff]
 unfold qIP
 obtain⟨⟩:=x
 obtain⟨⟩:=y
 simp
theorem qtY(w:World)(x:HI):(part 3 (qq x).toArray 0).run P w=.ok (J x.op) w/\(part 3 (qq x).toArray 1).run P w=.ok (J x.sub) w/\(part 3 (qq x).toArray 2).run P w=.ok (J x.frm) w/\(part 3 (qq x).toArray 3).run P w=.ok (J x.ty) w/\(part 3 (qq x).toArray 4).run P w=.ok (J x.d) w/\(part 3 (qq x).toArray 5).run P w=.ok (J x.a) w/\(part 3 (qq x).toArray 6).run P w=.ok (J x.b) w/\(part 3 (qq x).toArray 7).run P w=.ok (J x.c) w/\(part 3 (qq x).toArray 8).run P w=.ok (J x.k) w/\(part 24 (qq x).toArray 9).run P w=.ok (U x.i) w/\(part 24 (qq x).toArray 10).run P w=.ok (U x.chain) w/\(part 117 (qq x).toArray 11).run P w=.ok (.agg (Vcs x).toArray) w:=
 ⟨by kernel_rfl,by kernel_rfl,by kernel_rfl,by kernel_rfl,by kernel_rfl,by kernel_rfl,by kernel_rfl,by kernel_rfl,by kernel_rfl,by kernel_rfl,by kernel_rfl,by kernel_rfl⟩
theorem qMc(w:World)(x y:HI):(Op.equal 119 (.agg (qq x).toArray) (.agg (qq y).toArray)).run P w=.ok (x==y) w:=by
 unfold Op.equal
 have h3:∀ d (x y:Int),(Op.equalIn (d+1) 3 (.int .i64 x) (.int .i64 y)).run P w=.ok (x==y) w:=fun d x y=>by simp[Op.equalIn,run_underlying Tryz.underlying3]
 have h24:∀ d (x y:Int),(Op.equalIn (d+1) 24 (.int .u32 x) (.int .u32 y)).run P w=.ok (x==y) w:=fun d x y=>by simp[Op.equalIn,run_underlying Tryz.underlying24]
 have hm:∃ d,Op.maxDepth=d+3:=⟨_,rfl⟩
 obtain⟨d,hd⟩:=hm
 rw[hd,run_equalIn_struct w (d+2) 119 _ _ (by rw[q0b];exact Tryz.underlying119) Tryz.stoodInHeld119,q0b,<-qzD]
 obtain⟨a0,a1,a2,a3,a4,a5,a6,a7,a8,a9,a10,a11⟩:=qtY w x
 obtain⟨b0,b1,b2,b3,b4,b5,b6,b7,b8,b9,b10,b11⟩:=qtY w y
 have hv:=qMB w d x y
 unfold qIP
 simp only[Op.eqFields,ne_eq,String.reduceEq,not_false_eq_true,if_true,Sem.run_bind,a0,b0,h3,Result.andThen_ok]
 by_cases e0:x.op=y.op<;>simp[e0,a1,b1,h3,h24,hv]
 by_cases e1:x.sub=y.sub<;>simp[e1,a2,b2,h3,h24,hv]
 by_cases e2:x.frm=y.frm<;>simp[e2,a3,b3,h3,h24,hv]
 by_cases e3:x.ty=y.ty<;>simp[e3,a4,b4,h3,h24,hv]
 by_cases e4:x.d=y.d<;>simp[e4,a5,b5,h3,h24,hv]
 by_cases e5:x.a=y.a<;>simp[e5,a6,b6,h3,h24,hv]
 by_cases e6:x.b=y.b<;>simp[e6,a7,b7,h3,h24,hv]
 by_cases e7:x.c=y.c<;>simp[e7,a8,b8,h3,h24,hv]
 by_cases e8:x.k=y.k<;>simp[e8,a9,b9,h3,h24,hv]
 by_cases e9:x.i=y.i<;>simp[e9,a10,b10,h3,h24,hv]
 by_cases e10:x.chain=y.chain<;>simp[e10,a11,b11,h3,h24,hv]
 by_cases u0:x.v0=y.v0<;>by_cases u1:x.v1=y.v1<;>by_cases u2:x.v2=y.v2<;>by_cases u3:x.v3=y.v3<;>simp[u0,u1,u2,u3]
theorem qDH(s t:Nat)(w:World)(x y:HI):(do eqGuard .eql 119 (.tmp s) (.tmp t) (.agg (qq x).toArray) (.agg (qq y).toArray);binOp .eql 119 (.agg (qq x).toArray) (.agg (qq y).toArray):Sem Value).run P w=.ok (.bool (x==y)) w:=by
 simp[eqGuard,binOp,qMc,Tryz.eqGuardType119]
theorem q1x(h:St w0 w H){gcs:List Value}{gt:TypeId}(hg:(0,Cs gcs gt)∈H)(ht:Q7 gcs){x:HI}(hK:∀ w',St w0 w' H->K (.bool (yN x)) w'):q9 P 186 [.agg (qq x).toArray] w K:=by
 refine qyB _ _ _ ?_
 rw[qzR]
 refine h.newC fun n1 w2 hn1 h2=>⟨x.op,h2.cell (k:=0) rfl,?_⟩
 have h2:St w0 w2 ((n1,Cs (qq x) 119)::H):=h2
 refine ZQ h2 (.tail _ hg) ht fun w5 s h5=>⟨_,_,rfl,?_⟩
 obtain⟨z,hz,hzl⟩:=qxt
 rw[hz]
 refine h5.newC fun n8 w9 hn8 h9=>?_
 refine h9.stA (k:=0) rfl rfl (by simp[hzl]) (by simp[y8,Value.oneCell']) fun w10 h10=>?_
 have h10:St w0 w10 ((n8,Cs (qX z 0 (y8 s (zi (if 1<=x.op/\x.op<46 then x.op else 0)).1 (zi (if 1<=x.op/\x.op<46 then x.op else 0)).2)) 214)::(n1,Cs (qq x) 119)::H):=h10
 rw[qI _ _ (by rw[hzl];rfl)]at h10
 have hd:∀ {w'} {f r},St w0 w' ((n8,Cs (y8 s f r) 214)::(n1,Cs (qq x) 119)::H)->K (.bool (yN x)) w':=fun h'=>hK _ ((h'.tail hn8).tail hn1)
 rw[qg]
 refine⟨fun hb=>?_,fun hb=>?_⟩
 ·have hop:1<=x.op/\x.op<46:=of_decide_eq_true hb
  rw[if_pos hop]at h10
  have h11:=h10.drew
  refine h11.ldA (k:=0) (i:=0) rfl (by simp[y8]) (h11.ldA (k:=1) (i:=0) rfl (by simp[qq]) (h11.ldA (k:=1) (i:=0) rfl (by simp[qq]) ?_))
  refine qyV (x:=x) h11 (Zz x.op).1 fun w15 h15=>⟨_,rfl,?_,(Yy (zi x.op).1 x==x),fun wq=>qDH 15 16 wq _ x,?_⟩
  ·intro i hi
   rw[qa,h15.cell (k:=1) rfl]
   simp[qq]
  have fls:∀ {b},yN x=b->jM b w15 K:=fun {b} hb=>by rw[YG,<-hb];exact hd h15
  have c:∀ i,w15.cell? (Addr.mk n1 i none)=(qq x)[i]?:=fun i=>h15.cell (k:=1) rfl
  simp only[qa,Nat.zero_add]
  cases v1:(Yy (zi x.op).1 x==x)<;>simp only[qe,qb]
  ·exact fls (by unfold yN;rw[v1];simp)
  refine⟨x.d,c 4,?_⟩
  cases v2:decide (x.d>=0)<;>simp only[qe,qb]
  ·exact fls (by unfold yN;rw[v2];simp)
  refine⟨x.a,c 5,?_⟩
  cases v3:decide (x.a>=0)<;>simp only[qe,qb]
  ·exact fls (by unfold yN;rw[v3];simp)
  refine⟨x.b,c 6,?_⟩
  cases v4:decide (x.b>=0)<;>simp only[qe,qb]
  ·exact fls (by unfold yN;rw[v4];simp)
  refine⟨x.c,c 7,?_⟩
  cases v5:decide (x.c>=0)<;>simp only[qe,qb]
  ·exact fls (by unfold yN;rw[v5];simp)
  refine h15.ldA (k:=0) (i:=0) rfl (by simp[y8]) (h15.ldA (k:=1) (i:=0) rfl (by simp[qq]) ?_)
  refine quj (x:=x) h15 fun w25 h25=>⟨_,rfl,?_⟩
  rw[YG]
  have hv:yN x=q2h (zi x.op).2 x:=by unfold yN;rw[hb,v1,v2,v3,v4,v5];simp
  rw[<-hv];exact hd h25
 ·rw[YG]
  have hv:yN x=false:=by unfold yN;rw[hb];simp
  rw[<-hv];exact hd h10.drew
abbrev B(x:Int):Value:=.int .u8 x
theorem qzL(l:List Int)(b:Int):le (l++[b])=le l+b*256 ^ l.length:=by
 induction l with
 | nil=>simp[le]
 | cons x r ih=>simp only[List.cons_append,le,ih,List.length_cons,Int.pow_succ,Int.mul_add];rw[<-Int.add_assoc];congr 1;rw[Int.mul_comm (256 ^ r.length) 256,<-Int.mul_assoc,<-Int.mul_assoc,Int.mul_comm 256 b]
theorem q3n(l:List Int)(h:∀ b∈l,0<=b/\b<256):0<=le l/\le l<256 ^ l.length:=by
 induction l with
 | nil=>simp[le]
 | cons x r ih=>
  have h1:=h x (by simp)
  have h2:=ih fun b hb=>h b (by simp[hb])
  simp only[le,List.length_cons,Int.pow_succ]
  omega
theorem qGx(acc b:Int)(i:Nat)(hi:i<4)(h0:0<=acc)(h1:acc<256 ^ i)(hb0:0<=b)(hb1:b<256) :
  IntKind.wrap .u32 ((BitVec.ofInt (IntKind.bits .u32) acc ||| BitVec.ofInt (IntKind.bits .u32) (IntKind.wrap .u32 (IntKind.wrap .u32 b*2 ^ (min (Int.toNat (IntKind.wrap .i64 (8*(i:Int)))) (IntKind.bits .u32))))).toNat:Int)=acc+b*256 ^ i:=by
 obtain⟨a,rfl⟩:=Int.eq_ofNat_of_zero_le h0
 obtain⟨c,rfl⟩:=Int.eq_ofNat_of_zero_le hb0
 have hc:c<256:=by omega
 rw[qc om om,Zw (x:=((c:Nat):Int)) om om]
 have e8:min (Int.toNat (8*(i:Int))) (IntKind.bits .u32)=8*i:=by
  show min (Int.toNat (8*(i:Int))) 32=8*i
  omega
 rw[e8]
 have ha:a<2 ^ (8*i):=by
  have:(256:Int) ^ i=((2 ^ (8*i):Nat):Int):=by rw[Nat.pow_mul];simp
  rw[this]at h1;omega
 have e256:(256:Int) ^ i=((2 ^ (8*i):Nat):Int):=by rw[Nat.pow_mul];simp
 have hm:((c:Nat):Int)*2 ^ (8*i)=((2 ^ (8*i)*c:Nat):Int):=by rw[Int.natCast_mul,Int.natCast_pow,Int.mul_comm];rfl
 have hlt:2 ^ (8*i)*c<2 ^ (8*i)*256:=Nat.mul_lt_mul_of_pos_left hc (Nat.two_pow_pos _)
 have hle:2 ^ (8*i)*256<=4294967296:=by
  have:i=0\/i=1\/i=2\/i=3:=by omega
  rcases this with rfl | rfl | rfl | rfl<;>decide
 rw[hm,Zw (x:=((2 ^ (8*i)*c:Nat):Int)) om om,e256]
 have hor:(BitVec.ofInt (IntKind.bits .u32) ((a:Nat):Int) ||| BitVec.ofInt (IntKind.bits .u32) ((2 ^ (8*i)*c:Nat):Int)).toNat=2 ^ (8*i)*c+a:=by
  show(BitVec.ofInt 32 ((a:Nat):Int) ||| BitVec.ofInt 32 ((2 ^ (8*i)*c:Nat):Int)).toNat=_
  rw[BitVec.toNat_or,BitVec.ofInt_natCast,BitVec.ofInt_natCast,BitVec.toNat_ofNat,BitVec.toNat_ofNat,Nat.mod_eq_of_lt om,Nat.mod_eq_of_lt om,Nat.or_comm]
  exact(Nat.two_pow_add_eq_or_of_lt ha c).symm
 have hsum:2 ^ (8*i)*c+a<4294967296:=by
  have:2 ^ (8*i)*c+a<2 ^ (8*i)*256:=by
   have:2 ^ (8*i)*c+2 ^ (8*i)<=2 ^ (8*i)*256:=by rw[<-Nat.mul_succ];exact Nat.mul_le_mul_left _ hc
   omega
  omega
 rw[hor,Zw om om]
 push_cast
 rw[Int.mul_comm ((c:Nat):Int),Int.add_comm]
theorem qEl{X:qE}(h:St w0 w X){k rd:Nat}{ov:Value}{bs:List Int}{at_ n:Nat}{sh:Bool}(hk:X[k]?=some (rd,Cs [ov,J at_,.bool sh] 211))
  (hrow:∀ w' cs,St w0 w' (X.set k (rd,Cs cs 211))->vn w' 1 ov bs.length (bs.map B)) (hb:∀ b∈bs,0<=b/\b<256) (hlen:bs.length<1000000) (hat:at_<1000000) (hn:n<=4)
  (hK:∀ w' v a' s',St w0 w' (X.set k (rd,Cs [ov,J (a':Nat),.bool s'] 211))->(if at_+n > bs.length then v=0/\a'=at_/\s'=true else v=le ((bs.drop at_).take n)/\a'=at_+n/\s'=sh)->K (U v) w') :
  q9 P 166 [.pointer (some (Addr.mk rd 0 none)),J n] w K:=by
 have hset:X.set k (rd,Cs [ov,J at_,.bool sh] 211)=X:=by
  apply List.ext_getElem?
  intro j
  rw[List.getElem?_set]
  by_cases hkj:k=j
  ·subst hkj;obtain⟨h1,h2⟩:=List.getElem?_eq_some_iff.1 hk;simp[h1,h2]
  ·simp[hkj]
 have hr0:vn w 1 ov bs.length (bs.map B):=hrow w _ (by rw[hset];exact h)
 obtain⟨sa,sc,rfl⟩:=hr0.form
 refine qBh _ _ _ _ ?_
 rw[qDR]
 have hd:=h.drew
 refine⟨at_,by rw[qa];exact hd.cell hk,sa,bs.length,sc,hd.cell hk,?_⟩
 rw[qc om om,qg]
 have hkl:k<X.length:=(List.getElem?_eq_some_iff.1 hk).1
 refine⟨fun hgt=>?_,fun hle=>?_⟩
 ·have hgt:at_+n > bs.length:=by have:=of_decide_eq_true hgt;omega
  show zW ((Addr.mk rd 0 none).add 2) _ _ _
  rw[qa]
  refine hd.st1 hk (by simp) rfl fun w7 h7=>hK w7 0 at_ true h7 (by rw[if_pos hgt];exact⟨rfl,rfl,rfl⟩)
 ·have hle:¬ at_+n > bs.length:=by have:=of_decide_eq_false hle;omega
  rw[qeI]
  refine⟨fun m e w'=>∃ i:Nat,i<=n/\m=n-i/\e=qi.mk 54 [(23,J i),(0,.pointer (some (Addr.mk rd 0 none))),(5,U (le ((bs.drop at_).take i))),(4,U 0),(1,J n),(22,J n)] []/\St w0 w' X,
   ⟨n,0,by omega,rfl,by simp[le],hd⟩,?_⟩
  rintro m e w' ⟨i,hi,rfl,rfl,hs⟩
  show q9J ..
  rw[qbz,qg]
  refine⟨fun hlt=>?_,fun hge=>?_⟩
  ·have hlt:i<n:=by have:=of_decide_eq_true hlt;omega
   rw[qeM]
   have hs':=hs.drew
   refine⟨sa,bs.length,sc,hs'.cell hk,at_,by rw[qa];exact hs'.cell hk,?_⟩
   rw[qc om om]
   have hr:=hrow w'.drew _ (by rw[hset];exact hs')
   have hjl:at_+i<bs.length:=by omega
   rcases hr.2 with⟨_,h0⟩ | ⟨ad,cp,h1,h2⟩
   ·omega
   ·injection h1 with h1 h3 h4
    subst h1
    refine⟨by omega,by omega,bs[at_+i],?_,by rw[qc om om];omega,?_⟩
    ·rw[show(Int.toNat ((at_:Int)+(i:Int))*1)=at_+i by omega,h2 _ om]
     simp[hjl]
    ·rw[qi1]
     have hbb:=hb bs[at_+i] (List.getElem_mem hjl)
     have htl:((bs.drop at_).take i).length=i:=by simp;omega
     have hlr:=q3n ((bs.drop at_).take i) fun b hb'=>hb b (List.mem_of_mem_drop (List.mem_of_mem_take hb'))
     rw[htl]at hlr
     refine⟨n-(i+1),by omega,i+1,by omega,rfl,?_,hs'⟩
     rw[qGx _ _ i om hlr.1 hlr.2 hbb.1 hbb.2,qc om om]
     have hts:(bs.drop at_).take (i+1)=(bs.drop at_).take i++[bs[at_+i]]:=by
      rw[zC _ (by simp;omega)];simp
     rw[hts,qzL,htl]
     rfl
  ·have:i=n:=by have:=of_decide_eq_false hge;omega
   subst this
   rw[qhz]
   refine⟨at_,by rw[qa];exact hs.cell hk,?_⟩
   show zW ((Addr.mk rd 0 none).add 1) _ _ _
   rw[qa,qc om om]
   refine hs.st1 hk (by simp) rfl fun w7 h7=>hK w7 _ (at_+i) sh ?_ (by rw[if_neg hle];exact⟨rfl,rfl,rfl⟩)
   have:((at_+i:Nat):Int)=(at_:Int)+(i:Int):=by omega
   rw[this];exact h7
theorem qHu:∃ z:List Value,qx P 238=z.toArray/\z.length=2:=⟨[.bool false,J 0],by kernel_rfl,rfl⟩
theorem qKR(wq:World):(Instr.build 238 [].toArray).run P wq=.ok (.agg #[.bool false,J 0]) wq:=kr
theorem qLS(b:Bool)(n:Int)(wq:World):(Instr.build 238 [(0,.bool b),(1,J n)].toArray).run P wq=.ok (.agg #[.bool b,J n]) wq:=kr
theorem q2Q(x:HI):jN x<32768:=(Zz _).1
theorem qI3(h:St w0 w H){gcs:List Value}{gt:TypeId}(hg:(0,Cs gcs gt)∈H)(ht:Q7 gcs){x:HI}
  (hK:∀ w',St w0 w' H->K (.tuple [.agg #[.bool (Yg x).1,J (Yg x).2],.bool (jx x)].toArray) w'):q9 P 188 [.agg (qq x).toArray] w K:=by
 refine qA2 _ _ _ ?_
 obtain⟨z,hz,hzl⟩:=qHu
 obtain⟨y,hy,hyl⟩:=qxt
 rw[qEA,hz,hy]
 refine h.newC fun n1 w2 hn1 h2=>h2.newC fun n3 w4 hn3 h4=>⟨x.op,h4.cell (k:=1) rfl,?_⟩
 have h4:St w0 w4 ((n3,Cs z 238)::(n1,Cs (qq x) 119)::H):=h4
 refine ZQ h4 (.tail _ (.tail _ hg)) ht fun w7 s h7=>⟨_,_,rfl,h7.newC fun n10 w11 hn10 h11=>?_⟩
 refine h11.stA (k:=0) rfl rfl (by simp[hyl]) (by simp[y8,Value.oneCell']) fun w12 h12=>?_
 have h12:St w0 w12 ((n10,Cs (qX y 0 (y8 s (jN x) (Vk x))) 214)::(n3,Cs z 238)::(n1,Cs (qq x) 119)::H):=h12
 rw[qI _ _ (by rw[hyl];rfl)]at h12
 have hd:∀ {w' zz},St w0 w' ((n10,Cs (y8 s (jN x) (Vk x)) 214)::(n3,Cs zz 238)::(n1,Cs (qq x) 119)::H)->St w0 w' H:=fun h'=>((h'.tail hn10).tail hn3).tail hn1
 refine h12.ldA (k:=2) (i:=0) rfl (by simp[qq]) (q1x (x:=x) h12 (.tail _ (.tail _ (.tail _ hg))) ht fun w15 h15=>⟨_,rfl,?_⟩)
 have no:∀ {w'},jx x=false->St w0 w' ((n10,Cs (y8 s (jN x) (Vk x)) 214)::(n3,Cs z 238)::(n1,Cs (qq x) 119)::H)->q0H true (Addr.mk n3 0 none) (Addr.mk n1 0 none) (Addr.mk n10 0 none) w' K:=fun {w'} hh h'=>by
  rw[q1l]
  simp only[qe]
  refine⟨_,qKR,h'.stA (k:=1) rfl rfl (by simp[hzl]) (by simp[Value.oneCell']) fun w22 h22=>?_⟩
  have h22:St w0 w22 ((n10,Cs (y8 s (jN x) (Vk x)) 214)::(n3,Cs (qX z 0 [.bool false,J 0]) 238)::(n1,Cs (qq x) 119)::H):=h22
  rw[qI _ _ (by rw[hzl];rfl)]at h22
  refine h22.ldA (k:=1) (i:=0) rfl (by simp) ?_
  have hK:=hK w22 (hd h22)
  unfold Yg at hK
  rw[hh]at hK
  exact hK
 rw[qg]
 refine⟨fun hb=>no ?_ h15,fun hb=>?_⟩
 ·have hb:yN x=false:=by simpa using hb
  unfold jx;rw[hb];rfl
 have hv:yN x=true:=by simpa using hb
 refine h15.ldA (k:=0) (i:=0) rfl (by simp[y8]) (yQ (bit:=8) h15 (q2Q x) om fun w39 h39=>⟨_,rfl,?_⟩)
 cases h8:has (jN x) 8 with
 | false=>exact no (by unfold jx;rw[h8];simp) h39
 | true=>
  have hh:jx x=true:=by unfold jx;rw[h8,hv];rfl
  rw[Bool.not_true,q1l]
  simp only[qb]
  rw[qcW]
  have h40:=h39.drew
  refine h40.ldA (k:=0) (i:=0) rfl (by simp[y8]) ⟨x.d,by rw[qa];exact h40.cell (k:=2) rfl,yQ (bit:=2048) h40 (q2Q x) om fun w30 h30=>⟨_,rfl,by rw[qa];exact h30.cell (k:=2) rfl,_,qLS _ _,?_⟩⟩
  refine h30.stA (k:=1) rfl rfl (by simp[hzl]) (by simp[Value.oneCell']) fun w33 h33=>?_
  have h33:St w0 w33 ((n10,Cs (y8 s (jN x) (Vk x)) 214)::(n3,Cs (qX z 0 [.bool (has (jN x) 2048),J x.d]) 238)::(n1,Cs (qq x) 119)::H):=h33
  rw[qI _ _ (by rw[hzl];rfl)]at h33
  rw[qhN]
  refine h33.ldA (k:=1) (i:=0) rfl (by simp) ?_
  have hK:=hK w33 (hd h33)
  unfold Yg at hK
  rw[hh]at hK
  exact hK
def yD(fs rl:Nat)(sub:Int):List (Nat × Bool):=
 (if has fs 16=true then[(5,has fs 4096)]else[])++(if has fs 32=true then[(6,has fs 8192)]else[])++(if(has fs 64&&(rl != 12||sub==0))=true then[(7,has fs 16384)]else[])
def Rcs(n:Nat)(r:Nat × Bool):List Value:=[.pointer (some (Addr.mk n r.1 none)),.bool r.2]
theorem qtS{α:Type}(f:α->List Value)(m:Nat)(hf:∀ x,(f x).length=m)(l:List α):(l.map f).flatten.length=l.length*m:=by
 induction l with
 | nil=>simp
 | cons x r ih=>simp[ih,hf,Nat.add_mul,Nat.add_comm]
theorem qv2(p:Option Addr)(b:Bool)(wq:World):(Instr.build 251 [(0,.pointer p),(1,.bool b)].toArray).run P wq=.ok (.agg #[.pointer p,.bool b]) wq:=kr
theorem q1v{n nb:Nat}{r:Nat × Bool}{l:List (Nat × Bool)}{L:qE}{ov:Value}(h:St w0 w ((nb,Cs (Rcs n r) 251)::(L++H)))(hnb:w0.heap.size<=nb)(hS:zx 2 251 ov l.length (l.map (Rcs n)).flatten L)(hN:qF w0 L)(hl:l.length<100) :
  ∃ a c w' L',(Builtin.append_ #[248,248] 248 [ov,.slice (some (Addr.mk nb 0 none)) 1 1].toArray).run P w=.ok (.slice a (l++[r]).length c) w'/\zx 2 251 (.slice a (l++[r]).length c) (l++[r]).length ((l++[r]).map (Rcs n)).flatten L'/\St w0 w' (L'++H)/\qF w0 L':=by
 have h:St w0 w ([(nb,Cs (Rcs n r) 251)]++(L++H)):=h
 obtain⟨g,cap,w',L',hr,hS',hs',hN'⟩:=St.append (P:=P) 248 248 251 Tryz.t251 (.agg #[.pointer none,.bool false]) 2 16 Tryz.underlying248 kr rfl rfl rfl rfl om h hS hN (j:=0) rfl rfl (by simp[Rcs,Value.oneCell']) (by simp[maxLen];omega) om
 refine⟨some ⟨g,0,none⟩,cap,w',L',?_,?_,(hs':St w0 w' ((nb,Cs (Rcs n r) 251)::(L'++H))).tail hnb,hN'⟩
 ·simpa using hr
 ·simpa using hS'
theorem qsK(h:St w0 w H){s:ByteArray}{fs rl n:Nat}{x:HI}(hfs:fs<32768)(hx:(n,Cs (qq x) 119)∈H)
  (hK:∀ w' a c L,St w0 w' (L++H)->qF w0 L->zx 2 251 (.slice a (yD fs rl x.sub).length c) (yD fs rl x.sub).length ((yD fs rl x.sub).map (Rcs n)).flatten L->K (.slice a (yD fs rl x.sub).length c) w') :
  q9 P 197 [.agg (y8 s fs rl).toArray,.pointer (some (Addr.mk n 0 none))] w K:=by
 refine qDt _ _ _ _ ?_
 rw[qFl]
 refine h.newC fun n2 w3 hn2 h3=>?_
 have h3:St w0 w3 ((n2,Cs (y8 s fs rl) 214)::H):=h3
 have mv:∀ {w':World} {L:qE},St w0 w' (L++(n2,Cs (y8 s fs rl) 214)::H)->St w0 w' ((n2,Cs (y8 s fs rl) 214)::(L++H)):=fun h'=>h'.perm List.perm_middle
 have mv':∀ {w':World} {L:qE},St w0 w' ((n2,Cs (y8 s fs rl) 214)::(L++H))->St w0 w' (L++(n2,Cs (y8 s fs rl) 214)::H):=fun h'=>h'.perm List.perm_middle.symm
 have s3:∀ {w':World} {l a c L},l=yD fs rl x.sub->zx 2 251 (.slice a l.length c) l.length (l.map (Rcs n)).flatten L->qF w0 L->St w0 w' (L++(n2,Cs (y8 s fs rl) 214)::H)->q0A a l.length c w' K:=by
  rintro w' l a c L rfl hS hN h'
  rw[qfP]
  exact hK w' a c L ((mv h').tail hn2) hN hS
 have s2:∀ {w':World} {l a c L} {b:Bool},l++(if b=true then[(7,has fs 16384)]else[])=yD fs rl x.sub->l.length<100->zx 2 251 (.slice a l.length c) l.length (l.map (Rcs n)).flatten L->qF w0 L->St w0 w' (L++(n2,Cs (y8 s fs rl) 214)::H)->
   Yd b (Addr.mk n2 0 none) (some (Addr.mk n 0 none)) a l.length c w' K:=by
  intro w' l a c L b hl h100 hS hN h'
  rw[qfQ,qg]
  refine⟨fun hb=>?_,fun hb=>s3 (by rw[hb]at hl;simpa using hl) hS hN h'⟩
  have h4:=(mv h').drew
  refine h4.ldA (k:=0) (i:=0) rfl (by simp[y8]) (yQ (bit:=16384) h4 hfs om fun w54 h54=>⟨_,rfl,?_⟩)
  refine⟨_,qv2 _ _,⟨rfl,trivial⟩,h54.newC fun n60 w58 hn60 h58=>?_⟩
  have h58:St w0 w58 ((n60,Cs (Rcs n (7,has fs 16384)) 251)::(n2,Cs (y8 s fs rl) 214)::(L++H)):=by rw[qa]at h58;exact h58
  obtain⟨a',c',w62,L',hr,hS',hs',hN'⟩:=q1v (r:=(7,has fs 16384)) (h58.perm (List.Perm.cons _ List.perm_middle.symm)) hn60 hS hN h100
  refine⟨_,_,_,w62,hr,s3 ?_ hS' hN' hs'⟩
  rw[hb]at hl;exact hl
 have s1:∀ {w':World} {l a c L},l++(if(has fs 64&&(rl != 12||x.sub==0))=true then[(7,has fs 16384)]else[])=yD fs rl x.sub->l.length<100->zx 2 251 (.slice a l.length c) l.length (l.map (Rcs n)).flatten L->qF w0 L->St w0 w' (L++(n2,Cs (y8 s fs rl) 214)::H)->
   q0p (Addr.mk n2 0 none) (some (Addr.mk n 0 none)) a l.length c w' K:=by
  intro w' l a c L hl h100 hS hN h'
  rw[qfE]
  have h4:=mv h'
  refine h4.ldA (k:=0) (i:=0) rfl (by simp[y8]) (yQ (bit:=64) h4 hfs om fun w44 h44=>⟨_,rfl,?_⟩)
  have s2':∀ {b:Bool},b=(has fs 64&&(rl != 12||x.sub==0))->Yd b (Addr.mk n2 0 none) (some (Addr.mk n 0 none)) a l.length c w44 K:=fun {b} hb=>s2 (by rw[hb];exact hl) h100 hS hN (mv' h44)
  rw[qg]
  refine⟨fun hb=>⟨rl,by rw[qa];exact h44.cell (k:=0) rfl,?_⟩,fun hb=>s2' (by rw[hb];rfl)⟩
  rw[qg]
  refine⟨fun hc=>s2' ?_,fun hc=>⟨x.sub,?_,s2' ?_⟩⟩
  ·have:(rl != 12)=true:=by simp at hc ⊢;omega
   rw[hb,this];rfl
  ·rw[qa]
   exact qw (h44.has _ _ (.tail _ (List.mem_append_right _ hx)))
  ·have:(rl != 12)=false:=by simp at hc ⊢;omega
   rw[hb,this];simp
 have s0:∀ {w':World} {l a c L},l++(if has fs 32=true then[(6,has fs 8192)]else[])++(if(has fs 64&&(rl != 12||x.sub==0))=true then[(7,has fs 16384)]else[])=yD fs rl x.sub->l.length<90->zx 2 251 (.slice a l.length c) l.length (l.map (Rcs n)).flatten L->qF w0 L->St w0 w' (L++(n2,Cs (y8 s fs rl) 214)::H)->
   q0v (Addr.mk n2 0 none) (some (Addr.mk n 0 none)) a l.length c w' K:=by
  intro w' l a c L hl h100 hS hN h'
  rw[qd7]
  have h4:=mv h'
  refine h4.ldA (k:=0) (i:=0) rfl (by simp[y8]) (yQ (bit:=32) h4 hfs om fun w25 h25=>⟨_,rfl,?_⟩)
  rw[qg]
  refine⟨fun hb=>?_,fun hb=>s1 (by rw[hb]at hl;simpa using hl) om hS hN (mv' h25)⟩
  have h5:=h25.drew
  refine h5.ldA (k:=0) (i:=0) rfl (by simp[y8]) (yQ (bit:=8192) h5 hfs om fun w30 h30=>⟨_,rfl,?_⟩)
  refine⟨_,qv2 _ _,⟨rfl,trivial⟩,h30.newC fun n36 w34 hn36 h34=>?_⟩
  have h34:St w0 w34 ((n36,Cs (Rcs n (6,has fs 8192)) 251)::(n2,Cs (y8 s fs rl) 214)::(L++H)):=by rw[qa]at h34;exact h34
  obtain⟨a',c',w38,L',hr,hS',hs',hN'⟩:=q1v (r:=(6,has fs 8192)) (h34.perm (List.Perm.cons _ List.perm_middle.symm)) hn36 hS hN om
  refine⟨_,_,_,w38,hr,s1 ?_ (by simp;omega) hS' hN' hs'⟩
  rw[hb]at hl;exact hl
 refine h3.ldA (k:=0) (i:=0) rfl (by simp[y8]) (yQ (bit:=16) h3 hfs om fun w6 h6=>⟨_,rfl,?_⟩)
 rw[qg]
 refine⟨fun hb=>?_,fun hb=>s0 (l:=[]) (by unfold yD;rw[hb];simp) (by simp) (zx.nil 2 251) (qF.nil w0) h6⟩
 have h7:=h6.drew
 refine h7.ldA (k:=0) (i:=0) rfl (by simp[y8]) (yQ (bit:=4096) h7 hfs om fun w11 h11=>⟨_,rfl,?_⟩)
 refine⟨_,qv2 _ _,⟨rfl,trivial⟩,h11.newC fun n17 w15 hn17 h15=>?_⟩
 have h15:St w0 w15 ((n17,Cs (Rcs n (5,has fs 4096)) 251)::([]++(n2,Cs (y8 s fs rl) 214)::H)):=by rw[qa]at h15;exact h15
 obtain⟨a',c',w19,L',hr,hS',hs',hN'⟩:=q1v (l:=[]) (r:=(5,has fs 4096)) h15 hn17 (zx.nil 2 251) (qF.nil w0) (by simp)
 refine⟨_,_,_,w19,hr,s0 (l:=[(5,has fs 4096)]) ?_ (by simp) hS' hN' hs'⟩
 unfold yD
 rw[hb]
 rfl
def fieldAt(x:HI)(o:Nat):Int:=if o=5 then x.a else if o=6 then x.b else x.c
def Gcs(r:Bool × Int):List Value:=[.bool r.1,J r.2]
theorem qaG(x:HI):yY x=(yD (jN x) (Vk x) x.sub).map fun r=>(r.2,fieldAt x r.1):=by
 unfold yY yD
 simp only[List.map_append]
 congr 1
 ·congr 1
  ·split<;>simp[fieldAt]
  ·split<;>simp[fieldAt]
 ·split<;>simp[fieldAt]
theorem q1n(fs rl:Nat)(sub:Int):(yD fs rl sub).length<=3:=by
 unfold yD
 simp only[List.length_append]
 split<;>split<;>split<;>simp
theorem qhn{fs rl:Nat}{sub:Int}{r:Nat × Bool}(h:r∈yD fs rl sub):r.1=5\/r.1=6\/r.1=7:=by
 unfold yD at h
 simp only[List.mem_append]at h
 rcases h with(h | h) | h<;>split at h<;>simp at h<;>subst h<;>simp
theorem v7{α:Type}(f:α->List Value)(m:Nat)(hf:∀ x,(f x).length=m)(l:List α):∀ {i:Nat} (hi:i<l.length),((l.map f).flatten.drop (i*m)).take m=f l[i]:=by
 induction l with
 | nil=>intro i hi;simp at hi
 | cons x r ih=>
  intro i hi
  cases i with
  | zero=>simp[hf]
  | succ i=>
   have e:(i+1)*m=(f x).length+i*m:=by rw[hf,Nat.add_mul];omega
   simp only[List.map_cons,List.flatten_cons,List.getElem_cons_succ]
   rw[e,<-List.drop_drop,List.drop_left]
   exact ih _
theorem qn{l l':qE}(h:∀ c:Nat × Obj->Nat,(l.map c).sum=(l'.map c).sum):l.Perm l':=by
 classical
 rw[List.perm_iff_count]
 intro a
 have e:∀ l:List (Nat × Obj),l.count a=(l.map fun y=>if y==a then 1 else 0).sum:=by
  intro l
  induction l with
  | nil=>rfl
  | cons x r ih=>rw[List.count_cons,List.map_cons,List.sum_cons,ih];omega
 rw[e,e]
 exact h _
theorem qmM{nb:Nat}{r:Bool × Int}{l:List (Bool × Int)}{L:qE}{ov:Value}(h:St w0 w ((nb,Cs (Gcs r) 238)::(L++H)))(hnb:w0.heap.size<=nb)(hS:zx 2 238 ov l.length (l.map Gcs).flatten L)(hN:qF w0 L)(hl:l.length<100) :
  ∃ a c w' L',(Builtin.append_ #[235,235] 235 [ov,.slice (some (Addr.mk nb 0 none)) 1 1].toArray).run P w=.ok (.slice a (l++[r]).length c) w'/\zx 2 238 (.slice a (l++[r]).length c) (l++[r]).length ((l++[r]).map Gcs).flatten L'/\St w0 w' (L'++H)/\qF w0 L':=by
 have h:St w0 w ([(nb,Cs (Gcs r) 238)]++(L++H)):=h
 obtain⟨g,cap,w',L',hr,hS',hs',hN'⟩:=St.append (P:=P) 235 235 238 Tryz.t238 (.agg #[.bool false,J 0]) 2 16 Tryz.underlying235 kr rfl rfl rfl rfl om h hS hN (j:=0) rfl rfl (by simp[Gcs,Value.oneCell']) (by simp[maxLen];omega) om
 refine⟨some ⟨g,0,none⟩,cap,w',L',?_,?_,(hs':St w0 w' ((nb,Cs (Gcs r) 238)::(L'++H))).tail hnb,hN'⟩
 ·simpa using hr
 ·simpa using hS'
theorem qyI(h:St w0 w H){gcs:List Value}{gt:TypeId}(hg:(0,Cs gcs gt)∈H)(ht:Q7 gcs){x:HI}(hv:yN x=true)
  (hK:∀ w' a c L,St w0 w' (L++H)->qF w0 L->zx 2 238 (.slice a (yY x).length c) (yY x).length ((yY x).map Gcs).flatten L->K (.slice a (yY x).length c) w'):q9 P 187 [.agg (qq x).toArray] w K:=by
 refine qAt _ _ _ ?_
 obtain⟨y,hy,hyl⟩:=qxt
 obtain⟨z,hz⟩:∃ z:List Value,qx P 251=z.toArray/\z.length=2:=⟨[.pointer none,.bool false],by kernel_rfl,rfl⟩
 rw[qz5,qfy]
 refine h.newC fun n2 w3 hn2 h3=>?_
 have h3:St w0 w3 ((n2,Cs (qq x) 119)::H):=h3
 rw[qiR,qfw]
 refine h3.ldA (k:=0) (i:=0) rfl (by simp[qq]) (q1x (x:=x) h3 (.tail _ hg) ht fun w13 h13=>⟨_,rfl,?_⟩)
 rw[hv,Bool.not_true]
 simp only[qb]
 rw[qdi,hy]
 refine⟨x.op,h13.cell (k:=0) rfl,ZQ h13 (.tail _ hg) ht fun w20 s h20=>⟨_,_,rfl,h20.newC fun n23 w24 hn23 h24=>?_⟩⟩
 refine h24.stA (k:=0) rfl rfl (by simp[hyl]) (by simp[y8,Value.oneCell']) fun w25 h25=>?_
 have h25:St w0 w25 ((n23,Cs (qX y 0 (y8 s (jN x) (Vk x))) 214)::(n2,Cs (qq x) 119)::H):=h25
 rw[qI _ _ (by rw[hyl];rfl)]at h25
 rw[qiw]
 refine h25.ldA (k:=0) (i:=0) rfl (by simp[y8]) (qsK (x:=x) (n:=n2) h25 (q2Q x) (.tail _ (.head _)) fun w41 ra rc RL h41 hRN hRS=>⟨_,_,_,rfl,?_⟩)
 rw[qg6]
 generalize hro:yD (jN x) (Vk x) x.sub=ro at *
 have hus:yY x=ro.map fun r=>(r.2,fieldAt x r.1):=by rw[qaG,hro]
 have hlen:ro.length<=3:=by rw[<-hro];exact q1n _ _ _
 have hul:(yY x).length=ro.length:=by rw[hus];simp
 refine⟨fun m e w'=>∃ (i:Nat) (oa:Option Addr) (oc:Nat) (OL:qE),i<=ro.length/\m=ro.length-i/\e=qi.mk 36 [(20,J i),(3,.slice oa ((yY x).take i).length oc),(18,.slice ra ro.length rc),(2,.slice none 0 0),(19,J ro.length)] []/\
   St w0 w' (OL++(RL++(n23,Cs (y8 s (jN x) (Vk x)) 214)::(n2,Cs (qq x) 119)::H))/\qF w0 OL/\zx 2 238 (.slice oa ((yY x).take i).length oc) ((yY x).take i).length (((yY x).take i).map Gcs).flatten OL,
  ⟨ro.length,0,none,0,[],by omega,rfl,rfl,h41,qF.nil w0,zx.nil 2 238⟩,?_⟩
 rintro m e w' ⟨i,oa,oc,OL,hi,rfl,rfl,hs,hON,hOS⟩
 show qad ..
 rw[qb4,qh8,qg]
 refine⟨fun hlt=>?_,fun hge=>?_⟩
 ·have hlt:i<ro.length:=by have:=of_decide_eq_true hlt;omega
  rw[qeZ,hz.1]
  have hrow:vn w' 2 (.slice ra ro.length rc) ro.length (ro.map (Rcs n2)).flatten:=hRS.row fun u hu=>hs.has _ _ (List.mem_append_right _ (List.mem_append_left _ hu))
  obtain⟨ad,cp,hac,hld⟩:=hrow.ldA hlt
  injection hac with hac _ _
  subst hac
  refine⟨by omega,by omega,?_⟩
  rw[Int.toNat_natCast]
  refine hld _ ?_
  rw[v7 (Rcs n2) 2 (fun _=>rfl) ro hlt]
  refine hs.newC fun n78 w79 hn78 h79=>?_
  refine h79.stA (k:=0) rfl rfl (by simp[hz.2]) (by simp[Rcs,Value.oneCell']) fun w80 h80=>?_
  have h80:St w0 w80 ((n78,Cs (qX z 0 (Rcs n2 ro[i])) 251)::(OL++(RL++(n23,Cs (y8 s (jN x) (Vk x)) 214)::(n2,Cs (qq x) 119)::H))):=h80
  rw[qI _ _ (by rw[hz.2];rfl)]at h80
  have h81:=h80.drew
  have hoff:ro[i].1=5\/ro[i].1=6\/ro[i].1=7:=qhn (fs:=jN x) (rl:=Vk x) (sub:=x.sub) (by rw[hro];exact List.getElem_mem hlt)
  refine⟨ro[i].2,by rw[qa];exact h81.cell (k:=0) rfl,some (Addr.mk n2 ro[i].1 none),h81.cell (k:=0) rfl,fieldAt x ro[i].1,?_,_,qLS _ _,⟨rfl,trivial⟩,?_⟩
  ·rw[qw (h81.has n2 (Cs (qq x) 119) (.tail _ (List.mem_append_right _ (List.mem_append_right _ (.tail _ (.head _))))))]
   rcases hoff with h | h | h<;>rw[h]<;>rfl
  ·refine h81.newC fun n89 w87 hn89 h87=>?_
   have h87:St w0 w87 ((n89,Cs (Gcs (ro[i].2,fieldAt x ro[i].1)) 238)::(n78,Cs (Rcs n2 ro[i]) 251)::(OL++(RL++(n23,Cs (y8 s (jN x) (Vk x)) 214)::(n2,Cs (qq x) 119)::H))):=h87
   have h88:=(h87.perm (List.Perm.swap _ _ _)).tail hn78
   obtain⟨a',c',w91,L',hr,hS',hs',hN'⟩:=qmM (r:=(ro[i].2,fieldAt x ro[i].1)) h88 hn89 hOS hON (by simp;omega)
   refine⟨_,_,_,w91,hr,?_⟩
   rw[qdf]
   have ht1:(yY x).take (i+1)=(yY x).take i++[(ro[i].2,fieldAt x ro[i].1)]:=by
    rw[zC _ (by rw[hul];exact hlt)]
    congr 2
    simp[hus]
   refine⟨ro.length-(i+1),by omega,i+1,a',c',L',by omega,rfl,?_,hs',hN',by rw[ht1];exact hS'⟩
   rw[qc om om,ht1];rfl
 ·have:i=ro.length:=by have:=of_decide_eq_false hge;omega
  subst this
  rw[qaW]
  have htk:(yY x).take ro.length=yY x:=List.take_of_length_le (by rw[hul];exact Nat.le_refl _)
  rw[htk]at hOS ⊢
  refine hK w' oa oc OL ?_ hON hOS
  have h1:St w0 w' (RL++((n23,Cs (y8 s (jN x) (Vk x)) 214)::(n2,Cs (qq x) 119)::(OL++H))):=hs.perm (qn fun c=>by simp only[List.map_append,List.map_cons,List.sum_append,List.sum_cons];omega)
  exact((h1.sub hRN).tail hn23).tail hn2
theorem q4w(x:HI):(yY x).length<=3:=by rw[qaG,List.length_map];exact q1n _ _ _
theorem ql3{X:qE}{l:List (Bool × Int)}{la:Option Addr}{lc:Nat}{L:qE}(h:St w0 w (L++X))(hS:zx 2 238 (.slice la l.length lc) l.length (l.map Gcs).flatten L)(hl:l.length<100)
  (hK:∀ w',St w0 w' (L++X)->K (J (if l.all Zd=true then 0 else 170)) w'):q0X 0 la l.length lc w K:=by
 obtain⟨z,hz,hzl⟩:=qHu
 rw[qgI,qgl]
 refine⟨fun m e w'=>∃ i:Nat,i<=l.length/\m=l.length-i/\e=qi.mk 47 [(25,J i),(23,.slice la l.length lc),(2,J 0),(24,J l.length)] []/\St w0 w' (L++X)/\(l.take i).all Zd=true,⟨l.length,0,by omega,rfl,rfl,h,rfl⟩,?_⟩
 rintro m e w' ⟨i,hi,rfl,rfl,hs,hall⟩
 show q7Z ..
 rw[q82,qdI,qg]
 refine⟨fun hlt=>?_,fun hge=>?_⟩
 ·have hlt:i<l.length:=by have:=of_decide_eq_true hlt;omega
  rw[qhW,hz]
  have hrow:vn w' 2 (.slice la l.length lc) l.length (l.map Gcs).flatten:=hS.row fun u hu=>hs.has _ _ (List.mem_append_left _ hu)
  obtain⟨ad,cp,hac,hld⟩:=hrow.ldA hlt
  injection hac with hac _ _
  subst hac
  refine⟨by omega,by omega,?_⟩
  rw[Int.toNat_natCast]
  refine hld _ ?_
  rw[v7 Gcs 2 (fun _=>rfl) l hlt]
  refine hs.newC fun n59 w60 hn59 h60=>?_
  refine h60.stA (k:=0) rfl rfl (by simp[hzl]) (by simp[Gcs,Value.oneCell']) fun w61 h61=>?_
  have h61:St w0 w61 ((n59,Cs (qX z 0 (Gcs l[i])) 238)::(L++X)):=h61
  rw[qI _ _ (by rw[hzl];rfl)]at h61
  have h62:=h61.tail hn59
  have bad:Zd l[i]=false->∀ {Y:YT},Ql true (some ad) l.length lc l.length i 0 w61 K Y:=fun hb {Y}=>by
   rw[q20]
   simp only[qe]
   have:l.all Zd=false:=by
    rw[<-Bool.not_eq_true,List.all_eq_true]
    intro h;rw[h _ (List.getElem_mem hlt)]at hb;cases hb
   have hK:=hK w61 h62
   rw[this]at hK
   exact hK
  have good:Zd l[i]=true->∀ {Y:YT},Y (qi.mk 47 [(25,J ((i+1:Nat):Int)),(23,.slice (some ad) l.length lc),(2,J 0),(24,J l.length)] []) w61->Ql false (some ad) l.length lc l.length i 0 w61 K Y:=fun hb {Y} hY=>by
   rw[q20]
   simp only[qb]
   rw[qau,qc om om]
   exact hY
  have next:Zd l[i]=true->(l.take (i+1)).all Zd=true:=fun hb=>by rw[zC l hlt,List.all_append,hall];simp[hb]
  have hreg:Zd l[i]=if l[i].1=true then decide (l[i].2<6)else decide (l[i].2<12):=rfl
  have c0:w61.cell? (Addr.mk n59 0 none)=some (.bool l[i].1):=h61.cell (k:=0) rfl
  have c1:w61.cell? ((Addr.mk n59 0 none).add 1)=some (J l[i].2):=by rw[qa];exact h61.cell (k:=0) rfl
  refine⟨l[i].1,c0,?_⟩
  cases hv:l[i].1 with
  | true=>
   rw[hv,if_pos rfl]at hreg
   simp only[qe]
   refine⟨_,c1,?_⟩
   cases hn:decide (l[i].2>=6)with
   | true=>
    simp only[qe]
    exact bad (by rw[hreg];have:=of_decide_eq_true hn;simp;omega)
   | false=>
    simp only[qb]
    have hok:Zd l[i]=true:=by rw[hreg];have:=of_decide_eq_false hn;simp;omega
    refine⟨true,by rw[<-hv];exact c0,?_⟩
    simp only[Bool.not_true,qb]
    exact good hok ⟨l.length-(i+1),by omega,i+1,by omega,rfl,rfl,h62,next hok⟩
  | false=>
   rw[hv,if_neg (by simp)]at hreg
   simp only[qb]
   refine⟨false,by rw[<-hv];exact c0,?_⟩
   simp only[Bool.not_false,qe]
   refine⟨_,c1,?_⟩
   cases hn:decide (l[i].2>=12)with
   | true=>exact bad (by rw[hreg];have:=of_decide_eq_true hn;simp;omega)
   | false=>
    have hok:Zd l[i]=true:=by rw[hreg];have:=of_decide_eq_false hn;simp;omega
    exact good hok ⟨l.length-(i+1),by omega,i+1,by omega,rfl,rfl,h62,next hok⟩
 ·have:i=l.length:=by have:=of_decide_eq_false hge;omega
  subst this
  rw[List.take_length]at hall
  rw[qcD]
  have hK:=hK w' hs
  rw[if_pos hall]at hK
  exact hK
theorem qu2(h:St w0 w H){gcs:List Value}{gt:TypeId}(hg:(0,Cs gcs gt)∈H)(ht:Q7 gcs){x:HI}(hK:∀ w',St w0 w' H->K (J (if check x=true then 0 else 170)) w'):q9 P 170 [.agg (qq x).toArray] w K:=by
 refine qCs _ _ _ ?_
 obtain⟨z,hz,hzl⟩:=qHu
 rw[qAO,qfx]
 refine h.newC fun n2 w3 hn2 h3=>?_
 have h3:St w0 w3 ((n2,Cs (qq x) 119)::H):=h3
 rw[qhv]
 refine h3.ldA (k:=0) (i:=0) rfl (by simp[qq]) (q1x (x:=x) h3 (.tail _ hg) ht fun w9 h9=>⟨_,rfl,?_⟩)
 rw[qg]
 refine⟨fun hb=>?_,fun hb=>?_⟩
 ·have hb:yN x=false:=by simpa using hb
  have hK:=hK w9 (h9.tail hn2)
  unfold check at hK
  rw[hb]at hK
  exact hK
 have hv:yN x=true:=by simpa using hb
 rw[qiE]
 refine h9.ldA (k:=0) (i:=0) rfl (by simp[qq]) (qyI (x:=x) h9 (.tail _ hg) ht hv fun w15 ua uc UL h15 hUN hUS=>⟨_,_,_,rfl,?_⟩)
 rw[qgK,hz]
 have h16:St w0 w15 ((n2,Cs (qq x) 119)::(UL++H)):=h15.perm List.perm_middle
 refine h16.ldA (k:=0) (i:=0) rfl (by simp[qq]) (qI3 (x:=x) h16 (.tail _ (List.mem_append_right _ hg)) ht fun w24 h24=>⟨_,_,rfl,h24.newC fun n27 w28 hn27 h28=>?_⟩)
 refine h28.stA (k:=0) rfl rfl (by simp[hzl]) (by simp[Value.oneCell']) fun w29 h29=>?_
 have h29:St w0 w29 ((n27,Cs (qX z 0 (Gcs (Yg x))) 238)::(n2,Cs (qq x) 119)::(UL++H)):=h29
 rw[qI _ _ (by rw[hzl];rfl)]at h29
 have hck:check x=((yY x++if jx x=true then[Yg x]else[]).all Zd):=by unfold check;rw[hv];rfl
 rw[qg]
 refine⟨fun hb=>?_,fun hb=>?_⟩
 ·refine h29.ldA (k:=0) (i:=0) rfl (by simp[Gcs]) ⟨⟨rfl,trivial⟩,h29.newC fun n34 w32 hn34 h32=>?_⟩
  have h32:St w0 w32 ((n34,Cs (Gcs (Yg x)) 238)::(n27,Cs (Gcs (Yg x)) 238)::(n2,Cs (qq x) 119)::(UL++H)):=h32
  have h33:St w0 w32 ((n34,Cs (Gcs (Yg x)) 238)::(UL++((n27,Cs (Gcs (Yg x)) 238)::(n2,Cs (qq x) 119)::H))):=h32.perm (qn fun c=>by simp only[List.map_append,List.map_cons,List.sum_append,List.sum_cons];omega)
  have hul:=q4w x
  obtain⟨a',c',w36,L',hr,hS',hs',hN'⟩:=qmM (r:=Yg x) h33 hn34 hUS hUN om
  refine⟨_,_,_,w36,hr,ql3 hs' hS' (by simp;omega) fun w' h'=>?_⟩
  have hK:=hK w' (((h'.sub hN').tail hn27).tail hn2)
  rw[hck,hb]at hK
  exact hK
 ·have hul:=q4w x
  have h33:St w0 w29 (UL++((n27,Cs (Gcs (Yg x)) 238)::(n2,Cs (qq x) 119)::H)):=h29.perm (qn fun c=>by simp only[List.map_append,List.map_cons,List.sum_append,List.sum_cons];omega)
  refine ql3 h33 hUS om fun w' h'=>?_
  have hK:=hK w' (((h'.sub hUN).tail hn27).tail hn2)
  rw[hck,hb]at hK
  simp only[Bool.false_eq_true,if_false,List.append_nil]at hK
  exact hK
end Go.Fx.Tryz
namespace Go.Fx.Ch
abbrev Rd:=Nat × Bool
def rd(bs:List Int)(s:Rd)(n:Nat):Int × Rd:=if s.1+n > bs.length then(0,(s.1,true))else(le ((bs.drop s.1).take n),(s.1+n,s.2))
def q45(x:HI)(i:Nat)(v:Int):HI:=match i with
 | 0=>{ x with sub:=v }
 | 1=>{ x with frm:=v }
 | 2=>{ x with ty:=v }
 | 3=>{ x with d:=v }
 | 4=>{ x with a:=v }
 | 5=>{ x with b:=v }
 | 6=>{ x with c:=v }
 | _=>{ x with k:=v }
def q8n(i:Nat):Nat:=[1,2,4,8,16,32,64,128].getD i 0
def decS(fs:Nat)(bs:List Int)(i:Nat)(s:HI × Rd):HI × Rd:=if has fs (q8n i)=true then(q45 s.1 i (rd bs s.2 (if i=7 then 2 else 1)).1,(rd bs s.2 (if i=7 then 2 else 1)).2)else s
def decI(fs:Nat)(bs:List Int):Nat->HI × Rd->HI × Rd
 | 0,s=>s
 | i+1,s=>decS fs bs i (decI fs bs i s)
def decA(fs:Nat)(bs:List Int)(s:HI × Rd):HI × Rd:=if has fs 256=true then({ s.1 with i:=(rd bs s.2 4).1 },(rd bs s.2 4).2)else s
def decC(fs:Nat)(bs:List Int)(s:HI × Rd):HI × Rd:=if has fs 512=true then({ s.1 with chain:=(rd bs s.2 4).1 },(rd bs s.2 4).2)else s
def q2H(x:HI)(i:Nat)(v:Int):HI:=match i with
 | 0=>{ x with v0:=v }
 | 1=>{ x with v1:=v }
 | 2=>{ x with v2:=v }
 | _=>{ x with v3:=v }
def decV1(bs:List Int):Nat->HI × Rd->HI × Rd
 | 0,s=>s
 | i+1,s=>(q2H (decV1 bs i s).1 i (rd bs (decV1 bs i s).2 4).1,(rd bs (decV1 bs i s).2 4).2)
def decV(fs:Nat)(bs:List Int)(s:HI × Rd):HI × Rd:=if has fs 1024=true then decV1 bs 4 s else s
def decode(bs:List Int):Option (HI × Nat):=
 let o:=rd bs (0,false) 1
 if ¬ (1<=o.1/\o.1<46)\/o.2.2=true then none else
 let fs:=(zi o.1).1
 let s:=decV fs bs (decC fs bs (decA fs bs (decI fs bs 8 ({ op:=o.1 },o.2))))
 if s.2.2=true\/check s.1=false then none else some (s.1,s.2.1)
theorem q4o{bs:List Int}{s:Rd}{n:Nat}(h:s.1<=bs.length):(rd bs s n).2.1<=bs.length:=by
 unfold rd
 split
 ·exact h
 ·show s.1+n<=bs.length;omega
theorem Vs{fs:Nat}{bs:List Int}{s:HI × Rd}(h:s.2.1<=bs.length):∀ i,(decI fs bs i s).2.1<=bs.length
 | 0=>h
 | i+1=>by
  show(decS fs bs i (decI fs bs i s)).2.1<=bs.length
  unfold decS
  split
  ·exact q4o (Vs h i)
  ·exact Vs h i
theorem qjm{fs:Nat}{bs:List Int}{s:HI × Rd}(h:s.2.1<=bs.length):(decA fs bs s).2.1<=bs.length:=by
 unfold decA;split
 ·exact q4o h
 ·exact h
theorem qol{fs:Nat}{bs:List Int}{s:HI × Rd}(h:s.2.1<=bs.length):(decC fs bs s).2.1<=bs.length:=by
 unfold decC;split
 ·exact q4o h
 ·exact h
theorem Vr{bs:List Int}{s:HI × Rd}(h:s.2.1<=bs.length):∀ i,(decV1 bs i s).2.1<=bs.length
 | 0=>h
 | i+1=>q4o (Vr h i)
theorem q97{bs:List Int}{s:Rd}{n:Nat}:s.1<=(rd bs s n).2.1:=by
 unfold rd
 split
 ·exact Nat.le_refl _
 ·show s.1<=s.1+n;omega
theorem qov{fs:Nat}{bs:List Int}{s:HI × Rd}:∀ i,s.2.1<=(decI fs bs i s).2.1
 | 0=>Nat.le_refl _
 | i+1=>by
  show s.2.1<=(decS fs bs i (decI fs bs i s)).2.1
  have:=qov (fs:=fs) (bs:=bs) (s:=s) i
  unfold decS
  split
  ·exact Nat.le_trans this q97
  ·exact this
theorem q86{bs:List Int}{s:HI × Rd}:∀ i,s.2.1<=(decV1 bs i s).2.1
 | 0=>Nat.le_refl _
 | i+1=>Nat.le_trans (q86 (bs:=bs) (s:=s) i) q97
theorem qmn{fs:Nat}{bs:List Int}{s:HI × Rd}:s.2.1<=(decV fs bs s).2.1:=by
 unfold decV
 split
 ·exact q86 4
 ·exact Nat.le_refl _
theorem qDb{fs:Nat}{bs:List Int}{s:HI × Rd}:s.2.1<=(decC fs bs s).2.1:=by
 unfold decC
 split
 ·exact q97
 ·exact Nat.le_refl _
theorem qBb{fs:Nat}{bs:List Int}{s:HI × Rd}:s.2.1<=(decA fs bs s).2.1:=by
 unfold decA
 split
 ·exact q97
 ·exact Nat.le_refl _
theorem qAH{fs:Nat}{bs:List Int}{s:HI × Rd}(h:s.2.1<=bs.length):(decV fs bs s).2.1<=bs.length:=by
 unfold decV
 split
 ·exact Vr h 4
 ·exact h
theorem vg{bs:List Int}{x:HI}{n:Nat}(h:decode bs=some (x,n)):1<=n/\n<=bs.length:=by
 unfold decode at h
 dsimp only at h
 split at h
 ·cases h
 ·rename_i hno
  split at h
  ·cases h
  ·simp only[Option.some.injEq,Prod.mk.injEq]at h
   obtain⟨_,rfl⟩:=h
   have h1:(rd bs (0,false) 1).2.1=1:=by
    unfold rd at hno ⊢
    split
    ·rename_i hgt;rw[if_pos hgt]at hno;simp at hno
    ·rfl
   have h2:(rd bs (0,false) 1).2.1<=bs.length:=q4o (Nat.zero_le _)
   refine⟨?_,qAH (qol (qjm (Vs h2 8)))⟩
   refine Nat.le_trans (Nat.le_of_eq h1.symm) (Nat.le_trans (qov (fs:=(zi (rd bs (0,false) 1).1).1) (bs:=bs) (s:=({ op:=(rd bs (0,false) 1).1 },(rd bs (0,false) 1).2)) 8) (Nat.le_trans qBb (Nat.le_trans qDb qmn)))
def Yr(x:HI):Bool:=x.op==40||x.op==41
def zM(out:List (HI × Nat)):Bool:=match out.getLast? with
 | some p=>Yr p.1
 | none=>false
def QE(bs:List Int):Nat->Nat->List (HI × Nat)->Option (List (HI × Nat))
 | 0,_,_=>none
 | f+1,at_,out=>if at_<bs.length then match decode (bs.drop at_)with
   | none=>none
   | some (x,n)=>if zM out=true then none else QE bs f (at_+n) (out++[(x,at_)])
  else if zM out=true then some out else none
def jm(bs:List Int):Option (List (HI × Nat)):=if bs.length > 65536 then none else QE bs (bs.length+1) 0 []
end Go.Fx.Ch
namespace Go.Fx.Tryz
open Go Go.Fx Go.Fx.Ch
open Go.Proofs
set_option linter.all false
set_option maxRecDepth 20000
variable {w0 w:World} {H:qE} {K:KT}
structure yl (w0:World) (H:qE) (ov:Value) (bs:List Int):Prop where
 row:∀ w',St w0 w' H->vn w' 1 ov bs.length (bs.map B)
 byte:∀ b∈bs,0<=b/\b<256
 len:bs.length<1000000
 cap:∀ a n c,ov=.slice a n c->n<=c
theorem qcG{bs:List Int}(hb:∀ b∈bs,0<=b/\b<256)(s:Rd){n:Nat}(hn:n<=4):0<=(rd bs s n).1/\(rd bs s n).1<4294967296:=by
 unfold rd
 split
 ·exact⟨Int.le_refl 0,by show(0:Int)<4294967296;decide⟩
 ·have h1:=q3n ((bs.drop s.1).take n) fun b hb'=>hb b (List.mem_of_mem_drop (List.mem_of_mem_take hb'))
  have h2:((bs.drop s.1).take n).length<=4:=by simp;omega
  have h3:(256:Int) ^ ((bs.drop s.1).take n).length<=4294967296:=by
   generalize ((bs.drop s.1).take n).length=m at h2
   have:m=0\/m=1\/m=2\/m=3\/m=4:=by omega
   rcases this with rfl | rfl | rfl | rfl | rfl<;>decide
  exact⟨h1.1,Int.lt_of_lt_of_le h1.2 h3⟩
def Rdc(ov:Value)(s:Rd):List Value:=[ov,J (s.1:Nat),.bool s.2]
theorem qxY{A:qE}{ov:Value}{bs:List Int}(hB:yl w0 H ov bs){k r:Nat}{s:Rd}{n:Nat}(h:St w0 w (A++H))(hA:∀ x∈A,w0.heap.size<=x.1)(hk:A[k]?=some (r,Cs (Rdc ov s) 211))(hs:s.1<=bs.length)(hn:n<=4)
  (hK:∀ w',St w0 w' (A.set k (r,Cs (Rdc ov (rd bs s n).2) 211)++H)->K (U (rd bs s n).1) w'):q9 P 166 [.pointer (some (Addr.mk r 0 none)),J n] w K:=by
 have hkl:k<A.length:=(List.getElem?_eq_some_iff.1 hk).1
 have hk':(A++H)[k]?=some (r,Cs (Rdc ov s) 211):=by rw[List.getElem?_append_left hkl];exact hk
 have hset:∀ y,(A++H).set k y=A.set k y++H:=fun y=>List.set_append_left _ _ hkl
 have hr:w0.heap.size<=r:=hA _ (List.mem_of_getElem? hk)
 refine qEl (bs:=bs) h hk' (fun w' cs h'=>?_) hB.byte hB.len (by have:=hB.len;omega) hn fun w' v a' s' h' hv=>?_
 ·rw[hset]at h'
  refine hB.row w' (h'.sub fun x hx=>?_)
  obtain⟨j,hj⟩:=List.mem_iff_getElem?.1 hx
  rw[List.getElem?_set]at hj
  by_cases hkj:k=j
  ·subst hkj;simp[hkl]at hj;rw[<-hj];exact hr
  ·simp[hkj]at hj;exact hA _ (List.mem_of_getElem? hj)
 ·have e:rd bs s n=(v,(a',s')):=by
   unfold rd
   split
   ·rename_i hgt;rw[if_pos hgt]at hv;obtain⟨rfl,rfl,rfl⟩:=hv;rfl
   ·rename_i hgt;rw[if_neg hgt]at hv;obtain⟨rfl,rfl,rfl⟩:=hv;rfl
  rw[hset]at h'
  have hK:=hK w'
  rw[e]at hK
  exact hK h'
theorem qEj(p:Option Addr)(l c:Nat)(wq:World):(Instr.build 211 [(0,.slice p l c)].toArray).run P wq=.ok (.agg (Rdc (.slice p l c) (0,false)).toArray) wq:=kr
theorem qPh:∃ z:List Value,qx P 209=z.toArray/\z.length=1:=⟨[.pointer none],by kernel_rfl,rfl⟩
theorem qFH(wq:World):(Instr.build 119 [].toArray).run P wq=.ok (.agg (qq {}).toArray) wq:=kr
theorem qfX(a:Addr)(v87 v86 v86' v5 v6:Value)(x3 x4:Int)(d0:List Deferred)(w:World)(K:KT) :
  zr P q3u (qi.mk 93 [(4,J x4),(3,J x3),(87,v87),(86,v86),(86,v86'),(2,.pointer (some a)),(5,v5),(6,v6)] d0) K [] w=qU 15 a w (fun cs=>K (.tuple [.agg cs,J x3,J x4].toArray) w):=kr
theorem qeL(a:Addr)(x3 x4:Int)(d0:List Deferred)(w:World)(K:KT) :
  zr P q3u (qi.mk 93 [(2,.pointer (some a)),(3,J x3),(4,J x4)] d0) K [] w=qU 15 a w (fun cs=>K (.tuple [.agg cs,J x3,J x4].toArray) w):=kr
def Dbl(ov:Value)(n22 n14 n6 n4 n1:Nat)(fc:List Value)(s:HI × Rd)(zz:List Value):List (Nat × Obj):=
 [(n22,Cs fc 214),(n14,Cs (qq s.1) 119),(n6,Cs [.pointer (some (Addr.mk n4 0 none))] 209),(n4,Cs (Rdc ov s.2) 211),(n1,Cs zz 119)]
theorem qF2(x:HI)(i:Nat)(hi:i<8)(v:Int):(qq x).set (yI.getD i (0,0)).2 (J v)=qq (q45 x i v):=by
 have:i=0\/i=1\/i=2\/i=3\/i=4\/i=5\/i=6\/i=7:=by omega
 rcases this with rfl | rfl | rfl | rfl | rfl | rfl | rfl | rfl<;>rfl
theorem qyR(x:HI)(i:Nat)(hi:i<4)(v:Int):(qq x).set (11+i) (U v)=qq (q2H x i v):=by
 have:i=0\/i=1\/i=2\/i=3:=by omega
 rcases this with rfl | rfl | rfl | rfl<;>rfl
theorem qBl(i:Nat)(hi:i<8):(yI.getD i (0,0)).1=q8n i:=by
 have key:∀ i,i<8->(yI.getD i (0,0)).1=q8n i:=by decide
 exact key i hi
theorem qah(i:Nat)(hi:i<8):((q8n i:Nat):Int)=128↔i=7:=by
 have:i=0\/i=1\/i=2\/i=3\/i=4\/i=5\/i=6\/i=7:=by omega
 rcases this with rfl | rfl | rfl | rfl | rfl | rfl | rfl | rfl<;>simp[q8n]
def q0h(bs:List Int):HI × Int × Int:=match Ch.decode bs with
 | some (x,n)=>(x,n,0)
 | none=>({},0,170)
section dec
variable {ov:Value} {bs:List Int} {n22 n14 n6 n4 n1:Nat}
theorem qlh{gcs:List Value}{gt:TypeId}(hB:yl w0 H ov bs)(hg:(0,Cs gcs gt)∈H)(ht:Q7 gcs)(h22:w0.heap.size<=n22)(h14:w0.heap.size<=n14)(h6:w0.heap.size<=n6)(h4:w0.heap.size<=n4)(h1:w0.heap.size<=n1){l':Nat}(hl':w0.heap.size<=l')
  {fc zz:List Value} {s:HI × Rd} (hz:zz.length=15) (hs:s.2.1<=bs.length) (h:St w0 w ((l',.deferred (some []))::(Dbl ov n22 n14 n6 n4 n1 fc s zz++H)))
  (hK:∀ w',St w0 w' H->K (.tuple [.agg (qq (if s.2.2=true\/check s.1=false then {}else s.1)).toArray,J (if s.2.2=true\/check s.1=false then 0 else(s.2.1:Nat)),J (if s.2.2=true\/check s.1=false then 170 else 0)].toArray) w') :
  Vb (Addr.mk n1 0 none) (Addr.mk n6 0 none) (Addr.mk n14 0 none) [mk l'] w K:=by
 have hd:∀ {w':World} {o:Obj} {zz':List Value},St w0 w' ((l',o)::(Dbl ov n22 n14 n6 n4 n1 fc s zz'++H))->St w0 w' H:=fun h'=>(h'.tail hl').sub (fun x hx=>by
  simp only[Dbl,List.mem_cons,List.not_mem_nil,or_false]at hx
  rcases hx with rfl | rfl | rfl | rfl | rfl<;>assumption)
 rw[qab]
 refine⟨some (Addr.mk n4 0 none),h.cell (k:=3) rfl,s.2.2,by rw[qa];exact h.cell (k:=4) rfl,?_⟩
 have err:∀ {w':World},(s.2.2=true\/check s.1=false)->St w0 w' ((l',.deferred (some []))::(Dbl ov n22 n14 n6 n4 n1 fc s zz++H))->Vu true (Addr.mk n1 0 none) (Addr.mk n6 0 none) (Addr.mk n14 0 none) [mk l'] w' K:=fun {w'} hc h'=>by
  rw[q08]
  simp only[qe]
  refine⟨_,qFH,h'.stA (k:=5) rfl rfl (by simp[hz]) (by simpa using Zo _) fun w151 h151=>?_⟩
  have h151:St w0 w151 ((l',.deferred (some []))::(Dbl ov n22 n14 n6 n4 n1 fc s (qX zz 0 (qq {}))++H)):=h151
  rw[qI _ _ (by rw[hz];rfl)]at h151
  show w151.heap[l']?=some (.deferred (some []))/\zr P q3u _ K [] (w151.putObj l' (.deferred none))
  refine⟨h151.get (k:=0) rfl,?_⟩
  rw[qfX]
  have h152:=h151.put (k:=0) rfl (.deferred none)
  refine h152.ldA (k:=5) (i:=0) rfl (by simp[qq]) ?_
  have hK:=hK _ (hd h152)
  rw[if_pos hc,if_pos hc,if_pos hc]at hK
  exact hK
 cases hsh:s.2.2 with
 | true=>simp only[qe];exact err (.inl hsh) h
 | false=>
  simp only[qb]
  refine h.ldA (k:=2) (i:=0) rfl (by simp[qq]) (qu2 (x:=s.1) h (.tail _ (List.mem_append_right _ hg)) ht fun w165 h165=>⟨_,rfl,?_⟩)
  cases hck:check s.1 with
  | false=>exact err (.inr hck) h165
  | true=>
   rw[q08]
   simp only[show((if(true:Bool)=true then(0:Int)else 170) != 0)=false from rfl,qb]
   rw[qaw]
   have h166:=h165.drew
   refine h166.ldA (k:=2) (i:=0) rfl (by simp[qq]) ⟨some (Addr.mk n4 0 none),h166.cell (k:=3) rfl,(s.2.1:Nat),by rw[qa];exact h166.cell (k:=4) rfl,?_⟩
   refine h166.stA (k:=5) rfl rfl (by simp[hz]) (fun v hv=>Zo s.1 v (List.mem_of_mem_take (by simpa using hv))) fun w159 h159=>?_
   have h159:St w0 w159 ((l',.deferred (some []))::(Dbl ov n22 n14 n6 n4 n1 fc s (qX zz 0 (qq s.1))++H)):=h159
   rw[qI _ _ (by rw[hz];rfl)]at h159
   refine⟨by rw[qa];exact h159.cell (k:=4) rfl,h159.cell (k:=3) rfl,?_⟩
   rw[qcA]
   show w159.heap[l']?=some (.deferred (some []))/\zr P q3u _ K [] (w159.putObj l' (.deferred none))
   refine⟨h159.get (k:=0) rfl,?_⟩
   rw[qeL]
   have h160:=h159.put (k:=0) rfl (.deferred none)
   refine h160.ldA (k:=5) (i:=0) rfl (by simp[qq]) ?_
   have hno:¬ (s.2.2=true\/check s.1=false):=by rw[hsh,hck];simp
   have hK:=hK _ (hd h160)
   rw[if_neg hno,if_neg hno,if_neg hno]at hK
   exact hK
end dec
end Go.Fx.Tryz
namespace Go.Fx.Tryz
open Go Go.Fx Go.Fx.Ch
open Go.Proofs
set_option linter.all false
set_option maxRecDepth 20000
variable {w0 w:World} {H:qE} {K:KT} {ov:Value} {bs:List Int} {n22 n14 n6 n4 n1:Nat}
def qBG(K:KT)(w0:World)(H:qE)(s:HI × Rd):Prop:=∀ w',St w0 w' H->K (.tuple [.agg (qq (if s.2.2=true\/check s.1=false then {}else s.1)).toArray,J (if s.2.2=true\/check s.1=false then 0 else(s.2.1:Nat)),J (if s.2.2=true\/check s.1=false then 170 else 0)].toArray) w'
theorem q5W{fc zz:List Value}{s:HI × Rd}(h22:w0.heap.size<=n22)(h14:w0.heap.size<=n14)(h6:w0.heap.size<=n6)(h4:w0.heap.size<=n4)(h1:w0.heap.size<=n1):∀ x∈Dbl ov n22 n14 n6 n4 n1 fc s zz,w0.heap.size<=x.1:=by
 intro x hx
 simp only[Dbl,List.mem_cons,List.not_mem_nil,or_false]at hx
 rcases hx with rfl | rfl | rfl | rfl | rfl<;>assumption
section
variable {gcs:List Value} {gt:TypeId} (hB:yl w0 H ov bs) (hg:(0,Cs gcs gt)∈H) (ht:Q7 gcs) (h22:w0.heap.size<=n22) (h14:w0.heap.size<=n14) (h6:w0.heap.size<=n6) (h4:w0.heap.size<=n4) (h1:w0.heap.size<=n1) {l':Nat} (hl':w0.heap.size<=l')
include hB hg ht h22 h14 h6 h4 h1 hl'
theorem qiZ{zz fc:List Value}{s:HI × Rd}{n:Nat}(hs:s.2.1<=bs.length)(hn:n<=4)(h:St w0 w ((l',.deferred (some []))::(Dbl ov n22 n14 n6 n4 n1 fc s zz++H)))
  (hK:∀ w',St w0 w' ((l',.deferred (some []))::(Dbl ov n22 n14 n6 n4 n1 fc (s.1,(rd bs s.2 n).2) zz++H))->K (U (rd bs s.2 n).1) w'):q9 P 166 [.pointer (some (Addr.mk n4 0 none)),J n] w K:=by
 refine qxY (A:=(l',.deferred (some []))::Dbl ov n22 n14 n6 n4 n1 fc s zz) (k:=4) hB h (fun x hx=>?_) rfl hs hn fun w' h'=>hK w' h'
 rcases List.mem_cons.1 hx with rfl | hx
 ·exact hl'
 ·exact q5W h22 h14 h6 h4 h1 x hx
theorem qsJ{str:ByteArray}{fs rl:Nat}{zz:List Value}{s:HI × Rd}(hfs:fs<32768)(hz:zz.length=15)(hs:s.2.1<=bs.length)(h:St w0 w ((l',.deferred (some []))::(Dbl ov n22 n14 n6 n4 n1 (y8 str fs rl) s zz++H)))
  (hK:qBG K w0 H (decV fs bs s)):q0Q (Addr.mk n14 0 none) (Addr.mk n6 0 none) (Addr.mk n1 0 none) 0 0 (Addr.mk n22 0 none) [mk l'] w K:=by
 rw[qhh]
 refine h.ldA (k:=1) (i:=0) rfl (by simp[y8]) (yQ (bit:=1024) h hfs om fun w115 h115=>⟨_,rfl,?_⟩)
 unfold decV at hK
 cases hb:has fs 1024 with
 | false=>
  rw[hb]at hK
  simp only[qb]
  exact qlh hB hg ht h22 h14 h6 h4 h1 hl' hz hs h115 hK
 | true=>
  rw[hb]at hK
  simp only[qe]
  refine⟨fun m e w'=>∃ i:Nat,i<=4/\m=4-i/\e=qi.mk 93 [(69,J i),(6,.pointer (some (Addr.mk n14 0 none))),(5,.pointer (some (Addr.mk n6 0 none))),(2,.pointer (some (Addr.mk n1 0 none))),(3,J 0),(4,J 0)] [mk l']/\
   St w0 w' ((l',.deferred (some []))::(Dbl ov n22 n14 n6 n4 n1 (y8 str fs rl) (decV1 bs i s) zz++H)),⟨4,0,by omega,rfl,rfl,h115⟩,?_⟩
  rintro m e w' ⟨i,hi,rfl,rfl,h'⟩
  show qce ..
  rw[q9L,qg]
  refine⟨fun hlt=>?_,fun hge=>?_⟩
  ·have hlt:i<4:=by have:=of_decide_eq_true hlt;omega
   rw[qeD]
   refine⟨some (Addr.mk n4 0 none),h'.cell (k:=3) rfl,qiZ hB hg ht h22 h14 h6 h4 h1 hl' (n:=4) (Vr hs i) om h' fun w131 h131=>⟨_,rfl,by omega,by omega,?_⟩⟩
   rw[qa,qa,Int.toNat_natCast,Nat.mul_one,Nat.zero_add]
   refine h131.st1 (k:=2) rfl (by simp[qq];omega) rfl fun w133 h133=>?_
   have h133:St w0 w133 ((l',.deferred (some []))::(n22,Cs (y8 str fs rl) 214)::(n14,Cs ((qq (decV1 bs i s).1).set (11+i) (U (rd bs (decV1 bs i s).2 4).1)) 119)::(n6,Cs [.pointer (some (Addr.mk n4 0 none))] 209)::(n4,Cs (Rdc ov (rd bs (decV1 bs i s).2 4).2) 211)::(n1,Cs zz 119)::H):=h133
   rw[qyR _ i hlt]at h133
   rw[qh3]
   exact⟨4-(i+1),by omega,i+1,by omega,rfl,by rw[qc om om];rfl,h133⟩
  ·have:i=4:=by have:=of_decide_eq_false hge;omega
   subst this
   exact qlh hB hg ht h22 h14 h6 h4 h1 hl' hz (Vr hs 4) h' hK
theorem qvt{str:ByteArray}{fs rl:Nat}{zz:List Value}{s:HI × Rd}(hfs:fs<32768)(hz:zz.length=15)(hs:s.2.1<=bs.length)(h:St w0 w ((l',.deferred (some []))::(Dbl ov n22 n14 n6 n4 n1 (y8 str fs rl) s zz++H)))
  (hK:qBG K w0 H (decV fs bs (decC fs bs s))):q0V (Addr.mk n14 0 none) (Addr.mk n6 0 none) (Addr.mk n1 0 none) 0 0 (Addr.mk n22 0 none) [mk l'] w K:=by
 rw[qit]
 refine h.ldA (k:=1) (i:=0) rfl (by simp[y8]) (yQ (bit:=512) h hfs om fun w115 h115=>⟨_,rfl,?_⟩)
 have hd:=qol (fs:=fs) hs
 unfold decC at hK hd
 cases hb:has fs 512 with
 | false=>
  rw[hb]at hK
  simp only[qb]
  exact qsJ hB hg ht h22 h14 h6 h4 h1 hl' hfs hz hs h115 hK
 | true=>
  rw[hb]at hK hd
  simp only[qe]
  refine⟨some (Addr.mk n4 0 none),h115.cell (k:=3) rfl,qiZ hB hg ht h22 h14 h6 h4 h1 hl' (n:=4) hs om h115 fun w131 h131=>⟨_,rfl,?_⟩⟩
  rw[qa]
  refine h131.st1 (k:=2) rfl (by simp[qq]) rfl fun w133 h133=>?_
  exact qsJ hB hg ht h22 h14 h6 h4 h1 hl' hfs hz hd h133 hK
theorem qJ9{str:ByteArray}{fs rl:Nat}{zz:List Value}{s:HI × Rd}(hfs:fs<32768)(hz:zz.length=15)(hs:s.2.1<=bs.length)(h:St w0 w ((l',.deferred (some []))::(Dbl ov n22 n14 n6 n4 n1 (y8 str fs rl) s zz++H)))
  (hK:qBG K w0 H (decV fs bs (decC fs bs (decA fs bs s)))):q6r (Addr.mk n14 0 none) (Addr.mk n6 0 none) (Addr.mk n1 0 none) 0 0 (Addr.mk n22 0 none) [mk l'] w K:=by
 rw[qft]
 refine h.ldA (k:=1) (i:=0) rfl (by simp[y8]) (yQ (bit:=256) h hfs om fun w115 h115=>⟨_,rfl,?_⟩)
 have hd:=qjm (fs:=fs) hs
 unfold decA at hK hd
 cases hb:has fs 256 with
 | false=>
  rw[hb]at hK
  simp only[qb]
  exact qvt hB hg ht h22 h14 h6 h4 h1 hl' hfs hz hs h115 hK
 | true=>
  rw[hb]at hK hd
  simp only[qe]
  refine⟨some (Addr.mk n4 0 none),h115.cell (k:=3) rfl,qiZ hB hg ht h22 h14 h6 h4 h1 hl' (n:=4) hs om h115 fun w131 h131=>⟨_,rfl,?_⟩⟩
  rw[qa]
  refine h131.st1 (k:=2) rfl (by simp[qq]) rfl fun w133 h133=>?_
  exact qvt hB hg ht h22 h14 h6 h4 h1 hl' hfs hz hd h133 hK
end
theorem qFT{gcs:List Value}{gt:TypeId}(hB:yl w0 H ov bs)(hg:(0,Cs gcs gt)∈H)(ht:Q7 gcs)(h22:w0.heap.size<=n22)(h14:w0.heap.size<=n14)(h6:w0.heap.size<=n6)(h4:w0.heap.size<=n4)(h1:w0.heap.size<=n1)
  {str:ByteArray} {fs rl:Nat} {zz:List Value} {s:HI × Rd} (hfs:fs<32768) (hz:zz.length=15) (hs:s.2.1<=bs.length) (h:St w0 w (Dbl ov n22 n14 n6 n4 n1 (y8 str fs rl) s zz++H))
  (hK:qBG K w0 H (decV fs bs (decC fs bs (decA fs bs (decI fs bs 8 s))))):q7k (Addr.mk n6 0 none) (Addr.mk n22 0 none) (Addr.mk n14 0 none) (Addr.mk n1 0 none) 0 0 w K:=by
 rw[qd2]
 refine JM h fun w42 b1 b2 hb1 hb2 h42=>⟨_,rfl,?_⟩
 refine YZ (n:=n14) (m:=n14) h42 (.tail _ (.head _)) (.head _)
  (fun i X=>X=(b2,Cs [.pointer (some (Addr.mk n14 0 none))] 219)::(b1,Cs [.pointer (some (Addr.mk n14 0 none))] 219)::(Dbl ov n22 n14 n6 n4 n1 (y8 str fs rl) (decI fs bs i s) zz++H)) rfl ?_ ?_
 ·rintro l l' q o R post i W X hi rfl hs' hl hl' hq hpost
  have hat:=Vs (fs:=fs) hs i
  generalize hy:decI fs bs i s=y at *
  rw[qb7]
  refine⟨rfl,?_⟩
  rw[q8z]
  obtain⟨z3,hz3,hz3l⟩:=qG9
  rw[hz3]
  refine hs'.newC fun n51 w52 hn51 h52=>?_
  refine h52.stA (k:=0) rfl rfl (by simp[hz3l]) (by simp[Pcs,Value.oneCell']) fun w53 h53=>?_
  have h53:St w0 w53 ((n51,Cs (qX z3 0 (Pcs n14 n14 (yI.getD i (0,0)))) 222)::(l,.loop (R .ready none))::(l',.deferred (some []))::(q,o)::(b2,Cs [.pointer (some (Addr.mk n14 0 none))] 219)::(b1,Cs [.pointer (some (Addr.mk n14 0 none))] 219)::(Dbl ov n22 n14 n6 n4 n1 (y8 str fs rl) y zz++H)):=h53
  rw[qI _ _ (by rw[hz3l];rfl)]at h53
  refine⟨h53.get (k:=1) rfl,?_⟩
  have h54:=h53.put (k:=1) rfl (.loop (R .busy none))
  rw[qiI]
  refine h54.ldA (k:=6) (i:=0) rfl (by simp[y8]) ?_
  refine⟨(yI.getD i (0,0)).1,h54.cell (k:=0) rfl,yQ h54 hfs (Ve i hi).1 fun w60 h60=>⟨_,rfl,?_⟩⟩
  have hdec:decI fs bs (i+1) s=decS fs bs i y:=by rw[<-hy];rfl
  have ebit:=qBl i hi
  rw[qg]
  refine⟨fun hb=>?_,fun hb=>?_⟩
  ·have hb:has fs (q8n i)=false:=by rw[<-ebit];simpa using hb
   refine⟨h60.get (k:=1) rfl,?_⟩
   have h61:=h60.put (k:=1) rfl (.loop (R .ready none))
   refine hpost _ _ ?_ (h61.tail hn51)
   rw[hdec]
   unfold decS
   rw[hb]
   rfl
  ·have hb:has fs (q8n i)=true:=by rw[<-ebit];simpa using hb
   refine⟨(yI.getD i (0,0)).1,h60.cell (k:=0) rfl,?_⟩
   have h61:=h60.drew
   have hA:∀ x∈((n51,Cs (Pcs n14 n14 (yI.getD i (0,0))) 222)::(l,.loop (R .busy none))::(l',.deferred (some []))::(q,o)::(b2,Cs [.pointer (some (Addr.mk n14 0 none))] 219)::(b1,Cs [.pointer (some (Addr.mk n14 0 none))] 219)::Dbl ov n22 n14 n6 n4 n1 (y8 str fs rl) y zz),w0.heap.size<=x.1:=fun x hx=>by
    simp only[List.mem_cons]at hx
    rcases hx with rfl | rfl | rfl | rfl | rfl | rfl | hx
    all_goals first | assumption | skip
    exact q5W h22 h14 h6 h4 h1 x hx
   have go:∀ m:Nat,m=(if i=7 then 2 else 1)->∃ p63:Option Addr,w60.drew.cell? ((Addr.mk n51 0 none).add 1)=some (Value.pointer p63)/\∃ p64:Option Addr,w60.drew.cell? (Addr.mk n6 0 none)=some (Value.pointer p64)/\q9 P 166 [(Value.pointer p64),J m] w60.drew (fun r65 w66=>∃ x67:Int,r65=(Value.int .u32 x67)/\w66.cell? ((Addr.mk n51 0 none).add 1)=some (Value.pointer p63)/\
     qh p63 (fun a68=>zW a68 (Value.int .i64 (IntKind.wrap .i64 x67)) w66 (fun w69=>w69.heap[l]?=some (.loop (R .busy none))/\post none (w69.putObj l (.loop (R .ready none)))))):=by
    intro m hm
    refine⟨some (Addr.mk n14 (yI.getD i (0,0)).2 none),by rw[qa];exact h61.cell (k:=0) rfl,some (Addr.mk n4 0 none),h61.cell (k:=8) rfl,?_⟩
    refine qxY (k:=9) hB h61 hA rfl hat (by rw[hm];split<;>omega) fun w66 h66=>⟨_,rfl,by rw[qa];exact h66.cell (k:=0) rfl,?_⟩
    have hr:=qcG hB.byte y.2 (n:=m) (by rw[hm];split<;>omega)
    rw[qc om om]
    refine h66.st1 (k:=7) rfl (by rw[q8O];exact(Ve i hi).2) rfl fun w69 h69=>?_
    refine⟨h69.get (k:=1) rfl,?_⟩
    have h70:=h69.put (k:=1) rfl (.loop (R .ready none))
    refine hpost _ _ rfl ?_
    have h71:=h70.tail hn51
    have e:decI fs bs (i+1) s=(q45 y.1 i (rd bs y.2 m).1,(rd bs y.2 m).2):=by
     rw[hdec]
     unfold decS
     rw[if_pos hb,hm]
    rw[e]
    show St w0 _ ((l,.loop (R .ready none))::(l',.deferred (some []))::(q,o)::(b2,Cs [.pointer (some (Addr.mk n14 0 none))] 219)::(b1,Cs [.pointer (some (Addr.mk n14 0 none))] 219)::(n22,Cs (y8 str fs rl) 214)::(n14,Cs (qq (q45 y.1 i (rd bs y.2 m).1)) 119)::_)
    rw[<-qF2 _ i hi]
    exact h71
   rw[qg]
   refine⟨fun hc=>go 2 ?_,fun hc=>go 1 ?_⟩
   ·have hc:(((yI.getD i (0,0)).1:Nat):Int)=128:=by simpa using hc
    rw[ebit,qah i hi]at hc
    rw[if_pos hc]
   ·have hc:¬ (((yI.getD i (0,0)).1:Nat):Int)=128:=by simpa using hc
    rw[ebit,qah i hi]at hc
    rw[if_neg hc]
 ·rintro W X l' hl' rfl hs'
  show q9I ..
  rw[q8R]
  have hs2:St w0 W ((l',.deferred (some []))::(Dbl ov n22 n14 n6 n4 n1 (y8 str fs rl) (decI fs bs 8 s) zz++H)):=by
   have h1:St w0 W ((b2,Cs [.pointer (some (Addr.mk n14 0 none))] 219)::(b1,Cs [.pointer (some (Addr.mk n14 0 none))] 219)::(l',.deferred (some []))::(Dbl ov n22 n14 n6 n4 n1 (y8 str fs rl) (decI fs bs 8 s) zz++H)):=hs'.perm (qn fun c=>by simp only[List.map_append,List.map_cons,List.sum_append,List.sum_cons];omega)
   exact(h1.tail hb2).tail hb1
  exact qJ9 hB hg ht h22 h14 h6 h4 h1 hl' hfs hz (Vs hs 8) hs2 hK
theorem qqi{gcs:List Value}{gt:TypeId}(h:St w0 w H)(hB:yl w0 H ov bs)(hg:(0,Cs gcs gt)∈H)(ht:Q7 gcs)
  (hK:∀ w',St w0 w' H->K (.tuple [.agg (qq (q0h bs).1).toArray,J (q0h bs).2.1,J (q0h bs).2.2].toArray) w'):q9 P 138 [ov] w K:=by
 obtain⟨sa,sc,rfl⟩:=(hB.row w h).form
 refine qzd _ _ _ _ _ ?_
 obtain⟨z,hz,hzl⟩:=qKB
 obtain⟨y,hy,hyl⟩:=qPh
 obtain⟨f,hf,hfl⟩:=qxt
 rw[qyA,hz,hy,hf]
 refine h.newC fun n1 w2 hn1 h2=>⟨_,qEj _ _ _,h2.newC fun n4 w5 hn4 h5=>h5.newC fun n6 w7 hn6 h7=>?_⟩
 refine h7.st1 (k:=0) rfl (by simp[hyl]) rfl fun w8 h8=>?_
 have hy1:∀ v,y.set 0 v=[v]:=fun v=>by
  cases y with
  | nil=>simp at hyl
  | cons a r=>simp at hyl;subst hyl;rfl
 have h8:St w0 w8 ((n6,Cs (y.set 0 (.pointer (some (Addr.mk n4 0 none)))) 209)::(n4,Cs (Rdc (.slice sa bs.length sc) (0,false)) 211)::(n1,Cs z 119)::H):=h8
 rw[hy1]at h8
 refine⟨some (Addr.mk n4 0 none),h8.cell (k:=0) rfl,?_⟩
 refine qxY (A:=[(n6,Cs [.pointer (some (Addr.mk n4 0 none))] 209),(n4,Cs (Rdc (.slice sa bs.length sc) (0,false)) 211),(n1,Cs z 119)]) (k:=1) (n:=1) hB h8 (fun x hx=>?_) rfl (Nat.zero_le _) om fun w11 h11=>⟨_,rfl,?_⟩
 ·simp only[List.mem_cons,List.not_mem_nil,or_false]at hx
  rcases hx with rfl | rfl | rfl<;>assumption
 have hr:=qcG hB.byte (0,false) (n:=1) om
 generalize ho:rd bs (0,false) 1=o at *
 rw[qc om om]
 refine⟨_,bop _,h11.newC fun n14 w15 hn14 h15=>?_⟩
 refine h15.stA (k:=0) rfl rfl (by simp[hzl]) (by simpa using Zo _) fun w16 h16=>?_
 have h16:St w0 w16 ((n14,Cs (qX z 0 (qq { op:=o.1 })) 119)::(n6,Cs [.pointer (some (Addr.mk n4 0 none))] 209)::(n4,Cs (Rdc (.slice sa bs.length sc) o.2) 211)::(n1,Cs z 119)::H):=h16
 rw[qI _ _ (by rw[hzl];rfl)]at h16
 refine⟨o.1,h16.cell (k:=0) rfl,ZQ h16 (.tail _ (.tail _ (.tail _ (.tail _ hg)))) ht fun w19 str h19=>⟨_,_,rfl,h19.newC fun n22 w23 hn22 h23=>?_⟩⟩
 refine h23.stA (k:=0) rfl rfl (by simp[hfl]) (by simp[y8,Value.oneCell']) fun w24 h24=>?_
 generalize hop:(if 1<=o.1/\o.1<46 then o.1 else 0)=op at *
 have h24:St w0 w24 ((n22,Cs (qX f 0 (y8 str (zi op).1 (zi op).2)) 214)::(n14,Cs (qq { op:=o.1 }) 119)::(n6,Cs [.pointer (some (Addr.mk n4 0 none))] 209)::(n4,Cs (Rdc (.slice sa bs.length sc) o.2) 211)::(n1,Cs z 119)::H):=h24
 rw[qI _ _ (by rw[hfl];rfl)]at h24
 have h24:St w0 w24 (Dbl (.slice sa bs.length sc) n22 n14 n6 n4 n1 (y8 str (zi op).1 (zi op).2) ({ op:=o.1 },o.2) z++H):=h24
 have err:(¬ (1<=o.1/\o.1<46)\/o.2.2=true)->q0R true (Addr.mk n1 0 none) (Addr.mk n6 0 none) (Addr.mk n22 0 none) (Addr.mk n14 0 none) 0 0 w24 K:=fun hc=>by
  rw[q1F]
  simp only[qe]
  refine⟨_,qFH,h24.stA (k:=4) rfl rfl (by simp[hzl]) (by simpa using Zo _) fun w33 h33=>?_⟩
  have h33:St w0 w33 (Dbl (.slice sa bs.length sc) n22 n14 n6 n4 n1 (y8 str (zi op).1 (zi op).2) ({ op:=o.1 },o.2) (qX z 0 (qq {}))++H):=h33
  rw[qI _ _ (by rw[hzl];rfl)]at h33
  refine h33.ldA (k:=4) (i:=0) rfl (by simp[qq]) ?_
  have hK:=hK w33 (h33.sub (q5W hn22 hn14 hn6 hn4 hn1))
  have e:q0h bs=({},0,170):=by
   unfold q0h Ch.decode
   rw[ho]
   simp only
   rw[if_pos hc]
  rw[e]at hK
  exact hK
 rw[qg]
 refine⟨fun hb=>err (.inl (by simp at hb;omega)),fun hb=>?_⟩
 have hin:1<=o.1/\o.1<46:=by simpa using hb
 rw[if_pos hin]at hop
 subst hop
 refine⟨some (Addr.mk n4 0 none),h24.cell (k:=2) rfl,o.2.2,by rw[qa];exact h24.cell (k:=3) rfl,?_⟩
 cases hsh:o.2.2 with
 | true=>exact err (.inr hsh)
 | false=>
  rw[q1F]
  simp only[qb]
  have hat:o.2.1<=bs.length:=by rw[<-ho];exact q4o (Nat.zero_le _)
  refine qFT hB hg ht hn22 hn14 hn6 hn4 hn1 (Zz _).1 hzl hat h24 fun w' h'=>?_
  have hK:=hK w' h'
  unfold q0h Ch.decode at hK
  rw[ho]at hK
  simp only at hK
  rw[if_neg (by rw[hsh];simp;exact hin)]at hK
  split at hK
  ·rename_i x n hx
   split at hx
   ·cases hx
   ·rename_i hno
    simp only[Option.some.injEq,Prod.mk.injEq]at hx
    obtain⟨rfl,rfl⟩:=hx
    rw[if_neg hno,if_neg hno,if_neg hno]
    exact hK
  ·rename_i hx
   split at hx
   ·rename_i hyes
    rw[if_pos hyes,if_pos hyes,if_pos hyes]
    exact hK
   ·cases hx
end Go.Fx.Tryz
namespace Go.Fx.Tryz
open Go Go.Fx Go.Fx.Ch
open Go.Proofs
set_option linter.all false
set_option maxRecDepth 20000
variable {w0 w:World} {H:qE} {K:KT} {ov:Value} {bs:List Int}
theorem qAY(h:St w0 w H){x:HI}(hK:∀ w',St w0 w' H->K (.bool (Yr x)) w'):q9 P 139 [.agg (qq x).toArray] w K:=by
 refine qBx _ _ _ ?_
 rw[qBZ]
 refine h.newC fun n1 w2 hn1 h2=>⟨x.op,h2.cell (k:=0) rfl,?_⟩
 have hK:=hK w2 (h2.tail hn1)
 unfold Yr at hK
 cases h40:(x.op==40)<;>rw[h40]at hK<;>simp only[qe,qb,qhi]
 ·exact⟨x.op,h2.cell (k:=0) rfl,hK⟩
 ·exact hK
theorem qmY{a:Addr}{n c k:Nat}(hk:k<n)(hc:n<=c)(wq:World):(Instr.sliceAt 38 (Value.slice (some a) n c) (some (Value.int .i64 (k:Int))) none none).run P wq=.ok (.slice (some (a.add k)) (n-k) (c-k)) wq:=by
 rw[run_sliceAt_slice _ 38 _ _ _ _ kr,run_slice_l _ 38 (some a) n c kr .i64 (k:Int) om om]
 have:(sizeOf (P.elem 38)).run P wq=.ok 1 wq:=kr
 rw[this]
 have hne:¬ c=k:=by omega
 simp[Result.andThen,sliced,hne]
theorem yl.drop{a:Addr}{c k:Nat}(hB:yl w0 H (.slice (some a) bs.length c) bs)(hk:k<bs.length):yl w0 H (.slice (some (a.add k)) (bs.length-k) (c-k)) (bs.drop k):=by
 refine⟨fun w' h'=>?_,fun b hb=>hB.byte b (List.mem_of_mem_drop hb),by rw[List.length_drop];have:=hB.len;omega,fun a' n' c' he=>?_⟩
 ·have hr:=hB.row w' h'
  rcases hr.2 with⟨h1,_⟩ | ⟨ad,cp,h1,h2⟩
  ·cases h1
  ·injection h1 with h1 h3 h4
   injection h1 with h1
   subst h1
   refine⟨by simp,.inr ⟨_,_,by rw[List.length_drop],fun i hi=>?_⟩⟩
   have hi:i<bs.length-k:=by simpa using hi
   rw[jk,h2 _ om,List.map_drop,List.getElem?_drop]
 ·injection he with _ h3 h4
  have:=hB.cap _ _ _ rfl
  omega
def Pl(p:HI × Nat):List Value:=qq p.1++[J p.2]
theorem q7Q(p:HI × Nat):(Pl p).length=16:=rfl
theorem qCe(x:HI)(n:Int)(wq:World):(Instr.build 151 [(0,.agg (qq x).toArray),(1,J n)].toArray).run P wq=.ok (.agg (qq x++[J n]).toArray) wq:=kr
theorem vn.ldPart{size m:Nat}{n:Nat}{xs:List Value}{a:Addr}{c:Nat}(h:vn w size (.slice (some a) n c) n xs){i:Nat}(hi:i<n)(hm:m<=size){K:Array Value->Prop}(hK:K ((xs.drop (i*size)).take m).toArray):qU m (a.add (i*size)) w K:=by
 rcases h.2 with⟨h0,_⟩ | ⟨ad,cp,h1,h2⟩
 ·cases h0
 ·injection h1 with h1 _ _
  injection h1 with h1
  subst h1
  have hle:i*size+size<=n*size:=by rw[<-Nat.succ_mul];exact Nat.mul_le_mul_right _ hi
  refine⟨_,by simp[h.1];omega,fun j hj=>?_,hK⟩
  rw[jk,h2 _ om]
  simp[hj]
theorem qLL(out:List (HI × Nat)){i:Nat}(hi:i<out.length):(((out.map Pl).flatten.drop (i*16)).take 15)=qq out[i].1:=by
 have h:=v7 Pl 16 q7Q out hi
 have:(((out.map Pl).flatten.drop (i*16)).take 15)=(((out.map Pl).flatten.drop (i*16)).take 16).take 15:=by rw[List.take_take];rfl
 rw[this,h]
 rfl
theorem q9N{out:List (HI × Nat)}(h:0<out.length):zM out=Yr (out[out.length-1]'om).1:=by
 unfold zM
 rw[List.getLast?_eq_getElem?,List.getElem?_eq_getElem om]
theorem quO(p:HI × Nat):∀ v∈Pl p,v.oneCell'=true:=by simp[Pl,qq,Value.oneCell']
theorem qJr{gcs:List Value}{gt:TypeId}(h:St w0 w H)(hB:yl w0 H ov bs)(hg:(0,Cs gcs gt)∈H)(ht:Q7 gcs)
  (hF:∀ w' z,St w0 w' H->jm bs=none->K (.tuple [.slice none 0 0,J z,.bool false].toArray) w')
  (hK:∀ w' a c L out,jm bs=some out->out.length<=bs.length->St w0 w' (L++H)->qF w0 L->zx 16 151 (.slice a out.length c) out.length (out.map Pl).flatten L->K (.tuple [.slice a out.length c,J 0,.bool true].toArray) w'):q9 P 98 [ov] w K:=by
 obtain⟨sa,sc,rfl⟩:=(hB.row w h).form
 refine qGa _ _ _ _ _ ?_
 obtain⟨z,hz,hzl⟩:=qKB
 rw[qJl,qpq,qpS,qg]
 refine⟨fun hgt=>hF w 0 h (by unfold jm;rw[if_pos (by have:=of_decide_eq_true hgt;omega)]),fun hle=>?_⟩
 have hle:bs.length<=65536:=by have:=of_decide_eq_false hle;omega
 have hall:jm bs=QE bs (bs.length+1) 0 []:=by unfold jm;rw[if_neg om]
 rw[qpQ,qoP,qpk]
 refine⟨fun m e w'=>∃ (at_ f:Nat) (out:List (HI × Nat)) (oa:Option Addr) (oc:Nat) (L:qE),at_<=bs.length/\m=bs.length-at_/\bs.length-at_<f/\jm bs=QE bs f at_ out/\out.length<=at_/\
   e=qi.mk 69 [(0,.slice sa bs.length sc),(5,.slice oa out.length oc),(6,J at_),(2,.slice none 0 0),(3,J 0),(4,.bool false)] []/\St w0 w' (L++H)/\qF w0 L/\zx 16 151 (.slice oa out.length oc) out.length (out.map Pl).flatten L,
  ⟨bs.length,0,bs.length+1,[],none,0,[],by omega,rfl,by omega,hall,by simp,rfl,h,qF.nil w0,zx.nil 16 151⟩,?_⟩
 rintro m e w' ⟨at_,f,out,oa,oc,L,hat,rfl,hf,hal,hol,rfl,hs,hN,hS⟩
 show qmL ..
 rw[qf6,qg]
 obtain⟨f,rfl⟩:∃ g,f=g+1:=⟨f-1,by omega⟩
 have last:∀ {w2:World} {X:qE} {Q:KT},0<out.length->St w0 w2 X->(∀ x∈L,x∈X)->(∀ w3,St w0 w3 X->Q (.bool (zM out)) w3)->
   ∃ a,oa=some a/\qU 15 (a.add ((out.length-1)*16)) w2 (fun cs=>q9 P 139 [.agg cs] w2 Q):=by
  intro w2 X Q hpos h2 hX hQ
  have hrow:vn w2 16 (.slice oa out.length oc) out.length (out.map Pl).flatten:=hS.row fun u hu=>h2.has _ _ (hX u hu)
  obtain⟨a,c,hac,_⟩:=hrow.ldA (i:=out.length-1) om
  injection hac with hac _ _
  subst hac
  refine⟨a,rfl,vn.ldPart hrow (i:=out.length-1) om om ?_⟩
  rw[qLL out om]
  refine qAY h2 fun w3 h3=>?_
  rw[<-q9N hpos]
  exact hQ w3 h3
 refine⟨fun hlt=>?_,fun hge=>?_⟩
 ·have hlt:at_<bs.length:=by have:=of_decide_eq_true hlt;omega
  rw[qqt,hz]
  obtain⟨a0,rfl⟩:∃ a,sa=some a:=by
   rcases(hB.row w h).2 with⟨h0,h1⟩ | ⟨ad,cp,h1,_⟩
   ·omega
   ·injection h1 with h1 _ _;exact⟨ad,h1⟩
  have hcap:=hB.cap _ _ _ rfl
  refine⟨_,_,_,fun wq=>qmY hlt hcap wq,?_⟩
  have hBd:yl w0 (L++H) (.slice (some (a0.add at_)) (bs.length-at_) (sc-at_)) (bs.drop at_):=by
   have hb:=hB.drop hlt
   exact⟨fun w2 h2=>hb.row w2 (h2.sub hN),hb.byte,hb.len,hb.cap⟩
  refine qqi hs hBd (List.mem_append_right _ hg) ht fun w34 h34=>⟨_,_,_,rfl,h34.newC fun n38 w39 hn38 h39=>?_⟩
  refine h39.stA (k:=0) rfl rfl (by simp[hzl]) (by simpa using Zo _) fun w40 h40=>?_
  have h40:St w0 w40 ((n38,Cs (qX z 0 (qq (q0h (bs.drop at_)).1)) 119)::(L++H)):=h40
  rw[qI _ _ (by rw[hzl];rfl)]at h40
  have hdone:∀ {w2:World},St w0 w2 ((n38,Cs (qq (q0h (bs.drop at_)).1) 119)::(L++H))->St w0 w2 H:=fun h2=>(h2.tail hn38).sub hN
  cases hd:Ch.decode (bs.drop at_)with
  | none=>
   have he:q0h (bs.drop at_)=({},0,170):=by unfold q0h;rw[hd]
   rw[he]at h40 hdone ⊢
   simp only[show((170:Int) != 0)=true from rfl,qe]
   rw[Jn]
   simp only[qe]
   refine hF _ _ (hdone h40) ?_
   rw[hal]
   simp only[QE,if_pos hlt,hd]
  | some p=>
   obtain⟨x,n⟩:=p
   have he:q0h (bs.drop at_)=(x,(n:Int),0):=by unfold q0h;rw[hd]
   have hnl:=vg hd
   rw[List.length_drop]at hnl
   rw[he]at h40 hdone ⊢
   simp only[show((0:Int) != 0)=false from rfl,qb]
   have bad:zM out=true->∀ {w2:World} {Y:YT},St w0 w2 ((n38,Cs (qq x) 119)::(L++H))->Yx true (some a0) bs.length sc oa out.length oc at_ none 0 0 0 false n (Addr.mk n38 0 none) w2 K Y:=fun hl {w2 Y} h2=>by
    rw[Jn]
    simp only[qe]
    refine hF _ _ (hdone h2) ?_
    rw[hal]
    simp only[QE,if_pos hlt,hd,if_pos hl]
   have good:zM out=false->∀ {w2:World},St w0 w2 ((n38,Cs (qq x) 119)::(L++H))->Yx false (some a0) bs.length sc oa out.length oc at_ none 0 0 0 false n (Addr.mk n38 0 none) w2 K (fun e' w'=>∃ m,m<bs.length-at_/\∃ (at_ f:Nat) (out:List (HI × Nat)) (oa:Option Addr) (oc:Nat) (L:qE),at_<=bs.length/\m=bs.length-at_/\bs.length-at_<f/\jm bs=QE bs f at_ out/\out.length<=at_/\
     e'=qi.mk 69 [(0,.slice (some a0) bs.length sc),(5,.slice oa out.length oc),(6,J at_),(2,.slice none 0 0),(3,J 0),(4,.bool false)] []/\St w0 w' (L++H)/\qF w0 L/\zx 16 151 (.slice oa out.length oc) out.length (out.map Pl).flatten L):=fun hl {w2} h2=>by
    rw[Jn]
    simp only[qb]
    rw[qqx]
    refine h2.ldA (k:=0) (i:=0) rfl (by simp[qq]) ⟨_,qCe x _,⟨rfl,trivial⟩,h2.newC fun n63 w61 hn63 h61=>?_⟩
    have h61:St w0 w61 ((n63,Cs (Pl (x,at_)) 151)::(n38,Cs (qq x) 119)::(L++H)):=h61
    have h62:St w0 w61 ([(n63,Cs (Pl (x,at_)) 151)]++(L++H)):=(h61.perm (List.Perm.swap _ _ _)).tail hn38
    obtain⟨g,cap,w65,L',hr,hS',hs',hN'⟩:=St.append (P:=P) 147 147 151 Tryz.t151 (.agg (Pl ({},0)).toArray) 16 104 Tryz.underlying147 kr rfl rfl rfl rfl om h62 hS hN (j:=0) rfl (q7Q _) (quO _) (by simp[maxLen];omega) om
    refine⟨_,_,_,w65,hr,?_⟩
    have hs2:St w0 w65 (L'++H):=(hs':St w0 w65 ((n63,Cs (Pl (x,at_)) 151)::(L'++H))).tail hn63
    refine⟨bs.length-(at_+n),by omega,at_+n,f,out++[(x,at_)],some ⟨g,0,none⟩,cap,L',by omega,rfl,by omega,?_,by simp;omega,?_,hs2,hN',?_⟩
    ·rw[hal]
     simp only[QE,if_pos hlt,hd,hl,Bool.false_eq_true,if_false]
    ·rw[qc om om];simp
    ·simpa using hS'
   rw[qg]
   refine⟨fun hpos=>?_,fun hzero=>good ?_ h40⟩
   ·have hpos:0<out.length:=by have:=of_decide_eq_true hpos;omega
    obtain⟨a,rfl,hld⟩:=last (Q:=fun r68 w69=>∃ b70:Bool,r68=.bool b70/\Yx b70 (some a0) bs.length sc oa out.length oc at_ none 0 0 0 false n (Addr.mk n38 0 none) w69 K (fun e' w'=>∃ m,m<bs.length-at_/\∃ (at_ f:Nat) (out:List (HI × Nat)) (oa:Option Addr) (oc:Nat) (L:qE),at_<=bs.length/\m=bs.length-at_/\bs.length-at_<f/\jm bs=QE bs f at_ out/\out.length<=at_/\
     e'=qi.mk 69 [(0,.slice (some a0) bs.length sc),(5,.slice oa out.length oc),(6,J at_),(2,.slice none 0 0),(3,J 0),(4,.bool false)] []/\St w0 w' (L++H)/\qF w0 L/\zx 16 151 (.slice oa out.length oc) out.length (out.map Pl).flatten L)) hpos h40 (fun u hu=>.tail _ (List.mem_append_left _ hu)) (fun w69 h69=>⟨_,rfl,by
      cases hl:zM out with
      | true=>exact bad hl h69
      | false=>exact good hl h69⟩)
    rw[qc om om]
    refine⟨by omega,by omega,?_⟩
    rw[show Int.toNat ((out.length:Int)-1)=out.length-1 by omega]
    exact hld
   ·have:out=[]:=by
     have:=of_decide_eq_false hzero
     exact List.eq_nil_of_length_eq_zero om
    subst this;rfl
 ·have:at_=bs.length:=by have:=of_decide_eq_false hge;omega
  subst this
  rw[qpR,qg]
  have fail:zM out=false->∀ {w2:World},St w0 w2 (L++H)->VU true sa bs.length sc oa out.length oc w2 K:=fun hl {w2} h2=>by
   rw[q2g]
   simp only[qe]
   refine hF _ _ (h2.sub hN) ?_
   rw[hal]
   simp[QE,hl]
  refine⟨fun hz0=>fail ?_ hs,fun hpos=>?_⟩
  ·have:out=[]:=List.eq_nil_of_length_eq_zero (by simpa using hz0)
   subst this;rfl
  ·have hpos:0<out.length:=by have:¬ out.length=0:=by simpa using hpos
                              omega
   obtain⟨a,rfl,hld⟩:=last (Q:=fun r79 w80=>∃ b81:Bool,r79=.bool b81/\VU (!b81) sa bs.length sc oa out.length oc w80 K) hpos hs (fun u hu=>List.mem_append_left _ hu) (fun w80 h80=>⟨_,rfl,by
    cases hl:zM out with
    | false=>exact fail hl h80
    | true=>
     rw[Bool.not_true,q2g]
     simp only[qb]
     rw[qg0]
     exact hK w80 oa oc L out (by rw[hal];simp[QE,hl]) hol h80 hN hS⟩)
   rw[qc om om]
   refine⟨by omega,by omega,?_⟩
   rw[show Int.toNat ((out.length:Int)-1)=out.length-1 by omega]
   exact hld
end Go.Fx.Tryz
namespace Go.Fx.Ch
structure EX where
 at_:Int
 slot:Int
 to:Int
 jump:Int
 chain:Int
 deriving DecidableEq
def jz(n:Nat)(l:List (HI × Nat))(i:Nat):Int:=match l[i+1]? with
 | some q=>(q.2:Int)
 | none=>n
def vh(n:Nat)(l:List (HI × Nat))(i:Nat):Option EX:=match l[i]? with
 | none=>none
 | some p=>if(p.1.op != 39&&p.1.op != 40)=true then none else some ⟨p.2,jz n l i-4,p.1.i,p.1.k,p.1.chain⟩
def Jz(n:Nat)(l:List (HI × Nat)):List EX:=(List.range l.length).filterMap (vh n l)
def zg(bs:List Int):Option (List EX):=(jm bs).map (Jz bs.length)
theorem qon{bs:List Int}:∀ (f at_:Nat) (out l:List (HI × Nat)),QE bs f at_ out=some l->(∀ p∈out,p.2<=bs.length)->∀ p∈l,p.2<=bs.length
 | 0,_,_,_,h,_=>by cases h
 | f+1,at_,out,l,h,ho=>by
  unfold QE at h
  split at h
  ·rename_i hlt
   split at h
   ·cases h
   ·split at h
    ·cases h
    ·refine qon f _ _ l h fun p hp=>?_
     rcases List.mem_append.1 hp with hp | hp
     ·exact ho p hp
     ·rw[List.mem_singleton.1 hp];exact Nat.le_of_lt hlt
  ·split at h
   ·cases h;exact ho
   ·cases h
theorem qzw{bs:List Int}{l:List (HI × Nat)}(h:jm bs=some l):∀ p∈l,p.2<=bs.length:=by
 unfold jm at h
 split at h
 ·cases h
 ·exact qon _ _ _ l h (by simp)
theorem q2N{bs:List Int}{l:List (HI × Nat)}(h:jm bs=some l):bs.length<=65536:=by
 unfold jm at h
 split at h
 ·cases h
 ·omega
end Go.Fx.Ch
namespace Go.Fx.Ch
def le4(c:Int):List Int:=[c % 256,c / 256 % 256,c / 65536 % 256,c / 16777216 % 256]
def zK(bs:List Int)(slot:Nat)(c:Int):List Int:=bs.take slot++le4 c++bs.drop (slot+4)
end Go.Fx.Ch
namespace Go.Fx.Tryz
open Go Go.Fx Go.Fx.Ch
open Go.Proofs
set_option linter.all false
set_option maxRecDepth 20000
variable {w0 w:World} {H:qE} {K:KT} {ov:Value} {bs:List Int}
def Xc(e:EX):List Value:=[J e.at_,J e.slot,U e.to,J e.jump,U e.chain]
theorem qgs(e:EX):(Xc e).length=5:=rfl
theorem qLl(a s j:Int)(t c:Int)(wq:World):(Instr.build 62 [(0,J a),(1,J s),(2,U t),(3,J j),(4,U c)].toArray).run P wq=.ok (.agg #[J a,J s,U t,J j,U c]) wq:=kr
theorem qP0:∃ z:List Value,qx P 151=z.toArray/\z.length=16:=⟨Pl ({},0),by kernel_rfl,rfl⟩
theorem ZK(g:Nat->Option EX)(i:Nat):(List.range (i+1)).filterMap g=(List.range i).filterMap g++(match g i with
  | some e=>[e]
  | none=>[]):=by
 rw[List.range_succ,List.filterMap_append]
 congr 1
 cases h:g i<;>simp[h]
theorem q3z{gcs:List Value}{gt:TypeId}(h:St w0 w H)(hB:yl w0 H ov bs)(hg:(0,Cs gcs gt)∈H)(ht:Q7 gcs)
  (hF:∀ w',St w0 w' H->zg bs=none->K (.tuple [.slice none 0 0,J 170].toArray) w')
  (hK:∀ w' a c L l,zg bs=some l->l.length<=bs.length->St w0 w' (L++H)->qF w0 L->zx 5 62 (.slice a l.length c) l.length (l.map Xc).flatten L->K (.tuple [.slice a l.length c,J 0].toArray) w'):q9 P 54 [ov] w K:=by
 obtain⟨sa,sc,rfl⟩:=(hB.row w h).form
 refine qIy _ _ _ _ _ ?_
 obtain⟨z,hz,hzl⟩:=qP0
 rw[qGG]
 refine qJr h hB hg ht (fun w2 v h2 hn=>⟨_,_,_,_,_,rfl,?_⟩) fun w2 la lc L l hl hll h2 hN hS=>⟨_,_,_,_,_,rfl,?_⟩
 ·simp only[Bool.not_false,qe]
  exact hF w2 h2 (by unfold zg;rw[hn];rfl)
 simp only[Bool.not_true,qb]
 rw[qpV]
 have hex:zg bs=some (Jz bs.length l):=by unfold zg;rw[hl];rfl
 have hsm:=q2N hl
 have hat:=qzw hl
 refine⟨fun m e w'=>∃ (i:Nat) (out:List EX) (oa:Option Addr) (oc:Nat) (M:qE),i<=l.length/\m=l.length-i/\out=(List.range i).filterMap (vh bs.length l)/\out.length<=i/\
   e=qi.mk 68 [(2,.slice none 0 0),(3,J 0),(7,.slice oa out.length oc),(21,J i),(4,.slice la l.length lc),(0,.slice sa bs.length sc),(19,.slice la l.length lc),(20,J l.length)] []/\St w0 w' (M++(L++H))/\qF w0 M/\zx 5 62 (.slice oa out.length oc) out.length (out.map Xc).flatten M,
  ⟨l.length,0,[],none,0,[],by omega,rfl,rfl,by simp,rfl,h2,qF.nil w0,zx.nil 5 62⟩,?_⟩
 rintro m e w' ⟨i,out,oa,oc,M,hi,rfl,hout,hol,rfl,hs,hM,hMS⟩
 show qlN ..
 rw[qgm,qg]
 refine⟨fun hlt=>?_,fun hge=>?_⟩
 ·have hlt:i<l.length:=by have:=of_decide_eq_true hlt;omega
  rw[qqF,hz]
  have hrow:∀ {w3:World} {X:qE},St w0 w3 (X++(M++(L++H)))->vn w3 16 (.slice la l.length lc) l.length (l.map Pl).flatten:=fun h3=>hS.row fun u hu=>h3.has _ _ (List.mem_append_right _ (List.mem_append_right _ (List.mem_append_left _ hu)))
  obtain⟨ad,cp,hac,hld⟩:=(hrow (X:=[]) hs).ldA hlt
  injection hac with hac _ _
  subst hac
  refine⟨by omega,by omega,?_⟩
  rw[Int.toNat_natCast]
  refine hld _ ?_
  rw[v7 Pl 16 q7Q l hlt]
  refine hs.newC fun n28 w29 hn28 h29=>?_
  refine h29.stA (k:=0) rfl rfl (by simp[hzl]) (by simpa using quO _) fun w30 h30=>?_
  have h30:St w0 w30 ((n28,Cs (qX z 0 (Pl l[i])) 151)::(M++(L++H))):=h30
  rw[qI _ _ (by rw[hzl];rfl)]at h30
  have c:∀ j,w30.cell? (Addr.mk n28 j none)=(Pl l[i])[j]?:=fun j=>h30.cell (k:=0) rfl
  have hli:l[i]?=some l[i]:=List.getElem?_eq_getElem hlt
  have skip:(l[i].1.op != 39&&l[i].1.op != 40)=true->q1s true none 0 0 0 oa out.length oc (some ad) l.length lc sa bs.length sc (some ad) l.length lc l.length i (Addr.mk n28 0 none) i w30 K (fun e' w'=>∃ m,m<l.length-i/\∃ (i:Nat) (out:List EX) (oa:Option Addr) (oc:Nat) (M:qE),i<=l.length/\m=l.length-i/\out=(List.range i).filterMap (vh bs.length l)/\out.length<=i/\
   e'=qi.mk 68 [(2,.slice none 0 0),(3,J 0),(7,.slice oa out.length oc),(21,J i),(4,.slice (some ad) l.length lc),(0,.slice sa bs.length sc),(19,.slice (some ad) l.length lc),(20,J l.length)] []/\St w0 w' (M++(L++H))/\qF w0 M/\zx 5 62 (.slice oa out.length oc) out.length (out.map Xc).flatten M):=fun hsk=>by
   rw[q4a]
   simp only[qe]
   rw[q4I]
   refine⟨l.length-(i+1),by omega,i+1,out,oa,oc,M,by omega,rfl,?_,by omega,by rw[qc om om];rfl,h30.tail hn28,hM,hMS⟩
   rw[ZK,<-hout]
   have:vh bs.length l i=none:=by unfold vh;rw[hli];simp only[if_pos hsk]
   rw[this]
   simp
  have take:(l[i].1.op != 39&&l[i].1.op != 40)=false->q1s false none 0 0 0 oa out.length oc (some ad) l.length lc sa bs.length sc (some ad) l.length lc l.length i (Addr.mk n28 0 none) i w30 K (fun e' w'=>∃ m,m<l.length-i/\∃ (i:Nat) (out:List EX) (oa:Option Addr) (oc:Nat) (M:qE),i<=l.length/\m=l.length-i/\out=(List.range i).filterMap (vh bs.length l)/\out.length<=i/\
   e'=qi.mk 68 [(2,.slice none 0 0),(3,J 0),(7,.slice oa out.length oc),(21,J i),(4,.slice (some ad) l.length lc),(0,.slice sa bs.length sc),(19,.slice (some ad) l.length lc),(20,J l.length)] []/\St w0 w' (M++(L++H))/\qF w0 M/\zx 5 62 (.slice oa out.length oc) out.length (out.map Xc).flatten M):=fun htk=>by
   rw[q4a]
   simp only[qb]
   rw[qoT]
   have s6:∀ en:Nat,en<=bs.length->jz bs.length l i=(en:Int)->q6P none 0 0 0 (some ad) l.length lc sa bs.length sc (some ad) l.length lc l.length i (Addr.mk n28 0 none) en oa out.length oc w30 K (fun e' w'=>∃ m,m<l.length-i/\∃ (i:Nat) (out:List EX) (oa:Option Addr) (oc:Nat) (M:qE),i<=l.length/\m=l.length-i/\out=(List.range i).filterMap (vh bs.length l)/\out.length<=i/\
   e'=qi.mk 68 [(2,.slice none 0 0),(3,J 0),(7,.slice oa out.length oc),(21,J i),(4,.slice (some ad) l.length lc),(0,.slice sa bs.length sc),(19,.slice (some ad) l.length lc),(20,J l.length)] []/\St w0 w' (M++(L++H))/\qF w0 M/\zx 5 62 (.slice oa out.length oc) out.length (out.map Xc).flatten M):=fun en hen hee=>by
    rw[qrp]
    simp only[qa,Nat.zero_add]
    rw[qc om om]
    refine⟨_,c 15,_,c 9,_,c 8,_,c 10,_,qLl _ _ _ _ _,⟨rfl,trivial⟩,h30.newC fun n82 w80 hn82 h80=>?_⟩
    have h80:St w0 w80 ((n82,Cs (Xc ⟨l[i].2,(en:Int)-4,l[i].1.i,l[i].1.k,l[i].1.chain⟩) 62)::(n28,Cs (Pl l[i]) 151)::(M++(L++H))):=h80
    have h81:St w0 w80 ([(n82,Cs (Xc ⟨l[i].2,(en:Int)-4,l[i].1.i,l[i].1.k,l[i].1.chain⟩) 62)]++(M++(L++H))):=(h80.perm (List.Perm.swap _ _ _)).tail hn28
    obtain⟨g,cap,w84,M',hr,hS',hs',hN'⟩:=St.append (P:=P) 58 58 62 Tryz.t62 (.agg #[J 0,J 0,U 0,J 0,U 0]) 5 40 Tryz.underlying58 kr rfl rfl rfl rfl om h81 hMS hM (j:=0) rfl rfl (by simp[Xc,Value.oneCell']) (by simp[maxLen];omega) om
    refine⟨_,_,_,w84,hr,?_⟩
    have hs2:St w0 w84 (M'++(L++H)):=(hs':St w0 w84 ((n82,_)::(M'++(L++H)))).tail hn82
    rw[q4I]
    have hea:vh bs.length l i=some ⟨l[i].2,(en:Int)-4,l[i].1.i,l[i].1.k,l[i].1.chain⟩:=by
     unfold vh
     rw[hli]
     simp only[htk,Bool.false_eq_true,if_false]
     rw[hee]
    have hnew:(List.range (i+1)).filterMap (vh bs.length l)=out++[⟨l[i].2,(en:Int)-4,l[i].1.i,l[i].1.k,l[i].1.chain⟩]:=by rw[ZK,<-hout,hea]
    refine⟨l.length-(i+1),by omega,i+1,_,some ⟨g,0,none⟩,cap,M',by omega,rfl,hnew.symm,by simp;omega,?_,hs2,hN',?_⟩
    ·rw[qc om om];simp
    ·simpa using hS'
   rw[qc om om,qg]
   refine⟨fun hn=>?_,fun hn=>?_⟩
   ·have hn:i+1<l.length:=by have:=of_decide_eq_true hn;omega
    refine⟨by omega,by omega,l[i+1].2,?_,s6 _ (hat _ (List.getElem_mem hn)) (by unfold jz;rw[List.getElem?_eq_getElem hn])⟩
    rw[show Int.toNat ((i:Int)+1)=i+1 by omega,jk]
    rcases(hrow (X:=[(n28,Cs (Pl l[i]) 151)]) h30).2 with⟨h0,_⟩ | ⟨ad',cp',e1,e2⟩
    ·cases h0
    ·injection e1 with e1 _ _
     injection e1 with e1
     subst e1
     have hx:=e2 ((i+1)*16+15) om
     rw[hx]
     have hf:=v7 Pl 16 q7Q l hn
     have h15:=congrArg (·[15]?) hf
     simp only[List.getElem?_take,List.getElem?_drop]at h15
     rw[if_pos om]at h15
     rw[h15];rfl
   ·have hn:¬ i+1<l.length:=by have:=of_decide_eq_false hn;omega
    exact s6 _ (Nat.le_refl _) (by unfold jz;rw[List.getElem?_eq_none om])
  refine⟨l[i].1.op,c 0,?_⟩
  rw[qg]
  refine⟨fun h39=>⟨l[i].1.op,c 0,?_⟩,fun h39=>take (by rw[h39];rfl)⟩
  cases h40:(l[i].1.op != 40)with
  | true=>exact skip (by rw[h39,h40];rfl)
  | false=>exact take (by rw[h40];simp)
 ·have:i=l.length:=by have:=of_decide_eq_false hge;omega
  subst this
  rw[qqI]
  have h3:St w0 w' (M++H):=by
   have h4:St w0 w' (L++(M++H)):=hs.perm (qn fun c=>by simp only[List.map_append,List.map_cons,List.sum_append,List.sum_cons];omega)
   exact h4.sub hN
  exact hK w' oa oc M out (by rw[hex,hout];rfl) om h3 hM hMS
def q2o{α:Type}(p:α->Bool)(l:List α):Int:=match l.findIdx? p with
 | some i=>(i:Int)
 | none=>-1
theorem qac{α:Type}(p:α->Bool)(l:List α):decide (q2o p l>=0)=l.any p:=by
 unfold q2o
 cases h:l.findIdx? p with
 | none=>
  have h1:=List.findIdx?_eq_none_iff.1 h
  have h2:l.any p=false:=by
   rw[<-Bool.not_eq_true,List.any_eq_true]
   rintro⟨x,hx,hp⟩
   rw[h1 x hx]at hp;cases hp
  rw[h2];rfl
 | some i=>
  obtain⟨hi,hp,_⟩:=List.findIdx?_eq_some_iff_getElem.1 h
  have h2:l.any p=true:=List.any_eq_true.2 ⟨l[i],List.getElem_mem hi,hp⟩
  rw[h2]
  simp
def q9l(w0:World)(H:qE)(v:Value)(p:EX->Bool):Prop:=∀ (e:EX) (w':World) (Q:KT),St w0 w' H->(∀ w'',St w0 w'' H->Q (.bool (p e)) w'')->yO P v [.agg (Xc e).toArray] w' Q
theorem JV{l:List EX}{v:Value}{p:EX->Bool}(h:St w0 w H)(hrow:∀ w',St w0 w' H->vn w' 5 ov l.length (l.map Xc).flatten)(hl:l.length<1000000000)(hv:q9l w0 H v p)
  (hK:∀ w',St w0 w' H->K (J (q2o p l)) w'):q9 P 100 [ov,v] w K:=by
 obtain⟨a,c,rfl⟩:=(hrow w h).form
 refine qzM _ _ _ _ _ _ ?_
 rw[qBm]
 refine⟨fun m e w'=>∃ i:Nat,i<=l.length/\m=l.length-i/\St w0 w' H/\(∀ x∈l.take i,p x=false)/\e=qi.mk 19 [(8,J i),(0,.slice a l.length c),(1,v),(4,J 0),(7,J l.length)] [],⟨_,0,by omega,rfl,h,by simp,rfl⟩,?_⟩
 rintro m e w' ⟨i,hi,rfl,hs,hx,rfl⟩
 show q91 ..
 rw[q9Y,qg]
 refine⟨fun hlt=>?_,fun hge=>?_⟩
 ·have hlt:i<l.length:=by have:=of_decide_eq_true hlt;omega
  rw[qeo]
  obtain⟨ad,cp,hac,hld⟩:=(hrow w' hs).ldA hlt
  injection hac with hac _ _
  subst hac
  refine⟨by omega,by omega,?_⟩
  rw[Int.toNat_natCast]
  refine hld _ ?_
  rw[v7 Xc 5 qgs l hlt]
  refine hv _ _ _ hs fun w15 h15=>⟨_,rfl,?_⟩
  rw[qg]
  refine⟨fun hb=>?_,fun hb=>?_⟩
  ·have hf:l.findIdx? p=some i:=by
    refine List.findIdx?_eq_some_iff_getElem.2 ⟨hlt,hb,fun j hj=>?_⟩
    have:=hx (l[j]'om) (by rw[List.mem_take_iff_getElem];exact⟨j,by omega,rfl⟩)
    rw[this];simp
   have hK:=hK w15 h15
   unfold q2o at hK
   rw[hf]at hK
   exact hK
  ·rw[qh9]
   refine⟨l.length-(i+1),by omega,i+1,by omega,rfl,h15,?_,by rw[qc om om];rfl⟩
   intro x hx'
   rw[zC l hlt,List.mem_append]at hx'
   rcases hx' with h | h
   ·exact hx x h
   ·rw[List.mem_singleton.1 h];exact hb
 ·have:i=l.length:=by have:=of_decide_eq_false hge;omega
  subst this
  rw[List.take_length]at hx
  rw[qdm]
  have hf:l.findIdx? p=none:=List.findIdx?_eq_none_iff.2 hx
  have hK:=hK w' hs
  unfold q2o at hK
  rw[hf]at hK
  exact hK
theorem Ym{l:List EX}{v:Value}{p:EX->Bool}(h:St w0 w H)(hrow:∀ w',St w0 w' H->vn w' 5 ov l.length (l.map Xc).flatten)(hl:l.length<1000000000)(hv:q9l w0 H v p)
  (hK:∀ w',St w0 w' H->K (.bool (l.any p)) w'):q9 P 56 [ov,v] w K:=by
 obtain⟨a,c,rfl⟩:=(hrow w h).form
 refine qJb _ _ _ _ _ _ ?_
 rw[qFW]
 refine JV h hrow hl hv fun w' h'=>⟨_,rfl,?_⟩
 rw[qac]
 exact hK w' h'
theorem qIb:q9l w0 H (.func (.func 57) #[] #[]) (fun e=>e.chain != 0):=fun e w' Q h hQ=>by
 refine QG kr (qGQ _ _ _ ?_)
 rw[qIu]
 exact h.newC fun n1 w2 hn1 h2=>⟨e.chain,by rw[qa];exact h2.cell (k:=0) rfl,hQ _ (h2.tail hn1)⟩
theorem qzW{b:Nat}{slot:Int}{t:TypeId}(hb:(b,Cs [J slot] t)∈H):q9l w0 H (.func (.func 158) #[] #[.pointer (some (Addr.mk b 0 none))]) (fun e=>e.slot==slot):=fun e w' Q h hQ=>by
 refine QG kr (qCx _ _ _ _ ?_)
 rw[qAA]
 exact h.newC fun n1 w2 hn1 h2=>⟨e.slot,by rw[qa];exact h2.cell (k:=0) rfl,slot,qw (h2.has _ _ (.tail _ hb)),hQ _ (h2.tail hn1)⟩
theorem qAM{b:Nat}{slot:Int}{t:TypeId}(hb:(b,Cs [J slot] t)∈H):q9l w0 H (.func (.func 122) #[] #[.pointer (some (Addr.mk b 0 none))]) (fun e=>e.slot==slot):=fun e w' Q h hQ=>by
 refine QG kr (qBF _ _ _ _ ?_)
 rw[qAZ]
 exact h.newC fun n1 w2 hn1 h2=>⟨e.slot,by rw[qa];exact h2.cell (k:=0) rfl,slot,qw (h2.has _ _ (.tail _ hb)),hQ _ (h2.tail hn1)⟩
end Go.Fx.Tryz
namespace Go.Fx.Tryz
set_option maxRecDepth 100000
open Go Go.Fx Go.Proofs
def c82:=qm Tryz.f82
def qOr:=Tryz.f82.results.toList
abbrev qs9 K:=qr P qOr K
def f82 a b c w K:=CS P c82 none [] [] (qs9 K) (qz 26 [(VP a),(Value.agg b),(Value.int .u32 c)]) w
def qiJ a b w K:=SG c82 7 [] [] (qs9 K) 26 [(2,Value.int .u32 a),(0,VP b)] w
theorem qpW:qiJ a b w K=(qh b (fun h=>∃ c:Option Nat,w.cell? (h.add 6)=some (.map c)/\∃ d:Option Nat,(∀ wq,vB w wq->(Instr.lookup 107 (Value.map c) (Value.int .u32 a) false).run P wq=.ok (.map d) wq)/\∃ e:Int,(∀ wq,vB w wq->(Builtin.len_ #[124] 3 #[(Value.map d)]).run P wq=.ok (.int .i64 e) wq)/\qp (e==0) (qh b (fun i=>∃ f:Option Nat,w.cell? (i.add 6)=some (.map f)/\∃ g:World,(Builtin.delete_ #[107,24] 0 #[(Value.map f),(Value.int .u32 a)]).run P w=.ok (.tuple #[]) g/\K (Value.tuple #[]) g)) (K (Value.tuple #[]) w))):=kr
theorem qKj:f82 b d c w K=(qv d 142 w (fun h a=>qh b (fun i=>∃ e:Option Nat,a.drew.cell? (i.add 6)=some (.map e)/\∃ f:Option Nat,(∀ wq,vB a.drew wq->(Instr.lookup 107 (Value.map e) (Value.int .u32 c) false).run P wq=.ok (.map f) wq)/\qU 2 (Addr.mk h 0 none) a.drew (fun j=>∃ g:World,(Builtin.delete_ #[124,142] 0 #[(Value.map f),(Value.agg j)]).run P a.drew=.ok (.tuple #[]) g/\qiJ c b g K)))):=kr
theorem qHD a b c w K(h:f82 a b c w K):q9 P 82 [(Value.pointer a),(Value.agg b),(Value.int .u32 c)] w K:=qA c82 Tryz.func82 h
def qLZ:=qm Tryz.f102
def qKO:=Tryz.f102.results.toList
abbrev qEo K:=qr P qKO K
def f102 a b w K:=CS P qLZ none [4] [4] (qEo K) (qz 19 [(VP a),(Value.int .u32 b)]) w
theorem qzX:f102 a b w K=(qh a (fun k=>∃ c:Option Nat,w.cell? (k.add 3)=some (.map c)/\∃ d:Array Value,(∀ wq,vB w wq->(Instr.lookup 105 (Value.map c) (Value.int .u32 b) false).run P wq=.ok (.agg d) wq)/\∃ (e:OA) (f g:Nat),d[2]?=some (.slice e f g)/\q9 P 54 [(Value.slice e f g)] w (fun l m=>∃ (h:OA) (i j:Nat),∃ n:Int,l=(.tuple #[(Value.slice h i j),(Value.int .i64 n)])/\K (Value.slice h i j) m))):=kr
theorem qEO a b w K(h:f102 a b w K):q9 P 102 [(Value.pointer a),(Value.int .u32 b)] w K:=qA qLZ Tryz.func102 h
def yB:=qm Tryz.f103
def q4i:=Tryz.f103.results.toList
abbrev Z8 K:=qr P q4i K
def f103 a b w K:=CS P yB none [] [] (Z8 K) (qz 105 [(VP a),(Value.int .u32 b)]) w
def ql1 a b w K:=SC yB 1 [] [] (Z8 K) 105 [(0,VP a),(1,Value.int .u32 b)] w
abbrev qEp K:=kq yB 1 [] [] (Z8 K)
def qoi a b c d w K:=SC yB 3 [] [] (Z8 K) 105 [(3,VQ a),(2,VQ b),(0,VP c),(1,Value.int .u32 d)] w
abbrev jb(K:KT):Exit->YT:=qt1 (Z8 K)
abbrev qA0 K:=kq yB 6 [] [] (jb K)
def qjc a b c d e w K:=SC yB 13 [] [] (jb K) 105 [(4,VQ a),(3,VQ b),(2,VQ c),(0,VP d),(1,Value.int .u32 e)] w
abbrev qAI K:=kq yB 13 [] [] (jb K)
def qkC a b c d e w K:=SC yB 27 [] [] (jb K) 105 [(4,VQ a),(3,VQ b),(2,VQ c),(0,VP d),(1,Value.int .u32 e)] w
abbrev qDn K:=kq yB 27 [] [] (jb K)
def qne a b c d w K:=SG yB 55 [] [] (jb K) 105 [(18,a),(4,VQ b),(2,VQ c),(3,VQ d)] w
abbrev VV K:=qo 0 (jb K)
def qbL(a b c:Addr)(l:Nat)(R:LoopState->Option Code->Loop)(post:Option Code->World->Prop)(args:List Value)(W:World):Prop:=args.length=1/\CS P (cA yB 220) (some l) [4,5,2,3] [] (jw P (cA yB 221) l R post) { zl (qi.mk 105 [(4,(VP (some a))),(2,(VP (some b))),(3,(VP (some c)))] []) [19] args with d:=[] } W
abbrev quY(l:Nat)(R:LoopState->Option Code->Loop)(post:Option Code->World->Prop):Exit->YT:=jw P (cA yB 221) l R post
def q88(a b c:Addr)(d:Int)(w:World)(l:Nat)(R:LoopState->Option Code->Loop)(post:Option Code->World->Prop):Prop:=CS P (cA yB 220) (some l) [4,5,2,3] [] (quY l R post) (qi.mk 105 [(19,(VI d)),(4,(VP (some a))),(2,(VP (some b))),(3,(VP (some c)))] []) w
def qnB a b c d w l R post:=Ys P (cA yB 221) (some l) [] [] (q1k l R post) (qi.mk 105 [(4,(VP (some a))),(5,(VI b)),(2,(VP (some c))),(3,(VP (some d)))] []) w
abbrev ZV l R post:=qo 1 (q1k l R post)
abbrev qnu l R post:=Jq P (cA yB 884) (cA yB 885) (some l) [] [] (ZV l R post)
abbrev q7y l R post:=qo 2 (qnu l R post)
abbrev qEw l R post:=Jq P (cA yB 3536) (cA yB 3537) (some l) [4,5,2] [4,5,2] (q7y l R post)
def q5y a b c w l R post:=Ys P (cA yB 14149) (some l) [4,5,2] [4,5,2] (q7y l R post) (qi.mk 105 [(4,(VP (some a))),(5,(VI b)),(2,(VP (some c)))] []) w
theorem q2l:q5y a c d w l R post=(w.heap[l]?=some (.loop (R .busy none))/\post none (w.putObj l (.loop (R .ready none)))):=Eq.trans SGe kr
def qmz a b c w l R post:=Ys P (cA yB 885) (some l) [] [] (ZV l R post) (qi.mk 105 [(4,(VP (some a))),(5,(VI b)),(2,(VP (some c)))] []) w
abbrev qta l R post:=Jq P (cA yB 1770) (cA yB 1771) (some l) [] [] (ZV l R post)
abbrev q9f l R post:=Jq P (cA yB 3542) (cA yB 3543) (some l) [] [] (ZV l R post)
def qos a b c d f w l R post:=Ys P (cA yB 7085) (some l) [4,5,2] [] (q9f l R post) (qi.mk 105 [(4,(VP (some a))),(5,(VI b)),(2,(VP (some c))),(6,(VI d)),(7,(VI f))] []) w
abbrev qwp l R post:=Jq P (cA yB 14170) (cA yB 14171) (some l) [4,5,2] [] (q9f l R post)
def qaK a b c w l R post:=Ys P (cA yB 3543) (some l) [] [] (ZV l R post) (qi.mk 105 [(4,(VP (some a))),(5,(VI b)),(2,(VP (some c)))] []) w
theorem qbl:qaK d a c w l R post=(∃ f:Option Addr,w.drew.cell? c=some (.pointer f)/\qh f (fun r=>∃ (g:OA) (h s:Nat),w.drew.cell? (r.add 5)=some (.slice g h s)/\∃ e:Int,w.drew.cell? d=some (.int .i64 e)/\∃ i:Option Addr,w.drew.cell? c=some (.pointer i)/\qh i (fun t=>∃ (j:OA) (k u:Nat),w.drew.cell? (t.add 5)=some (.slice j k u)/\∃ m:Option Addr,w.drew.cell? c=some (.pointer m)/\qh m (fun v=>∃ (n:OA) (o x:Nat),w.drew.cell? (v.add 5)=some (.slice n o x)/\qh n (fun y=>0<=a/\a<(o:Nat)/\∃ p:Int,w.drew.cell? (y.add (Int.toNat a*1))=some (.int .u32 p)/\qh g (fun z=>0<=e/\e<(h:Nat)/\zW (z.add (Int.toNat e*1)) (Value.int .u32 p) w.drew (fun a0=>qh j (fun b0=>0<=a/\a<(k:Nat)/\zW (b0.add (Int.toNat a*1)) (Value.int .u32 0) a0 (fun c0=>zW d (Value.int .i64 a) c0 (fun q=>q.heap[l]?=some (.loop (R .busy none))/\post none (q.putObj l (.loop (R .ready none))))))))))))):=Eq.trans SGe kr
theorem qgr:qos c d e f g w l R post=(qp (decide (g<f)) (w.heap[l]?=some (.loop (R .busy none))/\post none (w.putObj l (.loop (R .ready none)))) (qaK c d e w l R post)):=Eq.trans SGe (Eq.trans (qZ [84,4,5,2] (qwp l R post) kr) kr)
theorem qd3:qmz e d c w l R post=(∃ i:Int,w.drew.cell? e=some (.int .i64 i)/\∃ j:Option Addr,w.drew.cell? c=some (.pointer j)/\qh j (fun y=>∃ k:Int,w.drew.cell? (y.add 2)=some (.int .i64 k)/\∃ m:Option Addr,w.drew.drew.cell? c=some (.pointer m)/\∃ n:Option Addr,w.drew.drew.cell? c=some (.pointer n)/\qh n (fun z=>∃ o:Option Nat,w.drew.drew.cell? (z.add 3)=some (.map o)/\∃ p:Option Addr,w.drew.drew.cell? c=some (.pointer p)/\qh p (fun a0=>∃ (q:OA) (r b0:Nat),w.drew.drew.cell? (a0.add 5)=some (.slice q r b0)/\qh q (fun c0=>0<=d/\d<(r:Nat)/\∃ s:Int,w.drew.drew.cell? (c0.add (Int.toNat d*1))=some (.int .u32 s)/\∃ t:Array Value,(∀ wq,vB w.drew.drew wq->(Instr.lookup 105 (Value.map o) (Value.int .u32 s) false).run P wq=.ok (.agg t) wq)/\∃ u:Int,t[0]?=some (.int .u32 u)/\∃ f:Option Addr,w.drew.drew.cell? c=some (.pointer f)/\qh f (fun v=>∃ g:Int,w.drew.drew.cell? (v.add 2)=some (.int .i64 g)/\q9 P 111 [(Value.pointer m),(Value.int .u32 u)] w.drew.drew (fun d0 h=>∃ x:Int,d0=(.int .i64 x)/\h.cell? (v.add 2)=some (.int .i64 g)/\h.cell? c=some (.pointer f)/\qos e d c (IntKind.wrap .i64 ((BitVec.ofInt (IntKind.bits .i64) (IntKind.wrap .i64 (d-i)) &&& BitVec.ofInt (IntKind.bits .i64) (IntKind.wrap .i64 (k-1))).toNat:Int)) (IntKind.wrap .i64 ((BitVec.ofInt (IntKind.bits .i64) (IntKind.wrap .i64 (d-x)) &&& BitVec.ofInt (IntKind.bits .i64) (IntKind.wrap .i64 (g-1))).toNat:Int)) h l R post))))))):=Eq.trans SGe (Eq.trans (qZ [4,5,2,6] (qta l R post) kr) kr)
theorem qgY:qnB e c d f w l R post=(∃ k:Int,w.cell? e=some (.int .i64 k)/\qp (decide (k<0)) (∃ m:Option Addr,w.drew.cell? d=some (.pointer m)/\qh m (fun y=>∃ (n:OA) (o z:Nat),w.drew.cell? (y.add 5)=some (.slice n o z)/\qh n (fun a0=>0<=c/\c<(o:Nat)/\∃ p:Int,w.drew.cell? (a0.add (Int.toNat c*1))=some (.int .u32 p)/\∃ q:Int,w.drew.cell? f=some (.int .u32 q)/\qp (p==q) (∃ g:Option Addr,w.drew.drew.cell? d=some (.pointer g)/\qh g (fun r=>∃ (h:OA) (i s:Nat),w.drew.drew.cell? (r.add 5)=some (.slice h i s)/\zW e (Value.int .i64 c) w.drew.drew (fun j=>j.cell? (r.add 5)=some (.slice h i s)/\j.cell? d=some (.pointer g)/\qh h (fun b0=>0<=c/\c<(i:Nat)/\zW (b0.add (Int.toNat c*1)) (Value.int .u32 0) j (fun c0=>q5y e c d c0 l R post))))) (q5y e c d w.drew l R post)))) (∃ t:Option Addr,w.cell? d=some (.pointer t)/\qh t (fun d0=>∃ (u:OA) (v e0:Nat),w.cell? (d0.add 5)=some (.slice u v e0)/\qh u (fun f0=>0<=c/\c<(v:Nat)/\∃ x:Int,w.cell? (f0.add (Int.toNat c*1))=some (.int .u32 x)/\qp (x==0) (w.heap[l]?=some (.loop (R .busy none))/\post (some (.exit 0)) (w.putObj l (.loop (R .done (some (.exit 0)))))) (qmz e c d w l R post))))):=Eq.trans SGe (Eq.trans (Zc 1 [] (ZV l R post) kr) (Eq.trans (qZ [4,5,2] (qnu l R post) kr) (Eq.trans (Zc 2 [4,5,2] (q7y l R post) kr) (Eq.trans (qZ [20,4,5,2,3] (qEw l R post) kr) kr))))
theorem q9O:q88 a b c d w l R post=(w.heap[l]?=some (.loop (R .ready none))/\qnB a d b c (w.putObj l (.loop (R .busy none))) l R post):=kr
theorem q9w:qbL b c d l R post [(Value.int .i64 a)] w=([(Value.int .i64 a)].length=1/\q88 b c d a w l R post):=kr
def q8L(a b c:Addr)(d:List Deferred)(w:World)(K:KT):Prop:=(VV K) .normal (qi.mk 105 [(4,(VP (some a))),(2,(VP (some b))),(3,(VP (some c)))] d) w
theorem qb2:q8L a b c d w K=(zr P q4i (qi.mk 105 [(4,(Value.pointer (some a))),(2,(Value.pointer (some b))),(3,(Value.pointer (some c)))] d) K d w):=kr
theorem qgS:qne e a c d w K=(Q6 P (VV K) (qi.mk 105 [(4,(Value.pointer (some a))),(2,(Value.pointer (some c))),(3,(Value.pointer (some d)))] []) w e (qbL a c d)):=qB (Q8 0 [] (VV K) kr)
theorem qew:qkC e d c f g w K=(∃ h:Option Addr,w.drew.cell? c=some (.pointer h)/\∃ i:Option Addr,w.drew.cell? c=some (.pointer i)/\∃ j:Option Addr,w.drew.cell? c=some (.pointer j)/\qh j (fun r=>∃ k:Option Nat,w.drew.cell? (r.add 3)=some (.map k)/\∃ l:Int,w.drew.cell? d=some (.int .u32 l)/\∃ m:Array Value,(∀ wq,vB w.drew wq->(Instr.lookup 105 (Value.map k) (Value.int .u32 l) false).run P wq=.ok (.agg m) wq)/\∃ n:Int,m[0]?=some (.int .u32 n)/\q9 P 111 [(Value.pointer i),(Value.int .u32 n)] w.drew (fun s o=>∃ p:Int,s=(.int .i64 p)/\o.cell? c=some (.pointer h)/\q9 P 110 [(Value.pointer h),(Value.int .i64 p)] o (fun t u=>∃ q:Value,t=q/\qne q e c d u K)))):=Eq.trans (b:=CS P (cA yB 27) none [] [] (jb K) (qi.mk 105 [(4,(VP (some e))),(3,(VP (some d))),(2,(VP (some c))),(0,(VP f)),(1,(Value.int .u32 g))] []) w) kr (Eq.trans (qZ [18,4,2,3] (qDn K) kr) kr)
theorem qhR:qjc c d e f g w K=(qkC c d e f g w K):=Eq.trans (b:=CS P (cA yB 13) none [] [] (jb K) (qi.mk 105 [(4,(VP (some c))),(3,(VP (some d))),(2,(VP (some e))),(0,(VP f)),(1,(Value.int .u32 g))] []) w) kr (Eq.trans (qZ [4,2,3] (qAI K) kr) kr)
theorem qdc:qoi c d e f w K=(qv (qx P 3) 3 w (fun g h=>zW (Addr.mk g 0 none) (Value.int .i64 (-1)) h (fun i=>qjc (Addr.mk g 0 none) c d e f i K))):=Eq.trans (b:=CS P (cA yB 3) none [] [] (Z8 K) (qi.mk 105 [(3,(VP (some c))),(2,(VP (some d))),(0,(VP e)),(1,(Value.int .u32 f))] []) w) kr (Eq.trans (b:=(CS P (cA yB 6) none [] [] (jb K) (qi.mk 105 [(3,(VP (some c))),(2,(VP (some d))),(0,(VP e)),(1,(Value.int .u32 f))] []) w)) (qqV (b:=(cA yB 6)) kr) (Eq.trans (qZ [4,2,3] (qA0 K) kr) kr))
theorem qfa:ql1 c d w K=(qv #[(Value.pointer c)] 28 w (fun e f=>qv #[(Value.int .u32 d)] 24 f (fun g h=>qoi (Addr.mk g 0 none) (Addr.mk e 0 none) c d h K))):=Eq.trans (b:=CS P (cA yB 1) none [] [] (Z8 K) (qi.mk 105 [(0,(VP c)),(1,(Value.int .u32 d))] []) w) kr (Eq.trans (qZ [2,3] (qEp K) kr) kr)
theorem qzy:f103 a b w K=(ql1 a b w K):=kr
theorem qE6 a b w K(h:f103 a b w K):q9 P 103 [(Value.pointer a),(Value.int .u32 b)] w K:=qA yB Tryz.func103 h
def q6w:=qm Tryz.f104
def qKV:=Tryz.f104.results.toList
abbrev q0T K:=qr P qKV K
def f104 a b c d w K:=CS P q6w none [4] [4] (q0T K) (qz 42 [(VS a b c),d]) w
def qmv a b c d f g h i w K:=SG q6w 15 [4] [4] (q0T K) 42 [(5,VI a),(0,VS b c d),(1,f),(4,VS g h i)] w
abbrev qDE K:=kq q6w 15 [4] [4] (q0T K)
abbrev qmx K:=qo 0 (qDE K)
def quN K Y1 e w:=zt (fun e w=>CS P (cA q6w 244) none [6,5,0,1,4] [4,5,0] (qu [6,5,0,1,4] Y1 (qmx K)) e w) e w
abbrev q2t K Y1:=qu [6,5,0,1,4] Y1 (qmx K)
def qbP a b c d f g h i j w K Y1:=SG q6w 244 [6,5,0,1,4] [4,5,0] (q2t K Y1) 42 [(6,VI a),(5,VI b),(0,VS c d f),(1,g),(4,VS h i j)] w
def qji a b c d f g h i j w K Y1:=SG q6w 489 [6,5,0,1,4] [4,5,0] (q2t K Y1) 42 [(0,VS a b c),(1,d),(4,VS f g h),(6,VI i),(5,VI j)] w
def q0S a b c d f g h i j w K Y1:=SG q6w 979 [6,5,0,1,4] [4,5,0] (q2t K Y1) 42 [(5,VI a),(0,VS b c d),(1,f),(4,VS g h i),(6,VI j)] w
theorem qgF:q0S a b c d e f g h i w K Y1=(Y1 (qi.mk 42 [(6,(Value.int .i64 (IntKind.wrap .i64 (i+1)))),(5,(Value.int .i64 a)),(0,(Value.slice b c d)),(1,e),(4,(Value.slice f g h))] []) w):=kr
theorem qf2:qji c d f e g h i a b w K Y1=(qh c (fun m=>0<=a/\a<(d:Nat)/\∃ j:Int,w.cell? (m.add (Int.toNat a*1))=some (.int .u32 j)/\yO P e [(Value.int .u32 j)] w (fun n k=>∃ l:Bool,n=(.bool l)/\qp (!l) (qh c (fun o=>0<=b/\b<(d:Nat)/\zW (o.add (Int.toNat b*1)) (Value.int .u32 j) k (fun p=>q0S (IntKind.wrap .i64 (b+1)) c d f e g h i a p K Y1))) (q0S b c d f e g h i a k K Y1)))):=kr
def qnk a b c d w K:=SG q6w 31 [4] [4] (q0T K) 42 [(5,VI a),(0,VS b c d)] w
theorem qf8:qnk a b c d w K=(∃ (e:OA) (f g:Nat),(∀ wq,(Instr.sliceAt 22 (Value.slice b c d) (some (.int .i64 a)) none none).run P wq=.ok (.slice e f g) wq)/\∃ h:World,(Builtin.clear_ #[22] 0 #[(Value.slice e f g)]).run P w=.ok (.tuple #[]) h/\∃ (i:OA) (j k:Nat),(∀ wq,(Instr.sliceAt 22 (Value.slice b c d) none (some (.int .i64 a)) none).run P wq=.ok (.slice i j k) wq)/\K (Value.slice i j k) h):=kr
theorem qcI:qbP b c d a e f g h i w K Y1=(qp (decide (b<((a:Nat):Int))) (qji d a e f g h i b c w K Y1) (qnk c d a e w K)):=kr
theorem qho:qmv a b c d e f g h w K=(qK (quN K) (qi.mk 42 [(6,(Value.int .i64 (IntKind.wrap .i64 (a+1)))),(5,(Value.int .i64 a)),(0,(Value.slice b c d)),(1,e),(4,(Value.slice f g h))] []) w):=kr
theorem qAC:f104 a b c d w K=(q9 P 141 [(Value.slice a b c),d] w (fun g f=>∃ e:Int,g=(.int .i64 e)/\qp (e==(-1)) (K (Value.slice a b c) f) (qmv e a b c d none 0 0 f K))):=kr
theorem qCg a b c d w K(h:f104 a b c d w K):q9 P 104 [(Value.slice a b c),d] w K:=qA q6w Tryz.func104 h
def qMD:=qm Tryz.f110
def qLw:=Tryz.f110.results.toList
abbrev qCN K:=qr P qLw K
def f110 a b w K:=CS P qMD none [4] [4] (qCN K) (qz 6 [(VP a),(VI b)]) w
theorem qFd:f110 a b w K=(qv #[(Value.pointer a)] 28 w (fun c d=>qv #[(Value.int .i64 b)] 3 d (fun e f=>K (Value.func (.func 153) #[] #[(Value.pointer (some (Addr.mk c 0 none))),(Value.pointer (some (Addr.mk e 0 none)))]) f))):=kr
theorem qDo a b w K(h:f110 a b w K):q9 P 110 [(Value.pointer a),(Value.int .i64 b)] w K:=qA qMD Tryz.func110 h
def qb9:=qm Tryz.f153
def qLg:=Tryz.f153.results.toList
abbrev qm6 K:=qr P qLg K
def f153 a b c w K:=CS P qb9 none [] [] (qm6 K) (qz 27 [a,(VP (some b)),(VP (some c))]) w
abbrev qky K:=qo 0 (qm6 K)
def qxS K Y0 e w:=zt (fun e w=>CS P (cA qb9 12) none [10,1,2,0,9] [] (qu [10,1,2,0,9] Y0 (qky K)) e w) e w
abbrev Vz K Y0:=qu [10,1,2,0,9] Y0 (qky K)
def q8Q a b c d f w K Y0:=SG qb9 12 [10,1,2,0,9] [] (Vz K Y0) 27 [(10,VI a),(1,VQ b),(2,VQ c),(0,d),(9,VI f)] w
def qn1 a b c d f w K Y0:=SG qb9 51 [10,1,2,0,9] [] (Vz K Y0) 27 [(1,VQ a),(2,VQ b),(0,c),(9,VI d),(10,VI f)] w
abbrev qEC K Y0:=kq qb9 51 [10,1,2,0,9] [] (Vz K Y0)
abbrev qC7 K Y0:=qo 1 (qEC K Y0)
def qmE a b c d f g w K Y0:=SG qb9 819 [1,2,0,9,10] [1,2,0,9,10] (qC7 K Y0) 27 [(25,VB a),(1,VQ b),(2,VQ c),(0,d),(9,VI f),(10,VI g)] w
def qnJ a b c d f w K Y0:=SG qb9 103 [10,1,2,0,9] [] (Vz K Y0) 27 [(1,VQ a),(2,VQ b),(0,c),(9,VI d),(10,VI f)] w
theorem qgp:qnJ a b c d e w K Y0=(Y0 (qi.mk 27 [(10,(Value.int .i64 (IntKind.wrap .i64 (e+1)))),(1,(Value.pointer (some a))),(2,(Value.pointer (some b))),(0,c),(9,(Value.int .i64 d))] []) w):=kr
theorem qdX:qmE a b c d e f w K Y0=(qp a (K (Value.tuple #[]) w) (qnJ b c d e f w K Y0)):=kr
theorem qfS:qn1 a b c e d w K Y0=(∃ f:Int,w.drew.cell? b=some (.int .i64 f)/\∃ g:Option Addr,w.drew.cell? a=some (.pointer g)/\qh g (fun j=>∃ h:Int,w.drew.cell? (j.add 2)=some (.int .i64 h)/\yO P c [(Value.int .i64 (IntKind.wrap .i64 ((BitVec.ofInt (IntKind.bits .i64) (IntKind.wrap .i64 (f+d)) &&& BitVec.ofInt (IntKind.bits .i64) (IntKind.wrap .i64 (h-1))).toNat:Int)))] w.drew (fun k l=>∃ i:Bool,k=(.bool i)/\qmE (!i) a b c e d l K Y0))):=kr
theorem qbS:q8Q a c d e b w K Y0=(qp (decide (a<b)) (qn1 c d e b a w K Y0) (K (Value.tuple #[]) w)):=kr
theorem qyG:f153 b a c w K=(∃ d:Option Addr,w.cell? a=some (.pointer d)/\qh d (fun f=>∃ e:Int,w.cell? (f.add 2)=some (.int .i64 e)/\qK (qxS K) (qi.mk 27 [(10,(Value.int .i64 0)),(1,(Value.pointer (some a))),(2,(Value.pointer (some c))),(0,b),(9,(Value.int .i64 e))] []) w)):=kr
theorem qDf a b c w K(h:f153 a b c w K):q9 P 153 [a,(Value.pointer (some b)),(Value.pointer (some c))] w K:=qA qb9 Tryz.func153 h
def qbe:=qm Tryz.f141
def qLX:=Tryz.f141.results.toList
abbrev q6m K:=qr P qLX K
def f141 a b c d w K:=CS P qbe none [4] [4] (q6m K) (qz 19 [(VS a b c),d]) w
abbrev qC8 K:=kq qbe 3 [4] [4] (q6m K)
abbrev ql8 K:=qo 0 (qC8 K)
def qsr K Y0 e w:=zt (fun e w=>CS P (cA qbe 52) none [8,0,1,4,7] [4] (qu [8,0,1,4,7] Y0 (ql8 K)) e w) e w
abbrev q1q K Y0:=qu [8,0,1,4,7] Y0 (ql8 K)
def qbU a b c d f g h w K Y0:=SG qbe 52 [8,0,1,4,7] [4] (q1q K Y0) 19 [(8,VI a),(0,VS b c d),(1,f),(4,VI g),(7,VI h)] w
def qjJ a b c d f g h w K Y0:=SG qbe 211 [8,0,1,4,7] [4] (q1q K Y0) 19 [(0,VS a b c),(1,d),(7,VI f),(8,VI g),(4,VI h)] w
def qn8 a b c d f g h w K Y0:=SG qbe 423 [8,0,1,4,7] [4] (q1q K Y0) 19 [(0,VS a b c),(1,d),(4,VI f),(7,VI g),(8,VI h)] w
theorem qh2:qn8 a b c d e f g w K Y0=(Y0 (qi.mk 19 [(8,(Value.int .i64 (IntKind.wrap .i64 (g+1)))),(0,(Value.slice a b c)),(1,d),(4,(Value.int .i64 e)),(7,(Value.int .i64 f))] []) w):=kr
theorem qiB:qjJ b c e d f a g w K Y0=(qh b (fun k=>0<=a/\a<(c:Nat)/\∃ h:Int,w.cell? (k.add (Int.toNat a*1))=some (.int .u32 h)/\yO P d [(Value.int .u32 h)] w (fun l i=>∃ j:Bool,l=(.bool j)/\qp j (K (Value.int .i64 a) i) (qn8 b c e d g f a i K Y0)))):=kr
def qjy w K:=SG qbe 7 [4] [4] (q6m K) 19 [] w
theorem qiM:qjy w K=(K (Value.int .i64 (-1)) w):=kr
theorem q9g:qbU a c d e f g b w K Y0=(qp (decide (a<b)) (qjJ c d e f b a g w K Y0) (qjy w K)):=kr
theorem qzk:f141 b a c d w K=(qK (qsr K) (qi.mk 19 [(8,(Value.int .i64 0)),(0,(Value.slice b a c)),(1,d),(4,(Value.int .i64 0)),(7,(Value.int .i64 ((a:Nat):Int)))] []) w):=kr
theorem qBH a b c d w K(h:f141 a b c d w K):q9 P 141 [(Value.slice a b c),d] w K:=qA qbe Tryz.func141 h
def qwU:=qm Tryz.f123
def qLr:=Tryz.f123.results.toList
abbrev q0F K:=qr P qLr K
def f123 a b c d e w K:=CS P qwU none [6,7] [6,7] (q0F K) (qz 32 [(VS a b c),(VI d),(Value.int .u32 e)]) w
def qkN a b c d f g h i w K:=SG qwU 15 [6,7] [6,7] (q0F K) 32 [(2,Value.int .u32 a),(4,VQ b),(0,VS c d f),(8,VS g h i)] w
def qkG a b c d f w K:=SG qwU 31 [6,7] [6,7] (q0F K) 32 [(2,Value.int .u32 a),(4,VQ b),(0,VS c d f)] w
def ql0 a b c w K:=SG qwU 127 [6,7] [6,7] (q0F K) 32 [(10,VS a b c)] w
theorem qem:ql0 a b c w K=(K (Value.tuple #[(Value.slice a b c),(Value.int .i64 0)]) w):=kr
theorem qdd:qkG f a g h i w K=(q9 P 109 [(Value.slice g h i)] w (fun s j=>∃ (b:OA) (c d:Nat),s=(.slice b c d)/\∃ e:Int,j.drew.cell? a=some (.int .i64 e)/\∃ (k:OA) (l m:Nat),(∀ wq,(Instr.sliceAt 38 (Value.slice b c d) (some (.int .i64 e)) none none).run P wq=.ok (.slice k l m) wq)/\q9 P 159 [(Value.slice none 0 0),(Value.int .u32 f)] j.drew (fun t n=>∃ (o:OA) (p q:Nat),t=(.slice o p q)/\n.cell? a=some (.int .i64 e)/\∃ u:Int,∃ r:World,(Builtin.copy_ #[38,38] 3 #[(Value.slice k l m),(Value.slice o p q)]).run P n=.ok (.int .i64 u) r/\ql0 b c d r K))):=kr
theorem qdS:qkN b a c d e f g h w K=(q9 P 56 [(Value.slice f g h),(Value.func (.func 158) #[] #[(Value.pointer (some a))])] w (fun k i=>∃ j:Bool,k=(.bool j)/\qp (!j) (K (Value.tuple #[(Value.slice none 0 0),(Value.int .i64 1)]) i) (qkG b a c d e i K))):=kr
theorem qDq:f123 a b c e f w K=(qv #[(Value.int .i64 e)] 3 w (fun k l=>q9 P 54 [(Value.slice a b c)] l (fun m g=>∃ (h:OA) (i j:Nat),∃ d:Int,m=(.tuple #[(Value.slice h i j),(Value.int .i64 d)])/\qp (d != 0) (K (Value.tuple #[(Value.slice none 0 0),(Value.int .i64 d)]) g) (qkN f (Addr.mk k 0 none) a b c h i j g K)))):=kr
theorem qAn a b c d e w K(h:f123 a b c d e w K):q9 P 123 [(Value.slice a b c),(Value.int .i64 d),(Value.int .u32 e)] w K:=qA qwU Tryz.func123 h
def qMw:=qm Tryz.f159
def qL9:=Tryz.f159.results.toList
abbrev qDg K:=qr P qL9 K
def f159 a b c d w K:=CS P qMw none [4] [4] (qDg K) (qz 19 [(VS a b c),(Value.int .u32 d)]) w
theorem qF0:f159 b c d a w K=(0<=(8:Int)/\0<=(16:Int)/\0<=(24:Int)/\qJ 1 [(Value.int .u8 (IntKind.wrap .u8 a)),(Value.int .u8 (IntKind.wrap .u8 (a.fdiv (2 ^ (min (Int.toNat 8) (IntKind.bits .u32)))))),(Value.int .u8 (IntKind.wrap .u8 (a.fdiv (2 ^ (min (Int.toNat 16) (IntKind.bits .u32)))))),(Value.int .u8 (IntKind.wrap .u8 (a.fdiv (2 ^ (min (Int.toNat 24) (IntKind.bits .u32))))))]/\qv (([(Value.int .u8 (IntKind.wrap .u8 a)),(Value.int .u8 (IntKind.wrap .u8 (a.fdiv (2 ^ (min (Int.toNat 8) (IntKind.bits .u32)))))),(Value.int .u8 (IntKind.wrap .u8 (a.fdiv (2 ^ (min (Int.toNat 16) (IntKind.bits .u32)))))),(Value.int .u8 (IntKind.wrap .u8 (a.fdiv (2 ^ (min (Int.toNat 24) (IntKind.bits .u32))))))].map fun(v:Value)=>v.cells.toList).flatten.toArray) 5 w (fun i j=>∃ (e:OA) (f g:Nat),∃ h:World,(Builtin.append_ #[38,38] 38 #[(Value.slice b c d),(Value.slice (some (Addr.mk i 0 none)) 4 4)]).run P j=.ok (.slice e f g) h/\K (Value.slice e f g) h)):=kr
theorem qCu a b c d w K(h:f159 a b c d w K):q9 P 159 [(Value.slice a b c),(Value.int .u32 d)] w K:=qA qMw Tryz.func159 h
end Go.Fx.Tryz
namespace Go.Fx.Tryz
open Go Go.Fx Go.Fx.Ch
open Go.Proofs
set_option linter.all false
set_option maxRecDepth 20000
variable {w0 w:World} {H:qE} {K:KT} {ov:Value} {bs:List Int}
theorem qP1(w:World):(Instr.buildSlice 38 0 ([]:List (Nat × Value)).toArray).run P w=.ok (.slice (some ⟨w.heap.size,0,none⟩) 0 0) (w.alloc (.cells #[] 5 (0,0))):=kr
theorem q89(l:List Int):∀ v∈l.map B,v.oneCell'=true:=by
 intro v hv
 obtain⟨x,_,rfl⟩:=List.mem_map.1 hv
 rfl
theorem q02(h:St w0 w H)(hB:yl w0 H ov bs)(hK:∀ w' ov' L,zx 1 5 ov' bs.length (bs.map B) L->qF w0 L->St w0 w' (L++H)->K ov' w'):q9 P 109 [ov] w K:=by
 obtain⟨sa,sc,rfl⟩:=(hB.row w h).form
 refine qBp _ _ _ _ _ ?_
 rw[qA7]
 cases sa with
 | none=>
  simp only[Option.isNone_none,qe]
  have h0:bs.length=0:=by
   rcases(hB.row w h).2 with⟨_,h0⟩ | ⟨ad,cp,h1,_⟩
   ·exact h0
   ·cases h1
  have hb:bs=[]:=List.eq_nil_of_length_eq_zero h0
  subst hb
  exact hK w _ [] (zx.nil 1 5) (qF.nil w0) h
 | some a=>
  simp only[Option.isNone_some,qb]
  rw[qhF]
  have h1:St w0 (w.alloc (.cells #[] 5 (0,0))) ([(w.heap.size,Cs [] 5)]++H):=h.alloc _
  have hS:zx 1 5 (.slice (some ⟨w.heap.size,0,none⟩) 0 0) 0 [] [(w.heap.size,Cs [] 5)]:=⟨rfl,.inr ⟨w.heap.size,0,[],rfl,rfl,Nat.le_refl _,Nat.zero_le _,rfl,rfl⟩⟩
  have hN:qF w0 [(w.heap.size,Cs [] 5)]:=fun x hx=>by rw[List.mem_singleton.1 hx];exact h.le
  have hlen:=hB.len
  have hr:=hB.row _ (h1.sub hN)
  obtain⟨v',w',L',hrun,hS',hs',hN'⟩:=St.appendS (P:=P) 38 38 5 Tryz.t5 (B 0) 1 1 Tryz.underlying38 kr rfl rfl rfl rfl om (A:=[]) (H:=H) h1 hS hN (ad:=a) (m:=bs.length) (c:=sc) (news:=bs.map B) (by simp) (fun j u hu=>by
   rcases hr.2 with⟨h0,_⟩ | ⟨ad,cp,e1,e2⟩
   ·cases h0
   ·injection e1 with e1 _ _
    injection e1 with e1
    subst e1
    have hj:j<bs.length:=by
     have:=(List.getElem?_eq_some_iff.1 hu).1
     simpa using this
    rw[e2 j om];exact hu) (q89 bs) (by simp[maxLen];omega) om
  obtain⟨va,vc,rfl⟩:=hS'.form
  refine⟨_,_,_,_,qP1 w,_,_,_,w',hrun,?_⟩
  refine hK w' _ L' ?_ hN' hs'
  simpa using hS'
theorem qp2(h:St w0 w H){c:Int}(h0:0<=c)(h1:c<4294967296)(hK:∀ w' ov' L,zx 1 5 ov' 4 ((le4 c).map B) L->qF w0 L->St w0 w' (L++H)->K ov' w'):q9 P 159 [.slice none 0 0,U c] w K:=by
 refine qCu _ _ _ _ _ _ ?_
 rw[qF0]
 refine⟨by omega,by omega,by omega,⟨rfl,rfl,rfl,rfl,trivial⟩,h.newC fun n5 w3 hn5 h3=>?_⟩
 have w8:∀ x:Int,IntKind.wrap .u8 x=x % 256:=fun x=>by simp[IntKind.wrap,IntKind.bits,IntKind.signed]
 have p8:(2:Int) ^ (min (Int.toNat 8) (IntKind.bits .u32))=256:=by decide
 have p16:(2:Int) ^ (min (Int.toNat 16) (IntKind.bits .u32))=65536:=by decide
 have p24:(2:Int) ^ (min (Int.toNat 24) (IntKind.bits .u32))=16777216:=by decide
 simp only[w8,p8,p16,p24,Int.fdiv_eq_ediv_of_nonneg c (show(0:Int)<=256 by decide),Int.fdiv_eq_ediv_of_nonneg c (show(0:Int)<=65536 by decide),Int.fdiv_eq_ediv_of_nonneg c (show(0:Int)<=16777216 by decide)]at h3
 have e:c / 16777216 % 256=c / 16777216 % 256:=rfl
 have h3:St w0 w3 ([(n5,Cs ((le4 c).map B) 5)]++([]++H)):=h3
 obtain⟨v',w',L',hrun,hS',hs',hN'⟩:=St.appendS (P:=P) 38 38 5 Tryz.t5 (B 0) 1 1 Tryz.underlying38 kr rfl rfl rfl rfl om (A:=[(n5,Cs ((le4 c).map B) 5)]) (H:=H) h3 (zx.nil 1 5) (qF.nil w0) (ad:=Addr.mk n5 0 none) (m:=4) (c:=4) (news:=(le4 c).map B) (by simp[le4]) (fun j u hu=>by
  rw[qa,Nat.zero_add,qw (h3.has n5 _ (.head _))];exact hu) (q89 _) (by simp[maxLen]) om
 obtain⟨va,vc,rfl⟩:=hS'.form
 refine⟨_,_,_,w',hrun,?_⟩
 exact hK w' _ L' (by simpa using hS') hN' ((hs':St w0 w' ((n5,_)::(L'++H))).tail hn5)
abbrev SP:=Int × Int
def QN(s:SP):List Value:=[U s.1,J s.2]
theorem q5Q(s:SP):(QN s).length=2:=rfl
structure jZ (w0:World) (H:qE) (ov:Value) (l:List SP):Prop where
 row:∀ w',St w0 w' H->vn w' 2 ov l.length (l.map QN).flatten
 len:l.length<1000000
def qjt(w0:World)(H:qE)(v:Value)(p:SP->Bool):Prop:=∀ (e:SP) (w':World) (Q:KT),St w0 w' H->(∀ w'',St w0 w'' H->Q (.bool (p e)) w'')->yO P v [.agg (QN e).toArray] w' Q
theorem q9x{l:List SP}{v:Value}{p:SP->Bool}(h:St w0 w H)(hS:jZ w0 H ov l)(hv:qjt w0 H v p)
  (hK:∀ w',St w0 w' H->K (J (q2o p l)) w'):q9 P 113 [ov,v] w K:=by
 obtain⟨a,c,rfl⟩:=(hS.row w h).form
 have hl:=hS.len
 refine qEM _ _ _ _ _ _ ?_
 rw[qzm]
 refine⟨fun m e w'=>∃ i:Nat,i<=l.length/\m=l.length-i/\St w0 w' H/\(∀ x∈l.take i,p x=false)/\e=qi.mk 19 [(8,J i),(0,.slice a l.length c),(1,v),(4,J 0),(7,J l.length)] [],⟨_,0,by omega,rfl,h,by simp,rfl⟩,?_⟩
 rintro m e w' ⟨i,hi,rfl,hs,hx,rfl⟩
 show qbB ..
 rw[qbu,qg]
 refine⟨fun hlt=>?_,fun hge=>?_⟩
 ·have hlt:i<l.length:=by have:=of_decide_eq_true hlt;omega
  rw[qg8]
  obtain⟨ad,cp,hac,hld⟩:=(hS.row w' hs).ldA hlt
  injection hac with hac _ _
  subst hac
  refine⟨by omega,by omega,?_⟩
  rw[Int.toNat_natCast]
  refine hld _ ?_
  rw[v7 QN 2 q5Q l hlt]
  refine hv _ _ _ hs fun w15 h15=>⟨_,rfl,?_⟩
  rw[qg]
  refine⟨fun hb=>?_,fun hb=>?_⟩
  ·have hf:l.findIdx? p=some i:=by
    refine List.findIdx?_eq_some_iff_getElem.2 ⟨hlt,hb,fun j hj=>?_⟩
    have:=hx (l[j]'om) (by rw[List.mem_take_iff_getElem];exact⟨j,by omega,rfl⟩)
    rw[this];simp
   have hK:=hK w15 h15
   unfold q2o at hK
   rw[hf]at hK
   exact hK
  ·rw[qih]
   refine⟨l.length-(i+1),by omega,i+1,by omega,rfl,h15,?_,by rw[qc om om];rfl⟩
   intro x hx'
   rw[zC l hlt,List.mem_append]at hx'
   rcases hx' with h | h
   ·exact hx x h
   ·rw[List.mem_singleton.1 h];exact hb
 ·have:i=l.length:=by have:=of_decide_eq_false hge;omega
  subst this
  rw[List.take_length]at hx
  rw[qfT]
  have hf:l.findIdx? p=none:=List.findIdx?_eq_none_iff.2 hx
  have hK:=hK w' hs
  unfold q2o at hK
  rw[hf]at hK
  exact hK
theorem Yj{l:List SP}{v:Value}{p:SP->Bool}(h:St w0 w H)(hS:jZ w0 H ov l)(hv:qjt w0 H v p)(hK:∀ w',St w0 w' H->K (.bool (l.any p)) w'):q9 P 65 [ov,v] w K:=by
 obtain⟨a,c,rfl⟩:=(hS.row w h).form
 refine qJf _ _ _ _ _ _ ?_
 rw[qGE]
 refine q9x h hS hv fun w' h'=>⟨_,rfl,?_⟩
 rw[qac]
 exact hK w' h'
def qJQ(s:SP):Bool:=decide (s.2<1)||decide (s.2 > 65536)
def y6(l:List SP):Bool:=decide (l.length<=100)&&!l.any qJQ
theorem qHx:qjt w0 H (.func (.func 99) #[] #[]) qJQ:=fun e w' Q h hQ=>by
 refine QG kr (qGn _ _ _ ?_)
 rw[qHg]
 refine h.newC fun n1 w2 hn1 h2=>⟨e.2,by rw[qa];exact h2.cell (k:=0) rfl,?_⟩
 have hQ:=hQ _ (h2.tail hn1)
 unfold qJQ at hQ
 cases hb:decide (e.2<1)<;>rw[hb]at hQ<;>simp only[qe,qb,qrb]
 ·exact⟨e.2,by rw[qa];exact h2.cell (k:=0) rfl,hQ⟩
 ·exact hQ
theorem qbv{l:List SP}(h:St w0 w H)(hS:jZ w0 H ov l)(hK:∀ w',St w0 w' H->K (.bool (y6 l)) w'):q9 P 55 [ov] w K:=by
 obtain⟨a,c,rfl⟩:=(hS.row w h).form
 refine qHl _ _ _ _ _ ?_
 rw[qK5,qg]
 refine⟨fun hb=>?_,fun hb=>?_⟩
 ·have hb:l.length<=100:=by have:=of_decide_eq_true hb;omega
  refine Yj h hS qHx fun w' h'=>⟨_,rfl,?_⟩
  rw[q4S]
  have hK:=hK w' h'
  unfold y6 at hK
  rw[show decide (l.length<=100)=true by simpa using hb]at hK
  exact hK
 ·have hb:¬ l.length<=100:=by have:=of_decide_eq_false hb;omega
  rw[q4S]
  have hK:=hK w h
  unfold y6 at hK
  rw[show decide (l.length<=100)=false by simpa using hb]at hK
  exact hK
def vK(e:EX):Bool:=e.jump==1||e.jump==2
theorem qiz(h:St w0 w H){e:EX}(hK:∀ w',St w0 w' H->K (.bool (vK e)) w'):q9 P 79 [.agg (Xc e).toArray] w K:=by
 refine qIL _ _ _ ?_
 rw[qJa]
 refine h.newC fun n1 w2 hn1 h2=>⟨e.jump,by rw[qa];exact h2.cell (k:=0) rfl,?_⟩
 have hK:=hK _ (h2.tail hn1)
 unfold vK at hK
 cases hb:(e.jump==1)<;>rw[hb]at hK<;>simp only[qe,qb,qr4]
 ·exact⟨e.jump,by rw[qa];exact h2.cell (k:=0) rfl,hK⟩
 ·exact hK
def q3f(a b:SP):Bool:=!(decide (a.2<1))&&!(decide (b.2<1))&&(decide ((b.1-a.1) % 4294967296<a.2)||decide ((a.1-b.1) % 4294967296<b.2))
theorem qxG(h:St w0 w H){a b:SP}(hK:∀ w',St w0 w' H->K (.bool (q3f a b)) w'):q9 P 67 [.agg (QN a).toArray,.agg (QN b).toArray] w K:=by
 refine qIg _ _ _ _ ?_
 rw[qJo]
 refine h.newC fun n2 w3 hn2 h3=>h3.newC fun n4 w5 hn4 h5=>?_
 have h5:St w0 w5 ((n4,Cs (QN b) 36)::(n2,Cs (QN a) 36)::H):=h5
 have hK:=hK w5 ((h5.tail hn4).tail hn2)
 have a0:w5.cell? (Addr.mk n2 0 none)=some (U a.1):=h5.cell (k:=1) rfl
 have a1:w5.cell? (Addr.mk n2 1 none)=some (J a.2):=h5.cell (k:=1) rfl
 have b0:w5.cell? (Addr.mk n4 0 none)=some (U b.1):=h5.cell (k:=0) rfl
 have b1:w5.cell? (Addr.mk n4 1 none)=some (J b.2):=h5.cell (k:=0) rfl
 have wu:∀ x:Int,IntKind.wrap .i64 (IntKind.wrap .u32 x)=x % 4294967296:=fun x=>by
  have:IntKind.wrap .u32 x=x % 4294967296:=by simp[IntKind.wrap,IntKind.bits,IntKind.signed]
  rw[this,qc om om]
 unfold q3f at hK
 refine⟨a.2,by rw[qa];exact a1,?_⟩
 cases h1:decide (a.2<1)<;>rw[h1]at hK<;>simp only[qe,qb]
 ·refine⟨b.2,by rw[qa];exact b1,?_⟩
  cases h2:decide (b.2<1)<;>rw[h2]at hK<;>rw[q4P]<;>simp only[qe,qb]
  ·rw[qpN]
   refine⟨b.1,b0,a.1,a0,a.2,by rw[qa];exact a1,?_⟩
   rw[wu]
   cases h3:decide ((b.1-a.1) % 4294967296<a.2)<;>rw[h3]at hK<;>simp only[qe,qb]
   ·refine⟨a.1,a0,b.1,b0,b.2,by rw[qa];exact b1,?_⟩
    rw[q50,wu]
    exact hK
   ·rw[q50];exact hK
  ·exact hK
 ·rw[q4P];simp only[qe];exact hK
end Go.Fx.Tryz
namespace Go.Fx.Ch
def ze(k:Nat)(at_:Int):Int:=(at_ / 4*2654435761) % 4294967296 / 2 ^ (32-k)
def zj(sec len slots:Int):Bool:=decide (1<=sec)&&decide (sec<=16)&&decide (256<=len)&&decide (len<=1048576)&&decide (16<=slots)&&decide (slots<=65536)&&decide (∃ k,k∈[4,5,6,7,8,9,10,11,12,13,14,15,16]/\slots=2 ^ k)
def Yl:List Int:=[0,1,56,2,57,49,28,3,61,58,42,50,38,29,17,4,62,47,59,36,45,43,51,22,53,39,33,30,24,18,12,5,63,55,48,27,60,41,37,16,46,35,44,21,52,32,23,11,54,26,40,15,34,20,31,10,25,14,19,9,13,8,7,6]
end Go.Fx.Ch
namespace Go.Fx.Tryz
open Go Go.Fx Go.Fx.Ch
open Go.Proofs
set_option linter.all false
set_option maxRecDepth 20000
variable {w0 w:World} {H:qE} {K:KT}
theorem Qj{k:Nat}(h4:4<=k)(h16:k<=16):k=4\/k=5\/k=6\/k=7\/k=8\/k=9\/k=10\/k=11\/k=12\/k=13\/k=14\/k=15\/k=16:=by omega
def tzI(x:Int):Int:=(IntKind.wrap .u64 ((IntKind.wrap .u64 ((BitVec.ofInt (IntKind.bits .u64) x &&& BitVec.ofInt (IntKind.bits .u64) (IntKind.wrap .u64 (0-x))).toNat:Int))*285870213051353865)).fdiv (2 ^ (min (Int.toNat 58) (IntKind.bits .u64)))
theorem qGU{k:Nat}(h4:4<=k)(h16:k<=16):0<=tzI (2 ^ k)/\tzI (2 ^ k)<64/\Yl[(tzI (2 ^ k)).toNat]?=some (k:Int):=by
 rcases Qj h4 h16 with rfl | rfl | rfl | rfl | rfl | rfl | rfl | rfl | rfl | rfl | rfl | rfl | rfl<;>decide
theorem qM1{k:Nat}(h4:4<=k)(h16:k<=16){t:TypeId}(ht:(2,Cs (Yl.map fun x=>.int .u8 x) t)∈H)(h:St w0 w H)(hK:K (J k) w):q9 P 154 [.int .u64 (2 ^ k)] w K:=by
 refine qzs _ _ _ ?_
 rw[qEL,qig]
 refine qCX _ _ _ ?_
 obtain⟨h1,h2,h3⟩:=qGU h4 h16
 rw[qDi]
 have hne:(((2:Int) ^ k)==0)=false:=by
  rcases Qj h4 h16 with rfl | rfl | rfl | rfl | rfl | rfl | rfl | rfl | rfl | rfl | rfl | rfl | rfl<;>decide
 rw[hne]
 simp only[qb]
 rw[qfR]
 refine⟨by omega,h1,h2,(k:Int),?_,(k:Int),?_⟩
 ·show w.cell? ((Addr.mk 2 0 none).add ((tzI (2 ^ k)).toNat*1))=_
  rw[qa,Nat.mul_one,Nat.zero_add,qw (h.has _ _ ht),List.getElem?_map,h3]
  rfl
 ·rw[qc om om]
  exact⟨rfl,hK⟩
theorem qAk{a:Option Addr}{slots:Int}(ha:∀ b,a=some b->w.cell? (b.add 2)=some (J slots))(hK:K (.bool (match a with | none=>true | some _=>slots==0)) w):q9 P 53 [.pointer a] w K:=by
 refine qH3 _ _ _ ?_
 rw[qJx]
 cases a with
 | none=>simp only[Option.isNone_none,qe];rw[q4y];exact hK
 | some b=>
  simp only[Option.isNone_some,qb]
  refine⟨slots,ha b rfl,?_⟩
  rw[q4y];exact hK
theorem qtH{a:Addr}{slots:Int}(ha:w.cell? (a.add 2)=some (J slots))(h0:0<=slots)(h1:slots<=65536)(hK:K (J (slots / 4*3)) w):q9 P 59 [.pointer (some a)] w K:=by
 refine qGC _ _ _ ?_
 rw[qKy]
 refine⟨slots,ha,by omega,?_⟩
 have e:slots.tdiv 4=slots / 4:=Int.tdiv_eq_ediv_of_nonneg h0
 rw[e,qc (x:=slots / 4) om om,qc om om]
 exact hK
theorem qBf{a:Addr}{k:Nat}(h4:4<=k)(h16:k<=16){t:TypeId}(ht:(2,Cs (Yl.map fun x=>.int .u8 x) t)∈H)(h:St w0 w H)(ha:w.cell? (a.add 2)=some (J (2 ^ k))){at_:Int}(h0:0<=at_)(h1:at_<4294967296)
  (hK:K (J (ze k at_)) w):q9 P 111 [.pointer (some a),U at_] w K:=by
 refine qCI _ _ _ _ ?_
 rw[qEK]
 refine⟨by omega,2 ^ k,ha,?_⟩
 have hw:IntKind.wrap .u64 (2 ^ k)=2 ^ k:=by
  rcases Qj h4 h16 with rfl | rfl | rfl | rfl | rfl | rfl | rfl | rfl | rfl | rfl | rfl | rfl | rfl<;>decide
 rw[hw]
 refine qM1 h4 h16 ht h ⟨_,rfl,?_⟩
 rw[qc (x:=(32:Int)-k) om om]
 refine⟨by omega,?_⟩
 have e:at_.tdiv 4=at_ / 4:=Int.tdiv_eq_ediv_of_nonneg h0
 have wu:∀ x:Int,IntKind.wrap .u32 x=x % 4294967296:=fun x=>by simp[IntKind.wrap,IntKind.bits,IntKind.signed]
 have em:(at_ / 4) % 4294967296=at_ / 4:=by omega
 have e2:min (Int.toNat ((32:Int)-k)) (IntKind.bits .u32)=32-k:=by show min (Int.toNat ((32:Int)-k)) 32=32-k;omega
 rw[e,wu,wu,em,e2,Int.fdiv_eq_ediv_of_nonneg _ (Int.le_of_lt (Int.pow_pos (by decide)))]
 have hb:0<=ze k at_/\ze k at_<4294967296:=by
  unfold ze
  have h1:0<=(at_ / 4*2654435761) % 4294967296:=Int.emod_nonneg _ (by decide)
  have h2:(at_ / 4*2654435761) % 4294967296<4294967296:=Int.emod_lt_of_pos _ (by decide)
  have hp:(0:Int)<2 ^ (32-k):=Int.pow_pos (by decide)
  exact⟨Int.ediv_nonneg h1 (Int.le_of_lt hp),Int.lt_of_le_of_lt (Int.ediv_le_self _ h1) h2⟩
 have:(at_ / 4*2654435761) % 4294967296 / 2 ^ (32-k)=ze k at_:=rfl
 rw[this,qc om om]
 exact hK
end Go.Fx.Tryz
namespace Go.Fx.Tryz
open Go Go.Fx Go.Fx.Ch
open Go.Proofs
set_option linter.all false
set_option maxRecDepth 20000
variable {w0 w:World} {H:qE} {K:KT} {ov sv cv:Value} {bs:List Int} {l:List SP}
theorem qP6(w:World):(Instr.buildSlice 37 0 ([]:List (Nat × Value)).toArray).run P w=.ok (.slice (some ⟨w.heap.size,0,none⟩) 0 0) (w.alloc (.cells #[] 36 (0,0))):=kr
theorem qMr(l:List SP):∀ v∈(l.map QN).flatten,v.oneCell'=true:=by
 intro v hv
 obtain⟨x,hx,hv⟩:=List.mem_flatten.1 hv
 obtain⟨s,_,rfl⟩:=List.mem_map.1 hx
 simp[QN]at hv
 rcases hv with rfl | rfl<;>rfl
theorem q9S(h:St w0 w H)(hB:jZ w0 H ov l)(hK:∀ w' ov' L,zx 2 36 ov' l.length (l.map QN).flatten L->qF w0 L->St w0 w' (L++H)->K ov' w'):q9 P 108 [ov] w K:=by
 obtain⟨sa,sc,rfl⟩:=(hB.row w h).form
 refine qCQ _ _ _ _ _ ?_
 rw[qF8]
 cases sa with
 | none=>
  simp only[Option.isNone_none,qe]
  have h0:l.length=0:=by
   rcases(hB.row w h).2 with⟨_,h0⟩ | ⟨ad,cp,h1,_⟩
   ·exact h0
   ·cases h1
  have hb:l=[]:=List.eq_nil_of_length_eq_zero h0
  subst hb
  exact hK w _ [] (zx.nil 2 36) (qF.nil w0) h
 | some a=>
  simp only[Option.isNone_some,qb]
  rw[qeN]
  have h1:St w0 (w.alloc (.cells #[] 36 (0,0))) ([(w.heap.size,Cs [] 36)]++H):=h.alloc _
  have hS:zx 2 36 (.slice (some ⟨w.heap.size,0,none⟩) 0 0) 0 [] [(w.heap.size,Cs [] 36)]:=⟨rfl,.inr ⟨w.heap.size,0,[],rfl,rfl,Nat.le_refl _,Nat.zero_le _,rfl,rfl⟩⟩
  have hN:qF w0 [(w.heap.size,Cs [] 36)]:=fun x hx=>by rw[List.mem_singleton.1 hx];exact h.le
  have hlen:=hB.len
  have hr:=hB.row _ (h1.sub hN)
  have hfl:=qtS QN 2 q5Q l
  obtain⟨v',w',L',hrun,hS',hs',hN'⟩:=St.appendS (P:=P) 37 37 36 Tryz.t36 (.agg #[U 0,J 0]) 2 16 Tryz.underlying37 kr rfl rfl rfl rfl om (A:=[]) (H:=H) h1 hS hN (ad:=a) (m:=l.length) (c:=sc) (news:=(l.map QN).flatten) hfl (fun j u hu=>by
   rcases hr.2 with⟨h0,_⟩ | ⟨ad,cp,e1,e2⟩
   ·cases h0
   ·injection e1 with e1 _ _
    injection e1 with e1
    subst e1
    have hj:j<l.length*2:=by
     have:=(List.getElem?_eq_some_iff.1 hu).1
     rw[hfl]at this;exact this
    rw[e2 j hj];exact hu) (qMr l) (by simp[maxLen];omega) om
  obtain⟨va,vc,rfl⟩:=hS'.form
  refine⟨_,_,_,_,qP6 w,_,_,_,w',hrun,?_⟩
  refine hK w' _ L' ?_ hN' hs'
  simpa using hS'
def ya(at_:Int)(sv cv:Value):List Value:=[U at_,sv,cv]
theorem z41:∃ z:List Value,qx P 41=z.toArray/\z.length=3:=⟨[U 0,.slice none 0 0,.slice none 0 0],by kernel_rfl,rfl⟩
theorem JB(h:St w0 w H){at_:Int}(hS:jZ w0 H sv l)(hB:yl w0 H cv bs)
  (hK:∀ w' sv' cv' L M,zx 2 36 sv' l.length (l.map QN).flatten L->qF w0 L->zx 1 5 cv' bs.length (bs.map B) M->qF w0 M->St w0 w' (M++(L++H))->K (.agg (ya at_ sv' cv').toArray) w') :
  q9 P 62 [.agg (ya at_ sv cv).toArray] w K:=by
 obtain⟨sa,sc,rfl⟩:=(hS.row w h).form
 obtain⟨ca,cc,rfl⟩:=(hB.row w h).form
 refine qHk _ _ _ ?_
 obtain⟨z,hz,hzl⟩:=z41
 rw[qJW,hz]
 refine h.newC fun n1 w2 hn1 h2=>h2.newC fun n3 w4 hn3 h4=>?_
 have h4:St w0 w4 ([(n3,Cs z 41),(n1,Cs (ya at_ (.slice sa l.length sc) (.slice ca bs.length cc)) 41)]++H):=h4
 have h5:=h4.drew
 have hnew:qF w0 [(n3,Cs z 41),(n1,Cs (ya at_ (.slice sa l.length sc) (.slice ca bs.length cc)) 41)]:=fun x hx=>by
  simp only[List.mem_cons,List.not_mem_nil,or_false]at hx
  rcases hx with rfl | rfl<;>assumption
 refine⟨_,_,_,by rw[qa];exact h5.cell (k:=1) rfl,_,_,_,by rw[qa];exact h5.cell (k:=1) rfl,?_⟩
 refine q9S (l:=l) h5 ⟨fun w' h'=>hS.row w' (h'.sub hnew),hS.len⟩ fun w8 sv' L hSL hNL h8=>?_
 obtain⟨sa',sc',rfl⟩:=hSL.form
 have hi1:(n1,Cs (ya at_ (.slice sa l.length sc) (.slice ca bs.length cc)) 41)∈L++([(n3,Cs z 41),(n1,Cs (ya at_ (.slice sa l.length sc) (.slice ca bs.length cc)) 41)]++H):=List.mem_append_right _ (.tail _ (.head _))
 refine⟨_,_,_,rfl,by rw[qa];exact qw (h8.has _ _ hi1),?_⟩
 refine q02 (bs:=bs) h8 ⟨fun w' h'=>hB.row w' ((h'.sub hNL).sub hnew),hB.byte,hB.len,hB.cap⟩ fun w11 cv' M hSM hNM h11=>?_
 obtain⟨ca',cc',rfl⟩:=hSM.form
 refine⟨_,_,_,rfl,?_⟩
 have h12:St w0 w11 ((n1,Cs (ya at_ (.slice sa l.length sc) (.slice ca bs.length cc)) 41)::(n3,Cs z 41)::(M++(L++H))):=h11.perm (qn fun c=>by simp only[List.map_append,List.map_cons,List.sum_append,List.sum_cons,List.map_nil,List.sum_nil];omega)
 rw[qa,qa]
 refine h12.st1 (k:=0) rfl (by simp[ya]) rfl fun w13 h13=>?_
 refine h13.st1 (k:=0) rfl (by simp[ya]) rfl fun w14 h14=>?_
 have h14:St w0 w14 ((n1,Cs (ya at_ (.slice sa' l.length sc') (.slice ca' bs.length cc')) 41)::(n3,Cs z 41)::(M++(L++H))):=h14
 rw[qrA]
 refine h14.ldA (k:=0) (i:=0) rfl (by simp[ya]) ?_
 refine h14.stA (k:=1) rfl rfl (by simp[hzl]) (by simp[ya,Value.oneCell']) fun w18 h18=>?_
 have h18:St w0 w18 ((n1,Cs (ya at_ (.slice sa' l.length sc') (.slice ca' bs.length cc')) 41)::(n3,Cs (qX z 0 (ya at_ (.slice sa' l.length sc') (.slice ca' bs.length cc'))) 41)::(M++(L++H))):=h18
 rw[qI _ _ (by rw[hzl];rfl)]at h18
 refine h18.ldA (k:=1) (i:=0) rfl (by simp[ya]) ?_
 exact hK w18 _ _ L M hSL hNL hSM hNM ((h18.tail hn1).tail hn3)
theorem qGM{b:Nat}{s:SP}{t:TypeId}(hb:(b,Cs (QN s) t)∈H):qjt w0 H (.func (.func 66) #[] #[.pointer (some (Addr.mk b 0 none))]) (fun e=>q3f s e):=fun e w' Q h hQ=>by
 refine QG kr (qJF _ _ _ _ ?_)
 rw[qHF]
 refine h.newC fun n2 w3 hn2 h3=>?_
 refine q2V (h3.has _ _ (.tail _ hb)) (by simp[QN]) ?_
 refine h3.ldA (k:=0) (i:=0) rfl (by simp[QN]) ?_
 exact qxG (a:=s) (b:=e) h3 fun w7 h7=>⟨_,rfl,hQ _ (h7.tail hn2)⟩
end Go.Fx.Tryz
namespace Go.Fx.Tryz
open Go Go.Fx Go.Fx.Ch
open Go.Proofs
set_option linter.all false
set_option maxRecDepth 20000
variable {w0 w:World} {H:qE} {K:KT}
theorem qsc{x:Int}(h0:16<=x)(h1:x<=65536) :
  ((IntKind.wrap .i64 ((BitVec.ofInt (IntKind.bits .i64) x &&& BitVec.ofInt (IntKind.bits .i64) (IntKind.wrap .i64 (x-1))).toNat:Int))==0)=decide (∃ k,k∈[4,5,6,7,8,9,10,11,12,13,14,15,16]/\x=2 ^ k):=by
 obtain⟨n,rfl⟩:=Int.eq_ofNat_of_zero_le (show(0:Int)<=x by omega)
 have e1:((n:Nat):Int)-1=((n-1:Nat):Int):=by omega
 rw[e1,qc (x:=((n-1:Nat):Int)) om om]
 have e:(BitVec.ofInt (IntKind.bits .i64) ((n:Nat):Int) &&& BitVec.ofInt (IntKind.bits .i64) ((n-1:Nat):Int)).toNat=n &&& (n-1):=by
  show(BitVec.ofInt 64 ((n:Nat):Int) &&& BitVec.ofInt 64 ((n-1:Nat):Int)).toNat=_
  rw[BitVec.toNat_and,BitVec.ofInt_natCast,BitVec.ofInt_natCast,BitVec.toNat_ofNat,BitVec.toNat_ofNat,Nat.mod_eq_of_lt om,Nat.mod_eq_of_lt om]
 have hle:n &&& (n-1)<=n:=Nat.and_le_left
 rw[e,qc om om,Bool.eq_iff_iff]
 simp only[beq_iff_eq,decide_eq_true_eq]
 have hz:(((n &&& (n-1):Nat):Int)=0)↔n &&& (n-1)=0:=by omega
 rw[hz,Nat.and_sub_one_eq_zero_iff_isPowerOfTwo om]
 constructor
 ·rintro⟨k,rfl⟩
  have hk4:4<=k:=by
   rcases Nat.lt_or_ge k 4 with h | h
   ·exfalso
    have:k=0\/k=1\/k=2\/k=3:=by omega
    rcases this with rfl | rfl | rfl | rfl<;>simp at h0
   ·exact h
  have hk16:k<=16:=by
   rcases Nat.lt_or_ge 16 k with h | h
   ·exfalso
    have:2 ^ 17<=2 ^ k:=Nat.pow_le_pow_right (by decide) h
    have:(131072:Nat)<=2 ^ k:=this
    omega
   ·exact h
  refine⟨k,?_,by rw[Int.natCast_pow];rfl⟩
  rcases Qj hk4 hk16 with rfl | rfl | rfl | rfl | rfl | rfl | rfl | rfl | rfl | rfl | rfl | rfl | rfl<;>simp
 ·rintro⟨k,_,hk⟩
  refine⟨k,?_⟩
  have:((2 ^ k:Nat):Int)=2 ^ k:=by rw[Int.natCast_pow];rfl
  omega
theorem qrS(h:St w0 w H){sec len slots:Int}(hK:∀ w',St w0 w' H->K (.bool (zj sec len slots)) w'):q9 P 51 [.agg #[J sec,J len,J slots]] w K:=by
 refine qIo _ _ _ ?_
 rw[qJD]
 refine h.newC fun n1 w2 hn1 h2=>?_
 have hK:=hK w2 (h2.tail hn1)
 have c0:w2.cell? (Addr.mk n1 0 none)=some (J sec):=h2.cell (k:=0) rfl
 have c1:w2.cell? (Addr.mk n1 1 none)=some (J len):=h2.cell (k:=0) rfl
 have c2:w2.cell? (Addr.mk n1 2 none)=some (J slots):=h2.cell (k:=0) rfl
 have fls:∀ {P:Prop},zj sec len slots=false->QZ false w2 K:=fun hf=>by rw[q4n,<-hf];exact hK
 simp only[qa,Nat.zero_add]
 refine⟨sec,c0,?_⟩
 cases h1:decide (sec>=1)<;>simp only[qe,qb]
 ·exact fls (P:=True) (by have:=of_decide_eq_false h1;unfold zj;rw[show decide (1<=sec)=false by simp;omega];rfl)
 refine⟨sec,c0,?_⟩
 cases h2':decide (sec<=16)<;>simp only[qe,qb]
 ·exact fls (P:=True) (by unfold zj;rw[h2'];simp)
 refine⟨len,c1,?_⟩
 cases h3:decide (len>=256)<;>simp only[qe,qb]
 ·exact fls (P:=True) (by have:=of_decide_eq_false h3;unfold zj;rw[show decide (256<=len)=false by simp;omega];simp)
 refine⟨len,c1,?_⟩
 cases h4:decide (len<=1048576)<;>simp only[qe,qb]
 ·exact fls (P:=True) (by unfold zj;rw[h4];simp)
 refine⟨slots,c2,?_⟩
 cases h5:decide (slots>=16)<;>simp only[qe,qb]
 ·exact fls (P:=True) (by have:=of_decide_eq_false h5;unfold zj;rw[show decide (16<=slots)=false by simp;omega];simp)
 refine⟨slots,c2,?_⟩
 cases h6:decide (slots<=65536)<;>simp only[qe,qb]
 ·exact fls (P:=True) (by unfold zj;rw[h6];simp)
 refine⟨slots,c2,slots,c2,?_⟩
 rw[q4n,qsc (of_decide_eq_true h5) (of_decide_eq_true h6)]
 have e:zj sec len slots=decide (∃ k,k∈[4,5,6,7,8,9,10,11,12,13,14,15,16]/\slots=2 ^ k):=by
  unfold zj
  rw[show decide (1<=sec)=true from h1,h2',show decide (256<=len)=true from h3,h4,show decide (16<=slots)=true from h5,h6]
  rfl
 rw[e]at hK
 exact hK
end Go.Fx.Tryz
namespace Go.Fx
open Go
variable {P:Program}
structure q6q (P:Program) (kt:TypeId) {K:Type} (enc:K->Value):Prop where
 check:∀ w em k,(Instr.checkKey em 10000 kt (enc k)).run P w=.ok () w
 find:∀ w k (es:List MapEntry),(∀ e∈es,∃ x,e.key=enc x)->
  ((Instr.findKey kt (enc k) es).run P w=.ok none w/\∀ e∈es,e.key≠enc k)\/∃ j e,(Instr.findKey kt (enc k) es).run P w=.ok (some (j,e.val)) w/\es[j]?=some e/\e.key=enc k
 stays:∀ w k,(Instr.keyThatStays (enc k) (enc k)).run P w=.ok (enc k) w
 inj:∀ {a b},enc a=enc b->a=b
variable {K:Type} [DecidableEq K] {enc:K->Value} {kt:TypeId}
structure MapIs (enc:K->Value) (es:Array MapEntry) (clk:Nat) (m:List (K × Value)):Prop where
 st:MapKept.Stamped es clk
 perm:(es.toList.map fun e=>(e.key,e.val)).Perm (m.map fun p=>(enc p.1,p.2))
def jB(m:List (K × Value))(k:K):Option Value:=(m.find? fun p=>p.1==k).map (·.2)
def q9M(m:List (K × Value))(k:K)(v:Value):List (K × Value):=match jB m k with
 | some _=>m.map fun p=>if p.1=k then(p.1,v)else p
 | none=>m++[(k,v)]
theorem Yw{m:List (K × Value)}{k:K}:jB m k=none↔∀ p∈m,p.1≠k:=by
 simp[jB]
theorem q3C{m:List (K × Value)}{k:K}{v:Value}(hn:(m.map (·.1)).Nodup):jB m k=some v↔(k,v)∈m:=by
 induction m with
 | nil=>simp[jB]
 | cons p r ih=>
  simp only[List.map_cons,List.nodup_cons]at hn
  simp only[jB,List.find?_cons]
  by_cases hp:p.1=k
  ·subst hp
   simp only[beq_self_eq_true,Option.map_some,Option.some.injEq,List.mem_cons]
   constructor
   ·rintro rfl;exact .inl rfl
   ·rintro(h | h)
    ·rw[<-h]
    ·exact absurd (List.mem_map.2 ⟨_,h,rfl⟩) hn.1
  ·have:(p.1==k)=false:=by simpa using hp
   rw[this]
   simp only[List.mem_cons]
   have ih:=ih hn.2
   unfold jB at ih
   rw[ih]
   constructor
   ·exact .inr
   ·rintro(h | h)
    ·exact absurd (by rw[<-h]) hp
    ·exact h
namespace MapIs
variable {es:Array MapEntry} {clk:Nat} {m:List (K × Value)}
theorem empty:MapIs enc #[] 0 ([]:List (K × Value)):=⟨MapKept.stamped_empty 0,by simp⟩
theorem keys(h:MapIs enc es clk m):∀ e∈es.toList,∃ x,e.key=enc x:=fun e he=>by
 have:(e.key,e.val)∈es.toList.map fun e=>(e.key,e.val):=List.mem_map.2 ⟨e,he,rfl⟩
 obtain⟨p,_,hp⟩:=List.mem_map.1 (h.perm.mem_iff.1 this)
 exact⟨p.1,(congrArg Prod.fst hp).symm⟩
theorem nodup(h:MapIs enc es clk m):(m.map (·.1)).Nodup:=by
 have h1:=h.st.2.2
 have h2:=h.perm.map Prod.fst
 rw[List.map_map,List.map_map]at h2
 have h3:(m.map (Prod.fst ∘ fun p=>(enc p.1,p.2))).Nodup:=h2.nodup_iff.1 h1
 have:m.map (Prod.fst ∘ fun p=>(enc p.1,p.2))=(m.map (·.1)).map enc:=by simp[Function.comp_def]
 rw[this]at h3
 exact List.Pairwise.of_map enc (fun a b hab e=>hab (by rw[e])) h3
theorem size(h:MapIs enc es clk m):es.size=m.length:=by
 have:=h.perm.length_eq
 simpa using this
theorem mem(h:MapIs enc es clk m)(kl:q6q P kt enc){e:MapEntry}(he:e∈es.toList){k:K}(hk:e.key=enc k):(k,e.val)∈m:=by
 have:(e.key,e.val)∈es.toList.map fun e=>(e.key,e.val):=List.mem_map.2 ⟨e,he,rfl⟩
 obtain⟨p,hp,hpe⟩:=List.mem_map.1 (h.perm.mem_iff.1 this)
 have h1:enc p.1=enc k:=(congrArg Prod.fst hpe).trans hk
 have h2:p.2=e.val:=congrArg Prod.snd hpe
 rw[<-kl.inj h1,<-h2]
 exact hp
theorem find(h:MapIs enc es clk m)(kl:q6q P kt enc)(w:World)(k:K) :
  (jB m k=none/\(Instr.findKey kt (enc k) es.toList).run P w=.ok none w/\∀ e∈es.toList,e.key≠enc k)\/
  ∃ v j e,jB m k=some v/\(Instr.findKey kt (enc k) es.toList).run P w=.ok (some (j,v)) w/\es[j]?=some e/\e.key=enc k/\e.val=v:=by
 rcases kl.find w k es.toList h.keys with⟨h1,h2⟩ | ⟨j,e,h1,h2,h3⟩
 ·refine .inl ⟨Yw.2 fun p hp e=>?_,h1,h2⟩
  have:(enc p.1,p.2)∈es.toList.map fun e=>(e.key,e.val):=h.perm.mem_iff.2 (List.mem_map.2 ⟨p,hp,rfl⟩)
  obtain⟨x,hx,he⟩:=List.mem_map.1 this
  exact h2 x hx ((congrArg Prod.fst he).trans (by rw[e]))
 ·refine .inr ⟨e.val,j,e,(q3C h.nodup).2 (h.mem kl (List.mem_of_getElem? h2) h3),h1,by simpa using h2,h3,rfl⟩
theorem lookup(h:MapIs enc es clk m)(kl:q6q P kt enc){T et:TypeId}(hT:P.underlying T=some (.map kt et)){z:Value}(hz:∀ w,(zeroValue et).run P w=.ok z w)
  {w:World} {b:Nat} (hb:w.heap[b]?=some (.map es clk)) (k:K) (ok:Bool) :
  (Instr.lookup T (.map (some b)) (enc k) ok).run P w=.ok (if ok then .tuple #[(jB m k).getD z,.bool (jB m k).isSome]else(jB m k).getD z) w:=by
 unfold Instr.lookup
 simp only[Sem.run_bind,run_underlying hT,Result.andThen_ok,MapKept.run_getObj_map hb,Sem.run_pure,kl.check]
 rcases h.find kl w k with⟨h1,h2,_⟩ | ⟨v,j,e,h1,h2,_⟩
 ·rw[h2,h1]
  simp only[Result.andThen_ok,Sem.run_bind,hz,Sem.run_pure]
  cases ok<;>simp
 ·rw[h2,h1]
  simp only[Result.andThen_ok,Sem.run_bind,Sem.run_pure]
  cases ok<;>simp
open Classical in
theorem update(h:MapIs enc es clk m)(kl:q6q P kt enc){T et:TypeId}(hT:P.underlying T=some (.map kt et)){w:World}{b:Nat}(hb:w.heap[b]?=some (.map es clk))(k:K)(v:Value) :
  ∃ es' clk',(Instr.mapUpdate T (.map (some b)) (enc k) v).run P w=.ok () (w.putObj b (.map es' clk'))/\MapIs enc es' clk' (q9M m k v):=by
 unfold Instr.mapUpdate
 simp only[Sem.run_bind,run_underlying hT,Result.andThen_ok,MapKept.run_getObj_map hb,kl.check]
 rcases h.find kl w k with⟨h1,h2,h3⟩ | ⟨v0,j,e,h1,h2,h3,h4,h5⟩
 ·refine⟨es.push { key:=enc k,val:=v,born:=clk },clk+1,?_,MapKept.stamped_push h.st h3,?_⟩
  ·rw[h2]
   simp only[Result.andThen_ok,MapKept.run_setObj_map _ hb]
   rfl
  ·unfold q9M
   rw[h1]
   simp only[Array.toList_push,List.map_append,List.map_cons,List.map_nil]
   exact h.perm.append_right _
 ·refine⟨es.modify j fun e=>{ e with key:=enc k,val:=v },clk,?_,MapKept.stamped_modify h.st j _ (fun _ _=>rfl) (fun x _ hx=>?_),?_⟩
  ·rw[h2]
   simp only[Result.andThen_ok,Sem.run_bind,h3,Option.map_some,Option.getD_some,h4,kl.stays,MapKept.run_setObj_map _ hb]
   rfl
  ·rw[h3]at hx;cases hx;exact h4.symm
  ·unfold q9M
   rw[h1]
   have e1:(es.modify j fun e=>{ e with key:=enc k,val:=v }).toList.map (fun e=>(e.key,e.val)) =
     (es.toList.map fun e=>(e.key,e.val)).map fun q=>if q.1=enc k then(q.1,v)else q:=by
    apply List.ext_getElem?
    intro i
    simp only[List.getElem?_map,Array.getElem?_toList,Array.getElem?_modify]
    by_cases hij:j=i
    ·subst hij
     simp[h3,h4]
    ·simp only[hij,if_false]
     cases hx:es[i]? with
     | none=>rfl
     | some x=>
      have hne:x.key≠enc k:=fun hk=>hij (Jw h.st.2.2 (x:=enc k) (by simp[h3,h4]) (by simp[hx,hk]))
      simp[hne]
   have e2:(m.map fun p=>if p.1=k then(p.1,v)else p).map (fun p=>(enc p.1,p.2)) =
     (m.map fun p=>(enc p.1,p.2)).map fun q=>if q.1=enc k then(q.1,v)else q:=by
    rw[List.map_map,List.map_map]
    apply List.map_congr_left
    intro p _
    simp only[Function.comp_def]
    by_cases hp:p.1=k
    ·subst hp;simp
    ·have:enc p.1≠enc k:=fun e=>hp (kl.inj e)
     simp[hp,this]
   simp only[e1,e2]
   exact h.perm.map _
theorem len(h:MapIs enc es clk m){w:World}{b:Nat}(hb:w.heap[b]?=some (.map es clk)){T et:TypeId}(hT:P.underlying T=some (.map kt et))(t:TypeId) :
  (Builtin.len_ #[T] t [Value.map (some b)].toArray).run P w=.ok (.int .i64 m.length) w:=by
 simp[Builtin.len_,MapKept.run_getObj_map hb,h.size,goInt,run_underlying hT]
end MapIs
theorem qx4{k:IntKind}(hkt:P.underlying kt=some (.int k)):q6q P kt (fun x:Int=>Value.int k x) where
 check w em x:=MapKept.run_checkKey hkt (d:=.int k) (by simp[MapKept.IsKey]) em 9999
 find w x es hes:=by
  rcases MapKept.findNow_spec (d:=.int k) (k:=.int k x) (by simp[MapKept.IsKey]) es 0 (fun e he=>by obtain⟨y,hy⟩:=hes e he;rw[hy];simp[MapKept.IsKey])with⟨h1,h2⟩ | ⟨j,e,h1,h2,h3⟩
  ·exact .inl ⟨MapKept.run_findKey hkt h1,h2⟩
  ·exact .inr ⟨j,e,MapKept.run_findKey hkt (by rw[h1];simp),h2,h3⟩
 stays w x:=by simp[Instr.keyThatStays,Instr.sameBits]
 inj h:=by simpa using h
end Go.Fx
namespace Go.Fx
open Go
variable {P:Program} {w:World}
theorem Ye{T kt et:TypeId}(hT:P.underlying T=some (.map kt et)){m:Nat}{es:Array MapEntry}{clk:Nat}(hm:w.heap[m]?=some (.map es clk)) :
  (Instr.range T (.map (some m))).run P w=.ok (.pointer (some (Addr.mk w.heap.size 0 none))) (w.alloc (.mapIter (some m) clk #[] clk)):=by
 simp[Instr.range,run_underlying hT,MapKept.run_getObj_map hm]
theorem ZY{it m:Nat}{es:Array MapEntry}{clk s stamp:Nat}{seen:Array Nat}{e:MapEntry}(hi:w.heap[it]?=some (.mapIter (some m) s seen clk))(hm:w.heap[m]?=some (.map es clk))
  (hs:seen.back?=some stamp) (he:es.find? (fun x=>x.born==stamp)=some e):(Instr.entry (.pointer (some (Addr.mk it 0 none)))).run P w=.ok (.tuple #[e.key,e.val]) w:=by
 have h1:(getObj it).run P w=.ok (.mapIter (some m) s seen clk) w:=by simp[getObj,Sem.run,hi]
 simp[Instr.entry,h1,hs,MapKept.run_getObj_map hm,he]
theorem q9t{es:Array MapEntry}{clk:Nat}{seen:Array Nat}(hst:MapKept.Stamped es clk):(!seen.isEmpty&&!es.isEmpty&&es.all (fun x=>decide (x.born>=clk)))=false:=by
 by_cases he:es.isEmpty=true
 ·simp[he]
 ·have:es.all (fun x=>decide (x.born>=clk))=false:=by
   cases hes:es.toList with
   | nil=>simp at hes;simp[hes]at he
   | cons x r=>
    have hx:=hst.1 x (by rw[hes];simp)
    rw[<-Array.all_toList,hes]
    simp;omega
  simp[this]
theorem q8I{it m:Nat}{es:Array MapEntry}{clk:Nat}{seen:Array Nat}(hi:w.heap[it]?=some (.mapIter (some m) clk seen clk))(hm:w.heap[m]?=some (.map es clk))(hst:MapKept.Stamped es clk)
  {left:Array MapEntry} (hleft:(es.filter fun e=>!seen.contains e.born)=left) (hold:(left.filter fun e=>decide (e.born<clk))=left) (hnew:(left.filter fun e=>decide (e.born>=clk))=#[]) :
  (Instr.next (.pointer (some (Addr.mk it 0 none))) false 0).run P w=(do
   match((if left.isEmpty then #[none]else #[])++left.map some)[<-choose (.mapNext ((if left.isEmpty then #[none]else #[])++left.map some).size)]? with
   | some (some e)=>do
    setObj it (.mapIter (some m) clk (seen.push e.born) clk)
    pure (.tuple #[.bool true,e.key,e.val])
   | some none=>pure (.tuple #[.bool false])
   | none => stuck "Next: no such candidate" : Sem Value).run P w := by
 have h1:(getObj it).run P w=.ok (.mapIter (some m) clk seen clk) w:=by simp[getObj,Sem.run,hi]
 unfold Instr.next
 simp only[Sem.run_bind,h1,Result.andThen_ok,MapKept.run_getObj_map hm,q9t hst,Bool.false_eq_true,if_false,hleft,hold,hnew,Array.append_empty]
 rfl
theorem jc{it m:Nat}{es:Array MapEntry}{clk:Nat}{seen:Array Nat}(hi:w.heap[it]?=some (.mapIter (some m) clk seen clk))(hm:w.heap[m]?=some (.map es clk))(hst:MapKept.Stamped es clk)
  (hleft:(es.filter fun e=>!seen.contains e.born)=#[]):(Instr.next (.pointer (some (Addr.mk it 0 none))) false 0).run P w=.ok (.tuple #[.bool false]) w:=by
 rw[q8I hi hm hst hleft (by simp) (by simp)]
 simp[Question.forced]
theorem jg{it m:Nat}{es:Array MapEntry}{clk:Nat}{seen:Array Nat}(hi:w.heap[it]?=some (.mapIter (some m) clk seen clk))(hm:w.heap[m]?=some (.map es clk))(hst:MapKept.Stamped es clk)
  (hne:(es.filter fun e=>!seen.contains e.born)≠#[]):∃ (e:MapEntry) (w1:World),e∈es.toList/\e.born ∉ seen.toList/\w1.heap=w.heap/\qD8 w w1/\
   (Instr.next (.pointer (some (Addr.mk it 0 none))) false 0).run P w=.ok (.tuple #[.bool true,e.key,e.val]) (w1.putObj it (.mapIter (some m) clk (seen.push e.born) clk)):=by
 generalize hl:(es.filter fun e=>!seen.contains e.born)=left at hne
 have hmem:∀ e∈left.toList,e∈es.toList/\e.born ∉ seen.toList:=fun e he=>by
  rw[<-hl]at he
  simp at he
  exact⟨by simpa using he.1,by simpa using he.2⟩
 have hb:∀ e∈left.toList,e.born<clk:=fun e he=>hst.1 e (hmem e he).1
 rw[q8I hi hm hst hl (by rw[Array.filter_eq_self];intro e he;simpa using hb e (by simpa using he)) (by rw[Array.filter_eq_empty_iff];intro e he;have:=hb e (by simpa using he);simp;omega)]
 have hemp:left.isEmpty=false:=by simpa using hne
 have hpos:0<left.size:=Array.size_pos_iff.2 hne
 have hch:∃ (j:Nat) (w1:World),j<left.size/\w1.heap=w.heap/\qD8 w w1/\(choose (.mapNext left.size)).run P w=.ok j w1:=by
  rw[run_choose_drew]
  by_cases hf:(Question.mapNext left.size).forced=true
  ·exact⟨0,w,hpos,rfl,⟨rfl,rfl,rfl⟩,by rw[if_pos hf]⟩
  ·exact⟨_,w.drew,Nat.mod_lt _ hpos,rfl,⟨rfl,rfl,rfl⟩,by rw[if_neg hf];rfl⟩
 obtain⟨j,w1,hj,hw,hkept,hr⟩:=hch
 have hi1:w1.heap[it]?=some (.mapIter (some m) clk seen clk):=by rw[hw];exact hi
 refine⟨left[j],w1,(hmem _ (by simp)).1,(hmem _ (by simp)).2,hw,hkept,?_⟩
 have hset:∀ o,(setObj it o).run P w1=.ok () (w1.putObj it o):=fun o=>by simp[setObj,Sem.run,hi1,World.putObj]
 simp only[hemp,Bool.false_eq_true,if_false,Array.empty_append,Array.size_map,Sem.run_bind,hr,Result.andThen_ok,Array.getElem?_map,Array.getElem?_eq_getElem hj,Option.map_some,hset,Sem.run_pure]
structure Vis (es:Array MapEntry) (vis rem:List MapEntry) (seen:Array Nat):Prop where
 perm:es.toList.Perm (vis++rem)
 seen:seen.toList=vis.map (·.born)
theorem Vis.start(es:Array MapEntry):Vis es [] es.toList #[]:=⟨.refl _,rfl⟩
theorem Vis.over{es:Array MapEntry}{vis:List MapEntry}{seen:Array Nat}(h:Vis es vis [] seen):(es.filter fun e=>!seen.contains e.born)=#[]:=by
 rw[Array.filter_eq_empty_iff]
 intro e he
 have h1:e∈vis:=by have:=h.perm.mem_iff.1 (show e∈es.toList by simpa using he);simpa using this
 have h2:e.born∈seen.toList:=by rw[h.seen];exact List.mem_map.2 ⟨e,h1,rfl⟩
 simp
 simpa using h2
theorem Vis.more{es:Array MapEntry}{clk:Nat}{vis rem:List MapEntry}{seen:Array Nat}(h:Vis es vis rem seen)(hst:MapKept.Stamped es clk)(hr:rem≠[]):(es.filter fun e=>!seen.contains e.born)≠#[]:=by
 obtain⟨e,r,rfl⟩:=List.exists_cons_of_ne_nil hr
 intro hc
 rw[Array.filter_eq_empty_iff]at hc
 have he:e∈es.toList:=h.perm.mem_iff.2 (by simp)
 have:=hc e (show e∈es by simpa using he)
 have hin:e.born∈seen.toList:=by simp at this;simpa using this
 rw[h.seen]at hin
 have hnd:((vis++e::r).map (·.born)).Nodup:=(h.perm.map _).nodup_iff.1 hst.2.1
 rw[List.map_append]at hnd
 exact(List.nodup_append.1 hnd).2.2 _ hin _ (by simp) rfl
theorem Vis.step{es:Array MapEntry}{vis rem:List MapEntry}{seen:Array Nat}(h:Vis es vis rem seen){e:MapEntry}(he:e∈es.toList)(hn:e.born ∉ seen.toList) :
  ∃ rem',rem.length=rem'.length+1/\Vis es (vis++[e]) rem' (seen.push e.born):=by
 have h1:e∈rem:=by
  have:=h.perm.mem_iff.1 he
  rcases List.mem_append.1 this with hv | hv
  ·exact absurd (by rw[h.seen];exact List.mem_map.2 ⟨e,hv,rfl⟩) hn
  ·exact hv
 obtain⟨a,b,rfl⟩:=List.append_of_mem h1
 refine⟨a++b,by simp;omega,?_,by simp[h.seen]⟩
 refine h.perm.trans ?_
 rw[List.append_assoc]
 exact List.Perm.append_left vis List.perm_middle
theorem ZU{es:Array MapEntry}{clk:Nat}(hst:MapKept.Stamped es clk){e:MapEntry}(he:e∈es.toList):es.find? (fun x=>x.born==e.born)=some e:=by
 cases hf:es.find? (fun x=>x.born==e.born)with
 | none=>
  rw[Array.find?_eq_none]at hf
  have:=hf e (by simpa using he)
  simp at this
 | some x=>
  have h1:=Array.find?_some hf
  have h2:=Array.mem_of_find?_eq_some hf
  have h1:x.born=e.born:=by simpa using h1
  obtain⟨i,hi⟩:=List.mem_iff_getElem?.1 (show x∈es.toList by simpa using h2)
  obtain⟨j,hj⟩:=List.mem_iff_getElem?.1 he
  have:i=j:=Jw hst.2.1 (x:=e.born) (by rw[List.getElem?_map,hi];simp[h1]) (by rw[List.getElem?_map,hj];rfl)
  subst this
  rw[hi]at hj
  exact hj
end Go.Fx
namespace Go.Fx
open Go
variable {P:Program} {K:Type} [DecidableEq K] {enc:K->Value} {kt:TypeId} {es:Array MapEntry} {clk:Nat} {m:List (K × Value)}
def q5H(m:List (K × Value))(k:K):List (K × Value):=m.filter fun p=>p.1≠k
open Classical in
theorem MapIs.delete(h:MapIs enc es clk m)(kl:q6q P kt enc){T et:TypeId}(hT:P.underlying T=some (.map kt et)){w:World}{b:Nat}(hb:w.heap[b]?=some (.map es clk))(k:K)(ty:TypeId) :
  ∃ es',(Builtin.delete_ #[T,kt] ty #[.map (some b),enc k]).run P w=.ok (.tuple #[]) (w.putObj b (.map es' clk))/\MapIs enc es' clk (q5H m k):=by
 rcases h.find kl w k with⟨h1,h2,h3⟩ | ⟨v0,j,e,h1,h2,h3,h4,h5⟩
 ·refine⟨es,?_,?_⟩
  ·simp[Builtin.delete_,run_underlying hT,MapKept.run_getObj_map hb,kl.check,h2,MapKept.run_setObj_map _ hb,Result.andThen]
   rfl
  ·have e:q5H m k=m:=by
    unfold q5H
    rw[List.filter_eq_self]
    intro p hp
    simpa using Yw.1 h1 p hp
   rw[e];exact h
 ·refine⟨es.eraseIdxIfInBounds j,?_,MapKept.stamped_erase h.st j,?_⟩
  ·simp[Builtin.delete_,run_underlying hT,MapKept.run_getObj_map hb,kl.check,h2,MapKept.run_setObj_map _ hb,Result.andThen]
   rfl
  ·have hj:j<es.size:=(Array.getElem?_eq_some_iff.1 h3).1
   have e0:es.eraseIdxIfInBounds j=es.eraseIdx j hj:=by simp[Array.eraseIdxIfInBounds,hj]
   have hl:(es.eraseIdxIfInBounds j).toList=es.toList.eraseIdx j:=by rw[e0];simp
   have hf:es.toList.eraseIdx j=es.toList.filter fun x=>x.key≠enc k:=by
    have hnd:=h.st.2.2
    have hg:es.toList[j]?=some e:=by simpa using h3
    obtain⟨hlt,hge⟩:=List.getElem?_eq_some_iff.1 hg
    have hsp:es.toList=es.toList.take j++e::es.toList.drop (j+1):=by
     rw[<-hge,List.getElem_cons_drop,List.take_append_drop]
    have hne:∀ x∈es.toList.take j++es.toList.drop (j+1),x.key≠enc k:=fun x hx hk=>by
     rw[hsp,List.map_append,List.map_cons]at hnd
     rw[List.mem_append]at hx
     have hnd2:=List.nodup_append.1 hnd
     rcases hx with hx | hx
     ·exact hnd2.2.2 _ (List.mem_map.2 ⟨x,hx,rfl⟩) e.key (List.mem_cons_self ..) (hk.trans h4.symm)
     ·exact(List.nodup_cons.1 hnd2.2.1).1 (List.mem_map.2 ⟨x,hx,by rw[hk,h4]⟩)
    rw[List.eraseIdx_eq_take_drop_succ]
    conv=>rhs;rw[hsp]
    rw[List.filter_append,List.filter_cons,if_neg (by simp[h4])]
    rw[List.filter_eq_self.2 fun x hx=>by simpa using hne x (List.mem_append_left _ hx),List.filter_eq_self.2 fun x hx=>by simpa using hne x (List.mem_append_right _ hx)]
   rw[hl,hf]
   have e1:(es.toList.filter fun x=>x.key≠enc k).map (fun e=>(e.key,e.val))=(es.toList.map fun e=>(e.key,e.val)).filter fun q=>q.1≠enc k:=by
    rw[List.filter_map];rfl
   have e2:(q5H m k).map (fun p=>(enc p.1,p.2))=(m.map fun p=>(enc p.1,p.2)).filter fun q=>q.1≠enc k:=by
    unfold q5H
    rw[List.filter_map]
    congr 1
    apply List.filter_congr
    intro p _
    simp only[Function.comp_def]
    by_cases hp:p.1=k
    ·simp[hp]
    ·have:enc p.1≠enc k:=fun e=>hp (kl.inj e)
     simp[hp,this]
   rw[e1,e2]
   exact h.perm.filter _
end Go.Fx
namespace Go.Fx.Tryz
open Go Go.Fx Go.Fx.Ch
open Go.Proofs
set_option linter.all false
set_option maxRecDepth 20000
abbrev PL:=Int × Int
def vN(p:PL):Value:=.agg #[U p.1,J p.2]
theorem jT:P.underlying 142=some (.struct (P.fieldsOf 142)):=kr
theorem JN : P.fieldsOf 142 = #[{ name := "id", type := 24, offset := 0, embedded := false, tag := "", pkgPath := "candling/cache", byteOffset := 0 }, { name := "slot", type := 3, offset := 1, embedded := false, tag := "", pkgPath := "candling/cache", byteOffset := 8 }] := by kernel_rfl
theorem qxR(w:World)(x:PL):(part 24 #[U x.1,J x.2] 0).run P w=.ok (U x.1) w/\(part 3 #[U x.1,J x.2] 1).run P w=.ok (J x.2) w:=⟨by kernel_rfl,by kernel_rfl⟩
theorem qLE(w:World)(x y:PL):(Op.equal 142 (vN x) (vN y)).run P w=.ok (x==y) w:=by
 unfold Op.equal
 have h3:∀ d (x y:Int),(Op.equalIn (d+1) 3 (.int .i64 x) (.int .i64 y)).run P w=.ok (x==y) w:=fun d x y=>by simp[Op.equalIn,run_underlying Tryz.underlying3]
 have h24:∀ d (x y:Int),(Op.equalIn (d+1) 24 (.int .u32 x) (.int .u32 y)).run P w=.ok (x==y) w:=fun d x y=>by simp[Op.equalIn,run_underlying Tryz.underlying24]
 have hm:∃ d,Op.maxDepth=d+3:=⟨_,rfl⟩
 obtain⟨d,hd⟩:=hm
 unfold vN
 rw[hd,run_equalIn_struct w (d+2) 142 _ _ jT Tryz.stoodInHeld142,JN]
 obtain⟨a0,a1⟩:=qxR w x
 obtain⟨b0,b1⟩:=qxR w y
 simp only[Op.eqFields,ne_eq,String.reduceEq,not_false_eq_true,if_true,Sem.run_bind,a0,b0,h3,h24,Result.andThen_ok]
 obtain⟨x1,x2⟩:=x
 obtain⟨y1,y2⟩:=y
 by_cases e0:x1=y1<;>by_cases e1:x2=y2<;>simp_all
theorem q1t{a b:PL}(h:vN a=vN b):a=b:=by
 obtain⟨a1,a2⟩:=a
 obtain⟨b1,b2⟩:=b
 simp[vN]at h
 simp[h]
theorem YD:q6q P 142 vN where
 check w em k:=by
  obtain⟨a0,a1⟩:=qxR w k
  have Jp:∀ x,(Instr.checkKey em 9999 24 (U x)).run P w=.ok () w:=fun x=>MapKept.run_checkKey Tryz.underlying24 (by simp[MapKept.IsKey]) em 9998
  have c3:∀ x,(Instr.checkKey em 9999 3 (J x)).run P w=.ok () w:=fun x=>MapKept.run_checkKey Tryz.underlying3 (by simp[MapKept.IsKey]) em 9998
  unfold vN
  unfold Instr.checkKey
  rw[Sem.run_bind,run_underlying jT,Result.andThen_ok,JN]
  simp[a0,a1,Jp,c3]
 find w k es hes:=by
  have h0:∀ (l:List MapEntry) (i:Nat),(∀ e∈l,∃ x,e.key=vN x)->((Instr.findAsking 142 (vN k) l i).run P w=.ok none w/\∀ e∈l,e.key≠vN k)\/
    ∃ j e,(Instr.findAsking 142 (vN k) l i).run P w=.ok (some (i+j,e.val)) w/\l[j]?=some e/\e.key=vN k:=by
   intro l
   induction l with
   | nil=>intro i _;exact .inl ⟨by simp[Instr.findAsking],by simp⟩
   | cons e r ih=>
    intro i he
    obtain⟨x,hx⟩:=he e (by simp)
    have hq:=qLE w k x
    rw[<-hx]at hq
    by_cases hk:k=x
    ·refine .inr ⟨0,e,?_,rfl,by rw[hx,hk]⟩
     unfold Instr.findAsking
     have hkt:(k==x)=true:=by simpa using hk
     rw[hkt]at hq
     simp[hq]
    ·have hkf:(k==x)=false:=by simpa using hk
     rcases ih (i+1) (fun e he'=>he e (by simp[he']))with⟨h1,h2⟩ | ⟨j,e',h1,h2,h3⟩
     ·refine .inl ⟨?_,fun e' he' hc=>?_⟩
      ·unfold Instr.findAsking
       simp[hq,hkf,h1]
      ·rcases List.mem_cons.1 he' with rfl | he'
       ·rw[hx]at hc;exact hk (q1t hc).symm
       ·exact h2 e' he' hc
     ·refine .inr ⟨j+1,e',?_,by simpa using h2,h3⟩
      unfold Instr.findAsking
      simp[hq,hkf,h1]
      omega
  have hfk:∀ r,(Instr.findAsking 142 (vN k) es 0).run P w=.ok r w->(es=[]->r=none)->(Instr.findKey 142 (vN k) es).run P w=.ok r w:=fun r hr h0=>by
   unfold Instr.findKey
   rw[Sem.run_bind,run_underlying jT,Result.andThen_ok]
   cases es with
   | nil=>simp[Instr.findNow,h0 rfl]
   | cons e t=>
    obtain⟨x,hx⟩:=hes e (by simp)
    have:Instr.findNow (.struct (P.fieldsOf 142)) (vN k) (e::t) 0=none:=by simp[Instr.findNow,Instr.sameNow,vN,hx]
    rw[this];exact hr
  rcases h0 es 0 hes with⟨h1,h2⟩ | ⟨j,e,h1,h2,h3⟩
  ·exact .inl ⟨hfk _ h1 (fun _=>rfl),h2⟩
  ·exact .inr ⟨j,e,hfk _ (by simpa using h1) (fun h=>by rw[h]at h2;simp at h2),h2,h3⟩
 stays w x:=by simp[Instr.keyThatStays,Instr.sameBits,vN]
 inj:=q1t
theorem QL:q6q P 24 (fun x:Int=>Value.int .u32 x):=qx4 Tryz.underlying24
end Go.Fx.Tryz
namespace Go.Fx.Ch
section
variable {K V:Type} [DecidableEq K]
def lk(m:List (K × V))(k:K):Option V:=(m.find? fun p=>p.1==k).map (·.2)
def pt(m:List (K × V))(k:K)(v:V):List (K × V):=match lk m k with
 | some _=>m.map fun p=>if p.1=k then(p.1,v)else p
 | none=>m++[(k,v)]
def dl(m:List (K × V))(k:K):List (K × V):=m.filter fun p=>p.1≠k
end
structure TR where
 at_:Int
 sp:List (Int × Int)
 code:List Int
 deriving DecidableEq
def TR.zero:TR:=⟨0,[],[]⟩
structure qd where
 len:Int
 k:Nat
 items:List (Int × TR)
 rows:List (List Int)
 table:List Int
 hold:List (Int × List (Int × Int))
 cur:Nat
 given:Int
 ev:Int
 dr:Int
 deriving DecidableEq
def qj(items:List (Int × TR))(id:Int):TR:=(lk items id).getD TR.zero
def qk(t:List Int)(i:Nat):Int:=(t[i]?).getD 0
def vG(items:List (Int × TR))(t:List Int)(k:Nat)(at_:Int)(frm:Nat):Nat->Nat->Int × Nat
 | 0,n=>(0,n)
 | f+1,n=>if qk t ((frm+n) % 2 ^ k)=0 then(0,n+1)
  else if(qj items (qk t ((frm+n) % 2 ^ k))).at_=at_ then(qk t ((frm+n) % 2 ^ k),n+1)else vG items t k at_ frm f (n+1)
def zE(s:qd)(at_:Int):Int × Nat:=vG s.items s.table s.k at_ (ze s.k at_).toNat (2 ^ s.k) 0
def Zi(k:Nat)(id:Int)(frm:Nat)(t:List Int):Nat->Nat->List Int
 | 0,_=>t
 | f+1,n=>if qk t ((frm+n) % 2 ^ k)=0 then t.set ((frm+n) % 2 ^ k) id else Zi k id frm t f (n+1)
def v8(s:qd)(id:Int):List Int:=Zi s.k id (ze s.k (qj s.items id).at_).toNat s.table (2 ^ s.k) 0
def far(k:Nat)(a b:Int):Int:=(b-a) % 2 ^ k
def yq(items:List (Int × TR))(k:Nat)(id:Int)(frm:Nat):Nat->Nat->Option Nat->List Int->List Int
 | 0,_,_,t=>t
 | f+1,n,none,t=>if qk t ((frm+n) % 2 ^ k)=id then yq items k id frm f (n+1) (some ((frm+n) % 2 ^ k)) (t.set ((frm+n) % 2 ^ k) 0)else yq items k id frm f (n+1) none t
 | f+1,n,some h,t=>if qk t ((frm+n) % 2 ^ k)=0 then t
  else if far k (ze k (qj items (qk t ((frm+n) % 2 ^ k))).at_) ((frm+n) % 2 ^ k:Nat)<far k h ((frm+n) % 2 ^ k:Nat)then yq items k id frm f (n+1) (some h) t
  else yq items k id frm f (n+1) (some ((frm+n) % 2 ^ k)) ((t.set h (qk t ((frm+n) % 2 ^ k))).set ((frm+n) % 2 ^ k) 0)
def zH(s:qd)(id:Int):List Int:=yq s.items s.k id (ze s.k (qj s.items id).at_).toNat (2 ^ s.k) 0 none s.table
def q01(hold:List (Int × List (Int × Int)))(p:Int × Int)(c:Int):List (Int × List (Int × Int)):=if c=0 then hold else
 pt hold c (if p∈(lk hold c).getD []then(lk hold c).getD []else(lk hold c).getD []++[p])
def zd(hold:List (Int × List (Int × Int)))(p:Int × Int)(c:Int):List (Int × List (Int × Int)):=
 if((lk hold c).getD []).filter (fun q=>q≠p)=[]then dl hold c else pt hold c (((lk hold c).getD []).filter fun q=>q≠p)
def ju(bs:List Int)(slot c:Int):List Int:=match zg bs with
 | none=>[]
 | some l=>if(l.any fun e=>e.slot==slot)=true then zK bs slot.toNat c else[]
def zf(items:List (Int × TR))(p:Int × Int)(c:Int):List (Int × TR):=pt items p.1 { qj items p.1 with code:=ju (qj items p.1).code p.2 c }
def qC(items:List (Int × TR))(id:Int):List EX:=(zg (qj items id).code).getD []
def qO(id:Int):List (Int × Int)->qd->qd
 | [],s=>s
 | p::l,s=>qO id l { s with items:=zf s.items p 0,hold:=zd s.hold p id }
def qM(id:Int):List EX->qd->qd
 | [],s=>s
 | x::l,s=>qM id l (if x.chain=0 then s else { s with hold:=zd s.hold (id,x.slot) x.chain })
def forget1(order:List (Int × Int))(s:qd)(id:Int):qd:=
 let s2:=qM id (qC (qO id order s).items id) (qO id order s)
 { s2 with table:=zH s2 id,rows:=s2.rows.map fun r=>r.filter fun n=>n≠id,items:=dl s2.items id }
inductive zp:qd->List Int->qd->Prop
 | nil (s:qd):zp s [] s
 | cons {s s':qd} {id:Int} {l:List Int} {order:List (Int × Int)}:order.Perm ((lk s.hold id).getD [])->zp (forget1 order s id) l s'->zp s (id::l) s'
def zw(s:qd)(c:Nat):Int:=(((s.rows[c]?).getD []).map fun id=>((qj s.items id).code.length:Int)).sum
def vj(s:qd):Nat:=2 ^ s.k / 4*3
def zL(l:List Int):List Int:=l.mergeSort fun a b=>decide (a<=b)
def jr(s:qd)(n:Nat):Bool:=decide (zw s s.cur+n > s.len)||decide (vj s<=s.items.length)
def qy(s:qd):qd:={ s with cur:=(s.cur+1) % s.rows.length }
def zO(s:qd):List Int:=zL ((s.rows[s.cur]?).getD [])
inductive yg (n:Nat):qd->List Int->qd->Prop
 | done {s:qd}:jr s n=false->yg n s [] s
 | step {s s2 s':qd} {gone:List Int}:jr s n=true->zp (qy s) (zO (qy s)) s2->yg n { s2 with ev:=s2.ev+(zO (qy s)).length } gone s'->yg n s (zO (qy s)++gone) s'
def zR(s:qd)(t:TR):qd:=
 let s1:={ s with given:=s.given+1,items:=pt s.items (s.given+1) t,rows:=s.rows.modify s.cur fun r=>r++[s.given+1] }
 { s1 with table:=v8 s1 (s.given+1) }
def vO(sec:Nat)(len:Int)(k:Nat):qd:=⟨len,k,[],List.replicate sec [],List.replicate (2 ^ k) 0,[],0,0,0,0⟩
section
variable {K V W:Type} [DecidableEq K]
def yP(R:V->W->Prop):List (K × V)->List (K × W)->Prop
 | [],[]=>True
 | a::l,b::m=>a.1=b.1/\R a.2 b.2/\yP R l m
 | _,_=>False
variable {R:V->W->Prop} {l:List (K × V)} {m:List (K × W)}
theorem yP.length:∀ {l:List (K × V)} {m:List (K × W)},yP R l m->l.length=m.length
 | [],[],_=>rfl
 | _::_,_::_,h=>by simp[yP.length h.2.2]
theorem yP.lk:∀ {l:List (K × V)} {m:List (K × W)},yP R l m->∀ k,(lk l k=none/\lk m k=none)\/∃ v u,lk l k=some v/\lk m k=some u/\R v u
 | [],[],_,k=>.inl ⟨rfl,rfl⟩
 | (a,v)::l,(b,u)::m,h,k=>by
  obtain⟨h1,h2,h3⟩:=h
  simp only at h1 h2
  subst h1
  unfold Ch.lk
  simp only[List.find?_cons]
  by_cases hk:a=k
  ·subst hk
   exact .inr ⟨v,u,by simp,by simp,h2⟩
  ·have:(a==k)=false:=by simpa using hk
   rw[this]
   exact yP.lk h3 k
theorem yP.mono{R':V->W->Prop}(hR:∀ v u,R v u->R' v u):∀ {l:List (K × V)} {m:List (K × W)},yP R l m->yP R' l m
 | [],[],_=>trivial
 | _::_,_::_,h=>⟨h.1,hR _ _ h.2.1,h.2.2.mono hR⟩
theorem yP.append:∀ {l:List (K × V)} {m:List (K × W)} {l':List (K × V)} {m':List (K × W)},yP R l m->yP R l' m'->yP R (l++l') (m++m')
 | [],[],_,_,_,h=>h
 | _::_,_::_,_,_,h,h'=>⟨h.1,h.2.1,h.2.2.append h'⟩
theorem yP.map_if{k:K}{v:V}{u:W}(hv:R v u):∀ {l:List (K × V)} {m:List (K × W)},yP R l m->yP R (l.map fun p=>if p.1=k then(p.1,v)else p) (m.map fun p=>if p.1=k then(p.1,u)else p)
 | [],[],_=>trivial
 | (a,x)::l,(b,y)::m,h=>by
  obtain⟨h1,h2,h3⟩:=h
  simp only at h1 h2
  subst h1
  simp only[List.map_cons]
  by_cases hk:a=k
  ·simp only[hk,if_true];exact⟨rfl,hv,yP.map_if hv h3⟩
  ·simp only[hk,if_false];exact⟨rfl,h2,yP.map_if hv h3⟩
theorem yP.pt(h:yP R l m){k:K}{v:V}{u:W}(hv:R v u):yP R (pt l k v) (pt m k u):=by
 unfold Ch.pt
 rcases h.lk k with⟨h1,h2⟩ | ⟨x,y,h1,h2,_⟩
 ·rw[h1,h2];exact h.append ⟨rfl,hv,trivial⟩
 ·rw[h1,h2];exact h.map_if hv
theorem yP.dl{k:K}:∀ {l:List (K × V)} {m:List (K × W)},yP R l m->yP R (dl l k) (dl m k)
 | [],[],_=>trivial
 | (a,x)::l,(b,y)::m,h=>by
  obtain⟨h1,h2,h3⟩:=h
  simp only at h1 h2
  subst h1
  unfold Ch.dl
  simp only[List.filter_cons]
  by_cases hk:a=k
  ·simp only[hk,ne_eq,not_true,decide_false,Bool.false_eq_true,if_false];exact yP.dl h3
  ·simp only[hk,ne_eq,not_false_eq_true,decide_true,if_true];exact⟨rfl,h2,yP.dl h3⟩
end
end Go.Fx.Ch
namespace Go.Fx
open Go.Fx.Ch
variable {K:Type} [DecidableEq K]
theorem vu(m:List (K × Value))(k:K):jB m k=lk m k:=rfl
theorem qjU(m:List (K × Value))(k:K)(v:Value):q9M m k v=pt m k v:=by
 unfold q9M pt
 rw[vu]
 cases lk m k<;>rfl
theorem qnD(m:List (K × Value))(k:K):q5H m k=dl m k:=rfl
end Go.Fx
namespace Go.Fx.Tryz
open Go Go.Fx Go.Fx.Ch
open Go.Proofs
set_option linter.all false
set_option maxRecDepth 20000
variable {w0 w:World} {H:qE} {K:KT}
theorem zo{k:Nat}(h4:4<=k)(h16:k<=16):16<=2 ^ k/\2 ^ k<=65536:=by
 rcases Qj h4 h16 with rfl | rfl | rfl | rfl | rfl | rfl | rfl | rfl | rfl | rfl | rfl | rfl | rfl<;>decide
theorem qry{k n:Nat}(h4:4<=k)(h16:k<=16)(hn:n<1000000) :
  IntKind.wrap .i64 ((BitVec.ofInt (IntKind.bits .i64) ((n:Nat):Int) &&& BitVec.ofInt (IntKind.bits .i64) (IntKind.wrap .i64 (((2 ^ k:Nat):Int)-1))).toNat:Int)=((n % 2 ^ k:Nat):Int):=by
 have hp:=zo h4 h16
 have e1:((2 ^ k:Nat):Int)-1=((2 ^ k-1:Nat):Int):=by omega
 rw[e1,qc (x:=((2 ^ k-1:Nat):Int)) om om]
 have e:(BitVec.ofInt (IntKind.bits .i64) ((n:Nat):Int) &&& BitVec.ofInt (IntKind.bits .i64) ((2 ^ k-1:Nat):Int)).toNat=n % 2 ^ k:=by
  show(BitVec.ofInt 64 ((n:Nat):Int) &&& BitVec.ofInt 64 ((2 ^ k-1:Nat):Int)).toNat=_
  rw[BitVec.toNat_and,BitVec.ofInt_natCast,BitVec.ofInt_natCast,BitVec.toNat_ofNat,BitVec.toNat_ofNat,Nat.mod_eq_of_lt om,Nat.mod_eq_of_lt om,Nat.and_two_pow_sub_one_eq_mod]
 have hlt:n % 2 ^ k<2 ^ k:=Nat.mod_lt _ om
 rw[e,qc om om]
theorem qbF{v0:Value}{a1 a2 ca:Addr}{k from_:Nat}(h4:4<=k)(h16:k<=16)(hfr:from_<2 ^ k)(I:Nat->World->Prop)(Dn:World->Prop)(hd:∀ i W,I i W->I i W.drew)
  (hc:∀ i W,I i W->W.cell? a1=some (.pointer (some ca))/\W.cell? a2=some (J from_)/\W.cell? (ca.add 2)=some (J (2 ^ k:Nat))) (h0:I 0 w)
  (hy:∀ i:Nat,i<2 ^ k->∀ W,I i W->yO P v0 [J ((from_+i) % 2 ^ k:Nat)] W fun r W'=>∃ b,r=.bool b/\if b=true then I (i+1) W' else Dn W')
  (hK:∀ W,I (2 ^ k) W\/Dn W->K (.tuple #[]) W):q9 P 153 [v0,.pointer (some a1),.pointer (some a2)] w K:=by
 have hp:=zo h4 h16
 refine qDf _ _ _ _ _ ?_
 rw[qyG]
 refine⟨some ca,(hc 0 w h0).1,((2 ^ k:Nat):Int),(hc 0 w h0).2.2,?_⟩
 refine⟨fun m e w=>∃ i:Nat,i<=2 ^ k/\m=2 ^ k-i/\e=qi.mk 27 [(10,J i),(1,.pointer (some a1)),(2,.pointer (some a2)),(0,v0),(9,J (2 ^ k:Nat))] []/\I i w,⟨2 ^ k,0,by omega,by omega,rfl,h0⟩,?_⟩
 rintro m e W ⟨i,hi,rfl,rfl,hI⟩
 show q8Q ..
 rw[qbS,qg]
 refine⟨fun hlt=>?_,fun hge=>?_⟩
 ·have hlt:i<2 ^ k:=by have:=of_decide_eq_true hlt;omega
  rw[qfS]
  have hI':=hd i W hI
  obtain⟨c1,c2,c3⟩:=hc i _ hI'
  refine⟨_,c2,_,c1,_,c3,?_⟩
  have e:IntKind.wrap .i64 ((from_:Int)+(i:Int))=((from_+i:Nat):Int):=by rw[qc om om];omega
  rw[e,qry h4 h16 om]
  refine vY ?_ (hy i hlt _ hI')
  rintro r W' ⟨b,rfl,hb⟩
  refine⟨b,rfl,?_⟩
  rw[qdX]
  cases b with
  | false=>simp only[Bool.not_false,qe];exact hK _ (.inr (by simpa using hb))
  | true=>
   simp only[Bool.not_true,qb]
   rw[qgp]
   exact⟨2 ^ k-(i+1),by omega,i+1,by omega,rfl,by rw[qc om om];rfl,by simpa using hb⟩
 ·have:i=2 ^ k:=by have:=of_decide_eq_false hge;omega
  subst this
  exact hK _ (.inl hI)
theorem qMS:yu P 153=true:=kr
theorem Zh{KK:Exit->YT}{e:qi}{round:Nat->(LoopState->Option Code->Loop)->(Option Code->World->Prop)->List Value->World->Prop}{k from_:Nat}{ca:Addr}(h4:4<=k)(h16:k<=16)(hfr:from_<2 ^ k)
  (h:St w0 w H) {b1 b2:Nat} {t1 t2:TypeId} (I:Nat->List (Nat × Obj)->Prop) (D:Code->List (Nat × Obj)->Prop) (I0:I 0 H)
  (hI:∀ i H',I i H'->(b1,Cs [.pointer (some ca)] t1)∈H'/\(b2,Cs [J from_] t2)∈H'/\∃ cs tc,ca.spot=none/\(ca.block,Cs cs tc)∈H'/\cs[ca.off+2]?=some (J (2 ^ k:Nat)))
  (hround:∀ l l' R post (i:Nat) W H',i<2 ^ k->I i H'->St w0 W ((l,.loop (R .ready none))::(l',.deferred (some []))::H')->w0.heap.size<=l->w0.heap.size<=l'->
   (∀ W' H'',I (i+1) H''->St w0 W' ((l,.loop (R .ready none))::(l',.deferred (some []))::H'')->post none W')->
   (∀ c W' H'',D c H''->St w0 W' ((l,.loop (R .done (some c)))::(l',.deferred (some []))::H'')->post (some c) W')->
   round l R post [J ((from_+i) % 2 ^ k:Nat)] W)
  (hend:∀ W H' l',w0.heap.size<=l'->I (2 ^ k) H'->St w0 W ((l',.deferred (some []))::H')->KK .normal { e with d:=mk l'::e.d } W)
  (hexit:∀ c W H' l',w0.heap.size<=l'->D c H'->St w0 W ((l',.deferred (some []))::H')->qd4 KK { e with d:=mk l'::e.d } W (some c)) :
  Q6 P KK e w (.func (.func 153) #[] #[.pointer (some (Addr.mk b1 0 none)),.pointer (some (Addr.mk b2 0 none))]) round:=by
 refine⟨qMS,fun R hy=>?_⟩
 have h1:=(h.alloc (.deferred (some []))).alloc (.loop (R .ready none))
 have hsz:(w.alloc (.deferred (some []))).heap.size=w.heap.size+1:=by simp
 rw[hsz]at h1
 have hle:w0.heap.size<=w.heap.size:=h.le
 refine qbF h4 h16 hfr (ca:=ca) (from_:=from_) (fun i W=>∃ H',I i H'/\St w0 W ((w.heap.size+1,.loop (R .ready none))::(w.heap.size,.deferred (some []))::H'))
  (fun W=>∃ c H',D c H'/\St w0 W ((w.heap.size+1,.loop (R .done (some c)))::(w.heap.size,.deferred (some []))::H')) ?_ ?_ ⟨H,I0,h1⟩ ?_ ?_
 ·rintro i W ⟨H',hi,hs⟩;exact⟨H',hi,hs.drew⟩
 ·rintro i W ⟨H',hi,hs⟩
  obtain⟨m1,m2,cs,tc,hsp,m3,hc⟩:=hI i H' hi
  refine⟨qw (hs.has _ _ (.tail _ (.tail _ m1))),qw (hs.has _ _ (.tail _ (.tail _ m2))),?_⟩
  obtain⟨cb,co,csp⟩:=ca
  simp only at hsp
  subst hsp
  rw[qa,qw (hs.has _ _ (.tail _ (.tail _ m3)))]
  exact hc
 ·rintro i hi W ⟨H',hIi,hs⟩
  refine vY ?_ (hy [J ((from_+i) % 2 ^ k:Nat)] W (fun j W'=>match j with
   | none=>∃ H'',I (i+1) H''/\St w0 W' ((w.heap.size+1,.loop (R .ready none))::(w.heap.size,.deferred (some []))::H'')
   | some c=>∃ H'',D c H''/\St w0 W' ((w.heap.size+1,.loop (R .done (some c)))::(w.heap.size,.deferred (some []))::H''))
   (hround _ _ R _ i W H' hi hIi hs om om (fun W' H'' h1 h2=>⟨H'',h1,h2⟩) (fun c W' H'' h1 h2=>⟨H'',h1,h2⟩)) (hs.get (k:=0) rfl))
  rintro v W' ⟨j,rfl,hj⟩
  cases j with
  | none=>exact⟨true,rfl,by simpa using hj⟩
  | some c=>exact⟨false,rfl,by simp;obtain⟨H'',h1,h2⟩:=hj;exact⟨c,H'',h1,h2⟩⟩
 ·rintro W (⟨H',hIi,hs⟩ | ⟨c,H',hJ,hs⟩)
  ·refine⟨.ready,none,hs.get (k:=0) rfl,by simp,?_⟩
   exact hend _ H' _ hle hIi ((hs.put (k:=0) rfl _).tail om)
  ·refine⟨.done,some c,hs.get (k:=0) rfl,by simp,?_⟩
   exact hexit c _ H' _ hle hJ ((hs.put (k:=0) rfl _).tail om)
end Go.Fx.Tryz
