/- A part of the proof. -/
import Derived.Test.YtepbaneageipfaaGreatDoorKaEf
import Derived.KernelRfl
import Derived.Test.YtepbaneageipfaaGreatDoorKeEf
import Derived.Test.YtepbaneageipfaaGreatDoorKdEf
set_option linter.all false
set_option autoImplicit true
set_option relaxedAutoImplicit true
noncomputable section
namespace Go.Fx.Tryz
set_option maxRecDepth 100000
open Go Go.Fx Go.Proofs
def c69:=ql Tryz.f69
def qNx:=Tryz.f69.results.toList
abbrev Q5 K:=qr P qNx K
def f69 a w K:=CS P c69 none [2] [2] (Q5 K) (qz 30 [(Value.agg a)]) w
def qvk a w K:=SC c69 1 [2] [2] (Q5 K) 30 [(0,Value.agg a)] w
abbrev qGs K:=kq c69 1 [2] [2] (Q5 K)
def qw9 a b w K:=SC c69 3 [2] [2] (Q5 K) 30 [(2,VB false),(1,VQ a),(0,Value.agg b)] w
abbrev qeB K:=kq c69 3 [2] [2] (Q5 K)
abbrev qFD K:=kq c69 6 [1,2] [2] (qeB K)
def Jq a b c w K:=SG c69 13 [1,2] [2] (qeB K) 30 [(21,VB a),(1,VQ b),(2,VB c)] w
def qwe a b w K:=SG c69 7 [2] [2] (Q5 K) 30 [(1,VQ a),(2,VB b)] w
abbrev q2f K:=kq c69 7 [2] [2] (Q5 K)
abbrev qHY K:=kq c69 14 [] [2] (q2f K)
def qur a b c w K:=SC c69 29 [] [2] (q2f K) 30 [(3,VI a),(1,VQ b),(2,VB c)] w
abbrev qgk K:=qo 0 (q2f K)
def qyN K Y5 e w:=zt (fun e w=>CS P (cA c69 116) none [3,1,2] [2] (qv [3,1,2] Y5 (qgk K)) e w) e w
abbrev Vl K Y5:=qv [3,1,2] Y5 (qgk K)
def qn4 a b c w K Y5:=SG c69 116 [3,1,2] [2] (Vl K Y5) 30 [(3,VI a),(1,VQ b),(2,VB c)] w
abbrev qsZ K Y5:=kq c69 116 [3,1,2] [2] (Vl K Y5)
abbrev qFS K Y5:=kq c69 232 [1,3,2] [2] (qsZ K Y5)
def qwQ a b c w K Y5:=SG c69 233 [3,1,2] [2] (Vl K Y5) 30 [(1,VQ a),(3,VI b),(2,VB c)] w
abbrev qxd K Y5:=kq c69 233 [3,1,2] [2] (Vl K Y5)
abbrev qkU K Y5:=qo 1 (qxd K Y5)
abbrev qzl K Y5:=kq c69 932 [1,2,3] [2,1,3] (qkU K Y5)
def qud a b c w K Y5:=SG c69 467 [3,1,2] [2] (Vl K Y5) 30 [(1,VQ a),(2,VB b),(3,VI c)] w
theorem qpl:qud a c d w K Y5=(Y5 (qi.mk 30 [(3,(Value.int .i64 (IntKind.wrap .i64 (d*2)))),(1,(Value.pointer (some a))),(2,(Value.bool c))] []) w):=qE kr
theorem qq1:qwQ c d e w K Y5=(∃ f:Int,w.cell? (c.add 2)=some (.int .i64 f)/\qp (f==d) (K (Value.bool true) w) (qud c e d w K Y5)):=qE (qI [1,2,3] (qxd K Y5) (Q9 1 [2,1,3] (qkU K Y5) (qI [29,1,3,2] (qzl K Y5) kr)))
def qsd w K:=SG c69 15 [2] [2] (Q5 K) 30 [] w
abbrev qAq K:=kq c69 15 [2] [2] (Q5 K)
theorem qoy:qsd w K=(K (Value.bool false) w):=qE (qI [2] (qAq K) kr)
theorem qh8:qn4 c d e w K Y5=(qp (decide (c<=65536)) (qwQ d c e w K Y5) (qsd w K)):=qE (qI [1,3,2] (qsZ K Y5) (qI [23,1,3,2] (qFS K Y5) kr))
theorem qpJ:qur a c d w K=(qN (qyN K) (qi.mk 30 [(3,(Value.int .i64 a)),(1,(Value.pointer (some c))),(2,(Value.bool d))] []) w):=Eq.trans (b:=CS P (cA c69 29) none [] [2] (q2f K) (qi.mk 30 [(3,(VI a)),(1,(VP (some c))),(2,(VB d))] []) w) kr (Eq.trans (Ze 0 [2] (qgk K) kr) ((qT (b:=(cA c69 116)) (X':=[2]) (H:=[3,1,2]) kr kr kr).trans kr))
theorem qpm:qwe c d w K=(qur 16 c d w K):=qE (qI [] (q2f K) (qI [3,1,2] (qHY K) kr))
theorem q44:Jq a c d w K=(qp a (K (Value.bool false) w) (qwe c d w K)):=qE kr
theorem qpV:qw9 c d w K=(∃ e:Int,w.cell? c=some (.int .i64 e)/\qp (decide (e<1)) (Jq true c false w K) (∃ f:Int,w.cell? c=some (.int .i64 f)/\qp (decide (f > 16)) (Jq true c false w K) (∃ g:Int,w.cell? (c.add 1)=some (.int .i64 g)/\qp (decide (g<256)) (Jq true c false w K) (∃ h:Int,w.cell? (c.add 1)=some (.int .i64 h)/\Jq (decide (h > 1048576)) c false w K)))):=Eq.trans (b:=CS P (cA c69 3) none [2] [2] (Q5 K) (qi.mk 30 [(2,(VB false)),(1,(VP (some c))),(0,(Value.agg d))] []) w) kr (Eq.trans (zd [1,2] (qeB K) kr) (Eq.trans (zd [21,1,2] (qFD K) kr) kr))
theorem qqv:qvk c w K=(qu c 27 w (fun d e=>qw9 (Addr.mk d 0 none) c e K)):=Eq.trans (b:=CS P (cA c69 1) none [2] [2] (Q5 K) (qi.mk 30 [(0,(Value.agg c))] []) w) kr (Eq.trans (zd [1,2] (qGs K) kr) kr)
theorem qJb:f69 a w K=(qvk a w K):=kr
theorem qI5 a w K(h:f69 a w K):q9 P 69 [(Value.agg a)] w K:=qA c69 Tryz.func69 h
def c6:=ql Tryz.f6
def rs6:=Tryz.f6.results.toList
abbrev yC K:=qr P rs6 K
def f6 a b c d w K:=CS P c6 none [4] [4] (yC K) (qz 97 [(Value.agg a),(VS b c d)]) w
def qEK a b c d w K:=SC c6 1 [4] [4] (yC K) 97 [(0,Value.agg a),(1,VS b c d)] w
abbrev qLE K:=kq c6 1 [4] [4] (yC K)
def qEz a b c d e w K:=SC c6 3 [4] [4] (yC K) 97 [(4,VB false),(2,VQ a),(0,Value.agg b),(1,VS c d e)] w
abbrev qEH K:=kq c6 3 [4] [4] (yC K)
abbrev qJO K:=kq c6 6 [2,4,1] [4] (qEH K)
def qER a b c d f w K:=SG c6 7 [4] [4] (yC K) 97 [(2,VQ a),(4,VB b),(1,VS c d f)] w
abbrev qKU K:=kq c6 7 [4] [4] (yC K)
def qEQ a b c d e f g h i j k l m n o p q w K:=SC c6 15 [4] [4] (yC K) 97 [(6,VB a),(5,VP b),(21,VB c),(20,VP d),(16,(Value.tuple #[(VP e),(VB f)])),(19,(Value.tuple #[(VP g),(VB h)])),(18,VS i j k),(17,Value.agg l),(2,VQ m),(4,VB n),(1,VS o p q)] w
abbrev qrp K:=kq c6 15 [4] [4] (yC K)
abbrev qKZ K:=kq c6 30 [4,5,2] [4] (qrp K)
def qx9 a w K:=SG c6 245 [4,5,2] [4] (qrp K) 97 [(4,VB a)] w
theorem qsv:qx9 a w K=(K (Value.bool a) w):=qE kr
def qEy a b c w K:=SG c6 31 [4] [4] (yC K) 97 [(4,VB a),(5,VP b),(2,VQ c)] w
abbrev qKQ K:=kq c6 31 [4] [4] (yC K)
def qwL a b c d e f w K:=SC c6 63 [4] [4] (yC K) 97 [(7,VQ a),(30,Value.agg b),(29,VP c),(4,VB d),(5,VP e),(2,VQ f)] w
abbrev qL1 K:=kq c6 63 [4] [4] (yC K)
def qEI a b c d e f g w K:=SC c6 127 [4] [4] (yC K) 97 [(8,VI a),(7,VQ b),(30,Value.agg c),(29,VP d),(4,VB e),(5,VP f),(2,VQ g)] w
abbrev q1r K:=kq c6 127 [4] [4] (yC K)
abbrev qJo K:=kq c6 254 [8,5,2,7] [4] (q1r K)
def qES a b c d e f g h w K:=SC c6 509 [8,5,2,7] [4] (q1r K) 97 [(9,VI a),(8,VI b),(7,VQ c),(30,Value.agg d),(29,VP e),(4,VB f),(5,VP g),(2,VQ h)] w
abbrev qfW K:=qo 0 (q1r K)
def qIj K Y9 e w:=zt (fun e w=>CS P (cA c6 2036) none [9,7,4,8,5,2] [4,8,5,2,7] (qv [9,7,4,8,5,2] Y9 (qfW K)) e w) e w
abbrev q3J K Y9:=qv [9,7,4,8,5,2] Y9 (qfW K)
def qtP a b c d f g w K Y9:=SG c6 2036 [9,7,4,8,5,2] [4,8,5,2,7] (q3J K Y9) 97 [(9,VI a),(7,VQ b),(4,VB c),(8,VI d),(5,VP f),(2,VQ g)] w
abbrev qsa K Y9:=kq c6 2036 [9,7,4,8,5,2] [4,8,5,2,7] (q3J K Y9)
abbrev qIB K Y9:=kq c6 4072 [9,7,4,8,5,2] [4,8,5,2,7] (qsa K Y9)
def qro a b c d f g w K Y9:=SG c6 4073 [9,7,4,8,5,2] [4,8,5,2,7] (q3J K Y9) 97 [(9,VI a),(7,VQ b),(4,VB c),(8,VI d),(5,VP f),(2,VQ g)] w
abbrev qvR K Y9:=kq c6 4073 [9,7,4,8,5,2] [4,8,5,2,7] (q3J K Y9)
abbrev YH K Y9:=qo 1 (qvR K Y9)
abbrev qF9 K Y9:=kq c6 16292 [7,4,8,5,2,9] [4,8,5,2,7,9] (YH K Y9)
def qta a b c d e f g w K Y9:=SC c6 32585 [7,4,8,5,2,9] [4,8,5,2,7,9] (YH K Y9) 97 [(10,VI a),(9,VI b),(7,VQ c),(4,VB d),(8,VI e),(5,VP f),(2,VQ g)] w
abbrev q3i K Y9:=kq c6 32585 [7,4,8,5,2,9] [4,8,5,2,7,9] (YH K Y9)
abbrev qIE K Y9:=kq c6 65170 [5,2,7,9,4,10,8] [4,8,5,2,7,9] (q3i K Y9)
def qw6 a b c d e f g h w K Y9:=SC c6 130341 [5,2,7,9,4,10,8] [4,8,5,2,7,9] (q3i K Y9) 97 [(11,VI a),(10,VI b),(9,VI c),(7,VQ d),(4,VB e),(8,VI f),(5,VP g),(2,VQ h)] w
abbrev qh5 K Y9:=qo 2 (q3i K Y9)
def qC7 K Y9 Y13 e w:=zt (fun e w=>CS P (cA c6 521364) none [11,9,7,10,4,8,5,2] [4,8,5,2,7,9,10] (qv [11,9,7,10,4,8,5,2] Y13 (qh5 K Y9)) e w) e w
abbrev YW K Y9 Y13:=qv [11,9,7,10,4,8,5,2] Y13 (qh5 K Y9)
def qjh a b c d f g h i w K Y9 Y13:=SG c6 521364 [11,9,7,10,4,8,5,2] [4,8,5,2,7,9,10] (YW K Y9 Y13) 97 [(11,VI a),(9,VI b),(7,VQ c),(10,VI d),(4,VB f),(8,VI g),(5,VP h),(2,VQ i)] w
abbrev quN K Y9 Y13:=kq c6 521364 [11,9,7,10,4,8,5,2] [4,8,5,2,7,9,10] (YW K Y9 Y13)
abbrev qJ7 K Y9 Y13:=kq c6 1042728 [9,7,4,8,5,2,11,10] [4,8,5,2,7,9,10] (quN K Y9 Y13)
def qtH a b c d f g h i w K Y9 Y13:=SG c6 1042729 [11,9,7,10,4,8,5,2] [4,8,5,2,7,9,10] (YW K Y9 Y13) 97 [(9,VI a),(7,VQ b),(4,VB c),(8,VI d),(5,VP f),(2,VQ g),(11,VI h),(10,VI i)] w
abbrev qrM K Y9 Y13:=kq c6 1042729 [11,9,7,10,4,8,5,2] [4,8,5,2,7,9,10] (YW K Y9 Y13)
abbrev qEX K Y9 Y13:=qo 3 (qrM K Y9 Y13)
def qwG a b c d f g h i w K Y9 Y13:=SG c6 2085459 [11,9,7,10,4,8,5,2] [4,8,5,2,7,9,10] (YW K Y9 Y13) 97 [(9,VI a),(7,VQ b),(10,VI c),(4,VB d),(8,VI f),(5,VP g),(2,VQ h),(11,VI i)] w
theorem qpe:qwG a c d e f g h i w K Y9 Y13=(Y13 (qi.mk 97 [(11,(Value.int .i64 (IntKind.wrap .i64 (i+1)))),(9,(Value.int .i64 a)),(7,(Value.pointer (some c))),(10,(Value.int .i64 d)),(4,(Value.bool e)),(8,(Value.int .i64 f)),(5,(Value.pointer g)),(2,(Value.pointer (some h)))] []) w):=qE kr
theorem qpf:qtH c e f g h i d j w K Y9 Y13=(∃ (k:OA) (l p:Nat),w.cell? (e.add 3)=some (.slice k l p)/\qh k (fun q=>0<=c/\c<(l:Nat)/\∃ (m:OA) (n r:Nat),w.cell? (q.add (Int.toNat c*1))=some (.slice m n r)/\qh m (fun s=>0<=d/\d<(n:Nat)/\∃ (t:OA) (o u:Nat),w.cell? (((s.add (Int.toNat d*4)).add 1).add 2)=some (.slice t o u)/\qwG c e (IntKind.wrap .i64 (j+((o:Nat):Int))) f g h i d w K Y9 Y13))):=qE (qI [9,7,10,4,8,5,2,11] (qrM K Y9 Y13) (Q9 3 [4,8,5,2,7,9,10,11] (qEX K Y9 Y13) kr))
def qx1 a b c d f g h w K Y9:=SG c6 65171 [7,4,8,5,2,9] [4,8,5,2,7,9] (YH K Y9) 97 [(5,VP a),(2,VQ b),(7,VQ c),(9,VI d),(4,VB f),(10,VI g),(8,VI h)] w
abbrev qFz K Y9:=kq c6 65171 [7,4,8,5,2,9] [4,8,5,2,7,9] (YH K Y9)
def qvK a b c d f g w K Y9:=SG c6 8147 [9,7,4,8,5,2] [4,8,5,2,7] (q3J K Y9) 97 [(7,VQ a),(4,VB b),(8,VI c),(5,VP d),(2,VQ f),(9,VI g)] w
theorem qrc:qvK a c d e f g w K Y9=(Y9 (qi.mk 97 [(9,(Value.int .i64 (IntKind.wrap .i64 (g+1)))),(7,(Value.pointer (some a))),(4,(Value.bool c)),(8,(Value.int .i64 d)),(5,(Value.pointer e)),(2,(Value.pointer (some f)))] []) w):=qE kr
theorem qqt:qx1 f d e c g h i w K Y9=(∃ (j:OA) (k n:Nat),w.cell? (e.add 3)=some (.slice j k n)/\qh j (fun o=>0<=c/\c<(k:Nat)/\∃ (p:OA) (l q:Nat),w.cell? (o.add (Int.toNat c*1))=some (.slice p l q)/\∃ m:Int,w.cell? (d.add 1)=some (.int .i64 m)/\qp (decide (h > m)) (K (Value.bool false) w) (qvK e g (IntKind.wrap .i64 (i+((l:Nat):Int))) f d c w K Y9))):=qE (qI [8,5,2,7,9,4,10] (qFz K Y9) kr)
theorem qeo:qjh e c d f g h i j w K Y9 Y13=(∃ (k:OA) (l n:Nat),w.cell? (d.add 3)=some (.slice k l n)/\qh k (fun o=>0<=c/\c<(l:Nat)/\∃ (p:OA) (m q:Nat),w.cell? (o.add (Int.toNat c*1))=some (.slice p m q)/\qp (decide (e<((m:Nat):Int))) (qtH c d g h i j e f w K Y9 Y13) (qx1 i j d c g f h w K Y9))):=qE (qI [9,7,4,8,5,2,11,10] (quN K Y9 Y13) (qI [45,9,7,4,8,5,2,11,10] (qJ7 K Y9 Y13) kr))
theorem qqe:qw6 a c d e f g h i w K Y9=(qN (qC7 K Y9) (qi.mk 97 [(11,(Value.int .i64 a)),(9,(Value.int .i64 d)),(7,(Value.pointer (some e))),(10,(Value.int .i64 c)),(4,(Value.bool f)),(8,(Value.int .i64 g)),(5,(Value.pointer h)),(2,(Value.pointer (some i)))] []) w):=Eq.trans (b:=CS P (cA c6 130341) none [5,2,7,9,4,10,8] [4,8,5,2,7,9] (q3i K Y9) (qi.mk 97 [(11,(VI a)),(10,(VI c)),(9,(VI d)),(7,(VP (some e))),(4,(VB f)),(8,(VI g)),(5,(VP h)),(2,(VP (some i)))] []) w) kr (Eq.trans (Ze 2 [4,8,5,2,7,9,10] (qh5 K Y9) kr) ((qT (b:=(cA c6 521364)) (X':=[4,8,5,2,7,9,10]) (H:=[11,9,7,10,4,8,5,2]) kr kr kr).trans kr))
theorem qoW:qta c d e f g h i w K Y9=(qw6 0 c d e f g h i w K Y9):=Eq.trans (b:=CS P (cA c6 32585) none [7,4,8,5,2,9] [4,8,5,2,7,9] (YH K Y9) (qi.mk 97 [(10,(VI c)),(9,(VI d)),(7,(VP (some e))),(4,(VB f)),(8,(VI g)),(5,(VP h)),(2,(VP (some i)))] []) w) kr (Eq.trans (zd [5,2,7,9,4,10,8] (q3i K Y9) kr) (Eq.trans (zd [11,9,7,10,4,8,5,2] (qIE K Y9) kr) kr))
theorem qrm:qro c d e f g h w K Y9=(qta 0 c d e f g h w K Y9):=qE (qI [7,4,8,5,2,9] (qvR K Y9) (Q9 1 [4,8,5,2,7,9] (YH K Y9) (qI [9,7,10,4,8,5,2] (qF9 K Y9) kr)))
def quV a b c d w K:=SG c6 255 [4] [4] (yC K) 97 [(8,VI a),(5,VP b),(2,VQ c),(7,VQ d)] w
abbrev qFo K:=kq c6 255 [4] [4] (yC K)
def q27 a w K:=SG c6 511 [4] [4] (yC K) 97 [(4,VB a)] w
theorem qp8:q27 a w K=(K (Value.bool a) w):=qE kr
theorem qr0:quV d f e g w K=(q9 P 15 [] w (fun n c=>∃ h:Bool,n=(.bool h)/\qp h (∃ (o:OA) (i p:Nat),c.cell? (g.add 3)=some (.slice o i p)/\∃ j:Int,c.cell? e=some (.int .i64 j)/\qp ((((i:Nat):Int):Int)==j) (∃ k:Int,c.cell? (e.add 2)=some (.int .i64 k)/\(4:Int)≠0/\qp (decide (d<=(IntKind.wrap .i64 ((IntKind.wrap .i64 (k.tdiv 4))*3)))) (q9 P 23 [(Value.pointer f)] c (fun q r=>∃ l:Array Value,q=(.agg l)/\∃ m:Int,l[0]?=some (.int .i64 m)/\q27 (m==d) r K)) (q27 false c K)) (q27 false c K)) (q27 false c K))):=qE (qI [4] (qFo K) kr)
theorem qql:qtP d c h e f g w K Y9=(∃ (j:OA) (i k:Nat),w.cell? (c.add 3)=some (.slice j i k)/\qp (decide (d<((i:Nat):Int))) (qro d c h e f g w K Y9) (quV e f g c w K)):=qE (qI [9,7,4,8,5,2] (qsa K Y9) (qI [35,9,7,4,8,5,2] (qIB K Y9) kr))
theorem qu7:qES a c d h i e f g w K=(qN (qIj K) (qi.mk 97 [(9,(Value.int .i64 a)),(7,(Value.pointer (some d))),(4,(Value.bool e)),(8,(Value.int .i64 c)),(5,(Value.pointer f)),(2,(Value.pointer (some g)))] []) w):=Eq.trans (b:=CS P (cA c6 509) none [8,5,2,7] [4] (q1r K) (qi.mk 97 [(9,(VI a)),(8,(VI c)),(7,(VP (some d))),(30,(Value.agg h)),(29,(VP i)),(4,(VB e)),(5,(VP f)),(2,(VP (some g)))] []) w) kr (Eq.trans (Ze 0 [4,8,5,2,7] (qfW K) kr) ((qT (b:=(cA c6 2036)) (X':=[4,8,5,2,7]) (H:=[9,7,4,8,5,2]) kr kr kr).trans kr))
theorem qvs:qEI c d e f g h i w K=(qES 0 c d e f g h i w K):=Eq.trans (b:=CS P (cA c6 127) none [4] [4] (yC K) (qi.mk 97 [(8,(VI c)),(7,(VP (some d))),(30,(Value.agg e)),(29,(VP f)),(4,(VB g)),(5,(VP h)),(2,(VP (some i)))] []) w) kr (Eq.trans (zd [8,5,2,7] (q1r K) kr) (Eq.trans (zd [9,7,4,8,5,2] (qJo K) kr) kr))
theorem qt3:qwL c d e f g h w K=(qEI 0 c d e f g h w K):=Eq.trans (b:=CS P (cA c6 63) none [4] [4] (yC K) (qi.mk 97 [(7,(VP (some c))),(30,(Value.agg d)),(29,(VP e)),(4,(VB f)),(5,(VP g)),(2,(VP (some h)))] []) w) kr (Eq.trans (zd [7,4,8,5,2] (qL1 K) kr) kr)
theorem qwS:qEy d c e w K=(q9 P 35 [(Value.pointer c)] w (fun h i=>∃ f:Array Value,h=(.agg f)/\qu (qy P 73) 73 i (fun g j=>zV 9 (Addr.mk g 0 none) f j (fun k=>qwL (Addr.mk g 0 none) f c d c e k K)))):=qE (qI [7,4,5,2] (qKQ K) kr)
theorem qay:qEQ d e g h i j k l m n o p c f q r s w K=(qp (!d) (q9 P 15 [] w (fun x t=>∃ u:Bool,x=(.bool u)/\qp u (qS 3 c t (fun y=>q9 P 26 [(Value.agg y)] t (fun z a0=>∃ v:Bool,z=(.bool v)/\qx9 v a0 K))) (qx9 false t K))) (qEy f e c w K)):=Eq.trans (b:=CS P (cA c6 15) none [4] [4] (yC K) (qi.mk 97 [(6,(VB d)),(5,(VP e)),(21,(VB g)),(20,(VP h)),(16,(Value.tuple #[(VP i),(VB j)])),(19,(Value.tuple #[(VP k),(VB l)])),(18,(VS m n o)),(17,(Value.agg p)),(2,(VP (some c))),(4,(VB f)),(1,(VS q r s))] []) w) kr (Eq.trans (zd [4,5,2] (qrp K) kr) (Eq.trans (zd [23,2,4,5] (qKZ K) kr) kr))
theorem qsV:qER f i c d e w K=(qS 3 f w (fun j=>q9 P 25 [(Value.agg j),(Value.slice c d e)] w (fun k l=>∃ g:Option Addr,∃ h:Bool,k=(.tuple #[(Value.pointer g),(Value.bool h)])/\qEQ h g h g g h g h c d e j f i c d e l K))):=qE (qI [2,4,5,6] (qKU K) kr)
theorem qtF:qEz f g c d e w K=(q9 P 24 [(Value.slice c d e),(Value.int .i64 60)] w (fun k h=>∃ i:Bool,k=(.bool i)/\qp (!i) (q9 P 15 [] h (fun l m=>∃ j:Bool,l=(.bool j)/\K (Value.bool j) m)) (qER f false c d e h K))):=Eq.trans (b:=CS P (cA c6 3) none [4] [4] (yC K) (qi.mk 97 [(4,(VB false)),(2,(VP (some f))),(0,(Value.agg g)),(1,(VS c d e))] []) w) kr (Eq.trans (zd [2,4,1] (qEH K) kr) (Eq.trans (zd [14,2,4,1] (qJO K) kr) kr))
theorem qsC:qEK c d e f w K=(qu c 27 w (fun g h=>qEz (Addr.mk g 0 none) c d e f h K)):=Eq.trans (b:=CS P (cA c6 1) none [4] [4] (yC K) (qi.mk 97 [(0,(Value.agg c)),(1,(VS d e f))] []) w) kr (Eq.trans (zd [2,4,1] (qLE K) kr) kr)
theorem qKq:f6 a b c d w K=(qEK a b c d w K):=kr
theorem qKD a b c d w K(h:f6 a b c d w K):q9 P 6 [(Value.agg a),(Value.slice b c d)] w K:=qA c6 Tryz.func6 h
end Go.Fx.Tryz
namespace Go.Fx.Tryz
open Go Go.Fx Go.Fx.Ch
open Go.Proofs
set_option linter.all false
set_option maxRecDepth 20000
variable {w0 w:World} {H X:qF} {K:KT} {s:qc} {L:qR} {q:LB} {R:Int->TR->Prop}
theorem q9n{sec len slots:Int}(h:St w0 w H)(hK:∀ w',St w0 w' H->K (.bool (zl sec len slots)) w'):q9 P 69 [.agg #[J sec,J len,J slots]] w K:=by
 refine qI5 _ _ _ ?_
 rw[qJb,qqv]
 refine h.newC fun n w2 hn h2=>?_
 have h2:St w0 w2 ((n,Cs (zw sec len slots) 27)::H):=h2
 have hK:=hK w2 (h2.tail hn)
 have c0:w2.cell? (Addr.mk n 0 none)=some (J sec):=h2.cell (k:=0) rfl
 have c1:w2.cell? ((Addr.mk n 0 none).add 1)=some (J len):=by rw[qa];exact h2.cell (k:=0) rfl
 have c2:w2.cell? ((Addr.mk n 0 none).add 2)=some (J slots):=by rw[qa];exact h2.cell (k:=0) rfl
 have no:zl sec len slots=false->Jq true (Addr.mk n 0 none) false w2 K:=fun hf=>by
  rw[hf]at hK
  rw[q44,qe];exact hK
 rw[qpV]
 refine⟨sec,c0,?_⟩
 rw[qg]
 refine⟨fun hb=>no ?_,fun hb=>⟨sec,c0,?_⟩⟩
 ·have hb:=of_decide_eq_true hb
  unfold zl
  rw[decide_eq_false (show ¬ (1:Int)<=sec by omega)];rfl
 have hb:=of_decide_eq_false hb
 rw[qg]
 refine⟨fun hb2=>no ?_,fun hb2=>⟨len,c1,?_⟩⟩
 ·have hb2:=of_decide_eq_true hb2
  unfold zl
  rw[decide_eq_false (show ¬ sec<=(16:Int)by omega)];simp
 have hb2:=of_decide_eq_false hb2
 rw[qg]
 refine⟨fun hb3=>no ?_,fun hb3=>⟨len,c1,?_⟩⟩
 ·have hb3:=of_decide_eq_true hb3
  unfold zl
  rw[decide_eq_false (show ¬ (256:Int)<=len by omega)];simp
 have hb3:=of_decide_eq_false hb3
 cases hb4:decide (len > 1048576)with
 | true=>
  refine no ?_
  have hb4:=of_decide_eq_true hb4
  unfold zl
  rw[decide_eq_false (show ¬ len<=(1048576:Int)by omega)];simp
 | false=>
  have hb4:=of_decide_eq_false hb4
  rw[q44,qb,qpm,qpJ]
  refine⟨fun m e' w'=>∃ j:Nat,4<=j/\j<=17/\m=17-j/\e'=qi.mk 30 [(3,J ((2 ^ j:Nat):Int)),(1,.pointer (some (Addr.mk n 0 none))),(2,.bool false)] []/\(∀ i,4<=i->i<j->slots≠((2 ^ i:Nat):Int))/\w'=w2,⟨_,4,by omega,by omega,rfl,rfl,fun i h1 h2=>by omega,rfl⟩,?_⟩
  rintro m e' w' ⟨j,hj4,hj17,rfl,rfl,hno,rfl⟩
  show qn4 ..
  rw[qh8,qg]
  have hpow:j<=16->((2 ^ j:Nat):Int)<=65536:=fun hj=>by
   have:=(zS hj4 hj).2;omega
  refine⟨fun hlt=>?_,fun hge=>?_⟩
  ·have hlt:=of_decide_eq_true hlt
   have hj:j<=16:=by
    refine Classical.byContradiction fun hn=>?_
    have:j=17:=by omega
    subst this
    have:((2 ^ 17:Nat):Int)=131072:=rfl
    omega
   rw[qq1]
   refine⟨slots,c2,?_⟩
   rw[qg]
   refine⟨fun he=>?_,fun he=>?_⟩
   ·have he:slots=((2 ^ j:Nat):Int):=by simpa using he
    have hp:=zS hj4 hj
    have e:zl sec len slots=true:=by
     unfold zl
     have hex:∃ k,k∈[4,5,6,7,8,9,10,11,12,13,14,15,16]/\slots=2 ^ k:=⟨j,by simp;omega,by rw[he,Int.natCast_pow];rfl⟩
     rw[decide_eq_true (show(1:Int)<=sec by omega),decide_eq_true (show sec<=(16:Int)by omega),decide_eq_true (show(256:Int)<=len by omega),decide_eq_true (show len<=(1048576:Int)by omega),
      decide_eq_true (show(16:Int)<=slots by omega),decide_eq_true (show slots<=(65536:Int)by omega),decide_eq_true hex];rfl
    rw[e]at hK;exact hK
   ·have he:slots≠((2 ^ j:Nat):Int):=by simpa using he
    rw[qpl]
    have hp:=hpow hj
    have hp0:(0:Int)<=((2 ^ j:Nat):Int):=Int.natCast_nonneg _
    refine⟨_,?_,j+1,by omega,by omega,rfl,?_,fun i h1 h2=>?_,rfl⟩
    ·omega
    ·rw[qd om om]
     have:((2 ^ j:Nat):Int)*2=((2 ^ (j+1):Nat):Int):=by rw[Nat.pow_succ,Int.natCast_mul];rfl
     rw[this]
    ·by_cases hij:i=j
     ·rw[hij];exact he
     ·exact hno i h1 om
  ·have hge:=of_decide_eq_false hge
   have hj:j=17:=by
    refine Classical.byContradiction fun hn=>?_
    have:=hpow om
    omega
   subst hj
   rw[qoy]
   have e:zl sec len slots=false:=by
    unfold zl
    have hex:¬ ∃ k,k∈[4,5,6,7,8,9,10,11,12,13,14,15,16]/\slots=2 ^ k:=fun⟨k,hk,hs⟩=>by
     have hk:4<=k/\k<17:=by simp at hk;omega
     exact hno k hk.1 hk.2 (by rw[hs,Int.natCast_pow];rfl)
    rw[decide_eq_false hex,Bool.and_false]
   rw[e]at hK;exact hK
theorem qwT{sec len slots:Int}(hf:zl sec len slots=false)(h:St w0 w H)(hK:∀ w',St w0 w' H->K (.bool true) w'):q9 P 26 [.agg #[J sec,J len,J slots]] w K:=by
 refine qFP _ _ _ ?_
 rw[qFE]
 refine h.newC fun n w2 hn h2=>?_
 have h2:St w0 w2 ((n,Cs (zw sec len slots) 27)::H):=h2
 refine h2.ldA (k:=0) rfl (by simp) ?_
 refine qhS h2 (fun _ w5 h5=>⟨_,_,rfl,?_⟩) (fun _ _ _ _ _ _ _ _ _ _ ht=>by rw[hf]at ht;cases ht)
 simp only[show((1:Int)==1)=true from rfl,qe,Option.isNone_none]
 refine h5.ldA (k:=0) rfl (by simp) ?_
 refine q9n (sec:=sec) (len:=len) (slots:=slots) h5 fun w6 h6=>⟨_,rfl,?_⟩
 rw[qqi,hf]
 exact hK w6 (h6.tail hn)
inductive q2y (s0:qc):List yr->qc->Prop
 | nil:q2y s0 [] s0
 | snoc {l:List yr} {a:yr} {s s':qc}:q2y s0 l s->q2X s a s'->q2y s0 (l++[a]) s'
theorem qre{aa:Option Addr}{ac:Nat}{l:List yr}{sec len slots:Int}(hl:Z6 w0 H (.slice aa l.length ac) l)(hlt:∀ a∈l,vL a=true)(hR:yF R)(hRt:∀ a∈l,∀ x,R x a.tr)(hg:zC H)(hX:qG w0 X)(h:St w0 w (X++H))
  (hF:zl sec len slots=false->∀ (w':World) (X':qF),qG w0 X'->St w0 w' (X'++H)->K (.tuple [.pointer none,.bool false].toArray) w')
  (hK:∀ (n k:Nat),sec=n->slots=(2 ^ k:Nat)->1<=n->n<=16->4<=k->k<=16->256<=len->len<=1048576->zl sec len slots=true->∀ (w':World) (q:LB) (L:qR) (s:qc) (X':qF),PI R n len k l.length s->q2y (vM n len k) l s->L.Ok w0 q s->qG w0 X'->St w0 w' (L.bl q s++(X'++H))->
   K (.tuple [.pointer (some ⟨q.cb,0,none⟩),.bool true].toArray) w') :
  q9 P 25 [.agg #[J sec,J len,J slots],.slice aa l.length ac] w K:=by
 refine qGN _ _ _ _ _ _ ?_
 rw[qGe,qpX]
 refine h.newC fun n4 w5 hn4 h5=>?_
 have h5:St w0 w5 ((n4,Cs (zw sec len slots) 27)::(X++H)):=h5
 have hX2:qG w0 ((n4,Cs (zw sec len slots) 27)::X):=fun v hv=>by
  rcases List.mem_cons.1 hv with rfl | hv
  ·exact hn4
  ·exact hX v hv
 rw[qop]
 refine h5.ldA (k:=0) rfl (by simp) ?_
 refine qhS h5 (fun hf w6 h6=>⟨_,_,rfl,?_⟩) (fun n k hn hk h1 h16 hk4 hk16 hl0 hl1 hcf w6 q L hL h6=>⟨_,_,rfl,?_⟩)
 ·rw[q4j]
  simp only[show((1:Int) != 0)=true from rfl,qe]
  rw[q4K,qe]
  exact hF hf w6 _ hX2 h6
 rw[q4j]
 simp only[show((0:Int) != 0)=false from rfl,qb,Option.isNone_some]
 rw[q4K,qb,qoU,qoA]
 have hbase:qU (vM n len k):=qU.new h1 om hk4 hk16 om hl1
 have hlen:=hl.len
 refine⟨fun m e' w'=>∃ (i:Nat) (s:qc) (L':qR) (X':qF),i<=l.length/\m=l.length-i/\e'=qi.mk 33 [(8,J i),(1,.slice aa l.length ac),(6,.pointer (some ⟨q.cb,0,none⟩)),(4,.pointer none),(5,.bool false)] []/\
  PI R n len k i s/\q2y (vM n len k) (l.take i) s/\L'.Ok w0 q s/\qG w0 X'/\St w0 w' (L'.bl q s++(X'++H)),⟨_,0,_,L,_,by omega,rfl,rfl,PI.new h1 h16 hk4 hk16 om hl1 hbase,.nil,hL,hX2,h6⟩,?_⟩
 rintro m e' w1 ⟨i,s,L',X',hi,rfl,rfl,hPI,hreach,hL',hX',hs⟩
 show qjw ..
 rw[qiu,qg]
 refine⟨fun hlt'=>?_,fun hge=>?_⟩
 ·have hlt':=of_decide_eq_true hlt'
  have hi:i<l.length:=by omega
  have hs0:=(hs.sub hL'.newB).sub hX'
  obtain⟨ad,rfl⟩:=hl.ptr hi hs0
  rw[qoD]
  refine⟨by omega,by omega,?_⟩
  rw[Int.toNat_natCast]
  have hmem:=List.getElem_mem hi
  have hao:=hl.each _ hmem
  refine vj.whole (f:=yr.cs) (m:=9) (fun _=>rfl) rfl (hl.row w1 hs0) hi ?_
  refine qFp hao (hlt _ hmem) hR hPI.base hPI.q hL' hg hX' hs fun w2 s2 L2 X2 hA hL2 hX2' h2=>⟨rfl,?_⟩
  rw[qrf]
  refine⟨_,?_,i+1,s2,L2,X2,by omega,rfl,?_,hPI.act hR hao.tat (hRt _ hmem) hA,?_,hL2,hX2',h2⟩
  ·omega
  ·rw[qd om om];rfl
  ·rw[List.take_succ_eq_append_getElem hi]
   exact .snoc hreach hA
 ·have hge:=of_decide_eq_false hge
  have hin:i=l.length:=by omega
  subst hin
  rw[List.take_length]at hreach
  rw[qrn]
  exact hK n k hn hk h1 h16 hk4 hk16 hl0 hl1 hcf w1 q L' s X' hPI hreach hL' hX' hs
end Go.Fx.Tryz
namespace Go.Fx.Tryz
open Go Go.Fx Go.Fx.Ch
open Go.Proofs
set_option linter.all false
set_option maxRecDepth 20000
variable {w0 w:World} {H X Z N:qF} {K:KT} {s:qc} {L:qR} {q:LB}
structure SV where
 id:Int
 sv:Value
 cv:Value
 A:List (Nat × Obj)
 M:List (Nat × Obj)
def SV.cs(items:List (Int × TR))(x:SV):List Value:=[U x.id,U (qj items x.id).at_,x.sv,x.cv]
def SV.blk(x:SV):List (Nat × Obj):=x.M++x.A
structure qxI (items:List (Int × TR)) (x:SV):Prop where
 sp:zv 2 36 x.sv (qj items x.id).sp.length ((qj items x.id).sp.map QK).flatten x.A
 code:zv 1 5 x.cv (qj items x.id).code.length ((qj items x.id).code.map B) x.M
structure SR where
 v:Value
 B:List (Nat × Obj)
 l:List SV
def SR.blk(r:SR):List (Nat × Obj):=r.B++(r.l.map SV.blk).flatten
structure qtm (items:List (Int × TR)) (row:List Int) (r:SR):Prop where
 ids:r.l.map (·.id)=row
 sl:zv 4 77 r.v row.length ((r.l.map (SV.cs items)).flatten) r.B
 each:∀ x∈r.l,qxI items x
structure q9o (items:List (Int × TR)) (rows:List (List Int)) (rs:List SR):Prop where
 len:rs.length=rows.length
 each:∀ i (h1:i<rows.length) (h2:i<rs.length),qtm items rows[i] rs[i]
theorem q9o.snoc{items:List (Int × TR)}{rows:List (List Int)}{rs:List SR}(h:q9o items rows rs){row:List Int}{r:SR}(hr:qtm items row r):q9o items (rows++[row]) (rs++[r]):=by
 refine⟨by simp[h.len],fun i h1 h2=>?_⟩
 have hl:=h.len
 by_cases hi:i<rows.length
 ·rw[List.getElem_append_left hi,List.getElem_append_left om]
  exact h.each i hi om
 ·have hi2:i=rows.length:=by
   rw[List.length_append]at h1
   simp only[List.length_cons,List.length_nil]at h1
   omega
  subst hi2
  rw[List.getElem_append_right om,List.getElem_append_right om]
  simp only[hl,Nat.sub_self,List.getElem_cons_zero]
  exact hr
theorem ZO:qy P 73=#[J 0,J 0,J 0,.slice none 0 0,J 0,U 0,.slice none 0 0,J 0,J 0]:=kr
def yh(s:qc)(rv tv:Value):List Value:=[J s.rows.length,J s.len,J (2 ^ s.k:Nat),rv,J s.cur,U s.given,tv,J s.ev,J s.dr]
theorem qod(sec len sl cur ev dr g:Int)(ta:Option Addr)(tl tc:Nat)(wq:World):(Instr.build 73 [(0,.agg #[J sec,J len,J sl]),(2,J cur),(3,U g),(4,.slice ta tl tc),(5,J ev),(6,J dr)].toArray).run P wq=.ok (.agg #[J sec,J len,J sl,.slice none 0 0,J cur,U g,.slice ta tl tc,J ev,J dr]) wq:=kr
theorem qD9(id at_:Int)(sa ca:Option Addr)(sl sc cl cc:Nat)(wq:World):(Instr.build 77 [(0,U id),(1,.agg #[U at_,.slice sa sl sc,.slice ca cl cc])].toArray).run P wq=.ok (.agg #[U id,U at_,.slice sa sl sc,.slice ca cl cc]) wq:=kr
theorem SV.cs_one{items:List (Int × TR)}{x:SV}(hx:qxI items x):∀ u∈x.cs items,u.oneCell'=true:=by
 obtain⟨a,c,e1⟩:=hx.sp.form
 obtain⟨a2,c2,e2⟩:=hx.code.form
 intro u hu
 unfold SV.cs at hu
 rw[e1,e2]at hu
 simp only[List.mem_cons,List.not_mem_nil,or_false]at hu
 rcases hu with rfl | rfl | rfl | rfl<;>rfl
theorem qCk{n1 n27:Nat}{rv tv:Value}{vs:List Value}{i:Nat}{Y2:YT}(hL:L.Ok w0 q s)(hr:∀ r∈s.rows,r.length<1000000)(hi:i<s.rows.length)(hn27:w0.heap.size<=n27)
  (h:St w0 w (L.bl q s++((n27,Cs (yh s rv tv) 73)::(N++Z)))) (hS:zv 1 75 rv i vs N) (hN:qG w0 N) (hvs:vs.length=i)
  (hY:∀ (w':World) (r:SR) (rv':Value) (N':qF),qtm s.items s.rows[i] r->qG w0 r.blk->zv 1 75 rv' (i+1) (vs++[r.v]) N'->qG w0 N'->St w0 w' (L.bl q s++((n27,Cs (yh s rv' tv) 73)::(N'++(r.blk++Z))))->
   Y2 (qi.mk 74 [(0,.pointer (some ⟨q.cb,0,none⟩)),(2,.pointer (some ⟨n1,0,none⟩)),(3,.pointer (some ⟨n27,0,none⟩)),(43,J ((i+1:Nat):Int)),(41,.slice (some ⟨q.rb,0,none⟩) s.rows.length s.rows.length),(42,J s.rows.length)] []) w') :
  qdp (some ⟨q.cb,0,none⟩) ⟨n1,0,none⟩ ⟨n27,0,none⟩ (some ⟨q.rb,0,none⟩) s.rows.length s.rows.length s.rows.length i w K Y2:=by
 have hrl:=hL.rl
 rw[qon]
 obtain⟨sa,sc,hrv,hrow⟩:=q7n (w0:=w0) (H:=(n27,Cs (yh s rv tv) 73)::(N++Z)) hL hi
 have hri:=hr _ (List.getElem_mem hi)
 refine⟨by omega,by omega,sa,s.rows[i].length,sc,?_,?_⟩
 ·rw[qa,Int.toNat_natCast,Nat.mul_one,Nat.zero_add,h.cell (k:=4) rfl];exact hrv
 have hrowG:∀ (w':World) (Y:qF),St w0 w' (L.bl q s++Y)->vj w' 1 (.slice sa s.rows[i].length sc) s.rows[i].length (s.rows[i].map U):=fun w' Y h'=>by
  obtain⟨sa2,sc2,hrv2,hrow2⟩:=q7n (w0:=w0) (H:=Y) hL hi
  rw[hrv]at hrv2
  injection hrv2 with hrv2
  injection hrv2 with e1 _ e2
  subst e1;subst e2
  exact hrow2 w' h'
 refine⟨fun m e' w'=>∃ (k:Nat) (xs:List SV) (ov:Value) (Bk:qF),k<=s.rows[i].length/\m=s.rows[i].length-k/\(∃ oa oc,ov=.slice oa k oc/\e'=qi.mk 74 [(49,J k),(0,.pointer (some ⟨q.cb,0,none⟩)),(6,.slice oa k oc),(47,.slice sa s.rows[i].length sc),(2,.pointer (some ⟨n1,0,none⟩)),(3,.pointer (some ⟨n27,0,none⟩)),(41,.slice (some ⟨q.rb,0,none⟩) s.rows.length s.rows.length),(42,J s.rows.length),(43,J i),(48,J s.rows[i].length)] [])/\
  xs.map (·.id)=s.rows[i].take k/\(∀ x∈xs,qxI s.items x)/\zv 4 77 ov k ((xs.map (SV.cs s.items)).flatten) Bk/\qG w0 (Bk++(xs.map SV.blk).flatten)/\St w0 w' (L.bl q s++((n27,Cs (yh s rv tv) 73)::(N++(Bk++((xs.map SV.blk).flatten++Z))))),
  ⟨_,0,[],.slice none 0 0,[],by omega,rfl,⟨none,0,rfl,rfl⟩,rfl,fun x hx=>(by cases hx),zv.nil 4 77,qG.nil _,h⟩,?_⟩
 rintro m e' w1 ⟨k,xs,ov,Bk,hk,rfl,⟨oa,oc,rfl,rfl⟩,hids,hxs,hSl,hNew,hs⟩
 show qkd ..
 rw[qic,qg]
 refine⟨fun hlt=>?_,fun hge=>?_⟩
 ·have hlt:=of_decide_eq_true hlt
  have hk:k<s.rows[i].length:=by omega
  have hrw:=hrowG w1 _ hs
  obtain⟨ra,_,e,_⟩:=hrw.ldA hk
  injection e with e _ _
  subst e
  rw[qqu]
  refine⟨by omega,by omega,s.rows[i][k],by rw[Int.toNat_natCast];exact vS hrw hk,some q.ib,by rw[qa];exact hs.cell (k:=1) rfl,?_⟩
  obtain⟨v,hv,hlk,_⟩:=hL.its.look (w:=w1) (hs.get (k:=2) rfl) s.rows[i][k]
  obtain⟨⟨sv,cv,rfl,hSp,hB⟩,_,_⟩:=hv
  refine⟨_,hlk,?_⟩
  have up:∀ u∈L.G,u∈L.bl q s++((n27,Cs (yh s rv tv) 73)::(N++(Bk++((xs.map SV.blk).flatten++Z)))):=fun u hu=>List.mem_append_left _ (L.G_mem q s u hu)
  refine Jv hs (hSp.spans up) (hB.bytes up) fun w2 sv' cv' A M h1 h2 h3 h4 hs2=>⟨_,rfl,?_⟩
  obtain⟨sa',sc',e1⟩:=h1.form
  obtain⟨ca',cc',e2⟩:=h3.form
  subst e1;subst e2
  refine⟨_,qD9 _ _ _ _ _ _ _ _,⟨rfl,trivial⟩,hs2.newC fun n81 w3 hn81 hs3=>?_⟩
  have hx:qxI s.items ⟨s.rows[i][k],.slice sa' (qj s.items s.rows[i][k]).sp.length sc',.slice ca' (qj s.items s.rows[i][k]).code.length cc',A,M⟩:=⟨h1,h3⟩
  have hs4:St w0 w3 ([(n81,Cs (SV.cs s.items ⟨s.rows[i][k],.slice sa' (qj s.items s.rows[i][k]).sp.length sc',.slice ca' (qj s.items s.rows[i][k]).code.length cc',A,M⟩) 77)]++(Bk++(M++(A++(L.bl q s++((n27,Cs (yh s rv tv) 73)::(N++((xs.map SV.blk).flatten++Z)))))))):=by
   have hs3:St w0 w3 ((n81,Cs (SV.cs s.items ⟨s.rows[i][k],.slice sa' (qj s.items s.rows[i][k]).sp.length sc',.slice ca' (qj s.items s.rows[i][k]).code.length cc',A,M⟩) 77)::(M++(A++(L.bl q s++((n27,Cs (yh s rv tv) 73)::(N++(Bk++((xs.map SV.blk).flatten++Z)))))))):=hs3
   exact hs3.perm (qn fun c=>by simp only[List.map_append,List.map_cons,List.map_nil,List.sum_append,List.sum_cons,List.sum_nil];omega)
  have hNB:qG w0 Bk:=qG.left hNew
  obtain⟨g,cap,w5,B',hrun,hX,hs5,hXN⟩:=St.append (P:=P) 75 75 77 Tryz.t77 (.agg #[U 0,U 0,.slice none 0 0,.slice none 0 0]) 4 64 Tryz.underlying75 kr kr rfl rfl rfl om hs4 hSl hNB (j:=0) rfl rfl (SV.cs_one hx) (by simp[maxLen];omega) om
  refine⟨_,_,_,w5,hrun,?_⟩
  rw[qqE,qd om om]
  refine⟨_,?_,k+1,xs++[⟨s.rows[i][k],.slice sa' (qj s.items s.rows[i][k]).sp.length sc',.slice ca' (qj s.items s.rows[i][k]).code.length cc',A,M⟩],_,B',by omega,rfl,⟨_,_,rfl,rfl⟩,?_,?_,?_,?_,?_⟩
  ·omega
  ·rw[List.map_append,hids,List.take_succ_eq_append_getElem hk];rfl
  ·intro x hx'
   rcases List.mem_append.1 hx' with hx' | hx'
   ·exact hxs x hx'
   ·rw[List.mem_singleton.1 hx'];exact hx
  ·rw[List.map_append,List.flatten_append]
   simpa using hX
  ·refine qG.append hXN ?_
   rw[List.map_append,List.flatten_append]
   refine qG.append (qG.right hNew) ?_
   intro u hu
   simp only[List.map_cons,List.map_nil,List.flatten_cons,List.flatten_nil,List.append_nil]at hu
   exact qG.append h4 h2 u hu
  ·have hs6:St w0 w5 ((n81,Cs (SV.cs s.items ⟨s.rows[i][k],.slice sa' (qj s.items s.rows[i][k]).sp.length sc',.slice ca' (qj s.items s.rows[i][k]).code.length cc',A,M⟩) 77)::(L.bl q s++((n27,Cs (yh s rv tv) 73)::(N++(B'++(((xs.map SV.blk).flatten++(M++A))++Z)))))):=hs5.perm (qn fun c=>by simp only[List.map_append,List.map_cons,List.map_nil,List.sum_append,List.sum_cons,List.sum_nil];omega)
   have e:((xs++[(⟨s.rows[i][k],.slice sa' (qj s.items s.rows[i][k]).sp.length sc',.slice ca' (qj s.items s.rows[i][k]).code.length cc',A,M⟩:SV)]).map SV.blk).flatten=(xs.map SV.blk).flatten++(M++A):=by
    rw[List.map_append,List.flatten_append]
    simp[SV.blk]
   rw[e]
   exact hs6.tail hn81
 ·have hge:=of_decide_eq_false hge
  have hin:k=s.rows[i].length:=by omega
  subst hin
  rw[List.take_length]at hids
  rw[qpZ]
  have hs2:St w0 w1 ((n27,Cs (yh s rv tv) 73)::(L.bl q s++(N++(Bk++((xs.map SV.blk).flatten++Z))))):=hs.perm (qn fun c=>by simp only[List.map_append,List.map_cons,List.sum_append,List.sum_cons];omega)
  obtain⟨va,vc,e⟩:=hS.form
  subst e
  refine⟨va,i,vc,by rw[qa];exact hs2.cell (k:=0) rfl,⟨rfl,trivial⟩,hs2.newC fun n105 w3 hn105 hs3=>?_⟩
  have hs4:St w0 w3 ([(n105,Cs [.slice oa s.rows[i].length oc] 75)]++(N++((n27,Cs (yh s (.slice va i vc) tv) 73)::(L.bl q s++(Bk++((xs.map SV.blk).flatten++Z)))))):=by
   have hs3:St w0 w3 ((n105,Cs [.slice oa s.rows[i].length oc] 75)::(n27,Cs (yh s (.slice va i vc) tv) 73)::(L.bl q s++(N++(Bk++((xs.map SV.blk).flatten++Z))))):=hs3
   exact hs3.perm (qn fun c=>by simp only[List.map_append,List.map_cons,List.map_nil,List.sum_append,List.sum_cons,List.sum_nil];omega)
  obtain⟨g,cap,w5,N',hrun,hX',hs5,hXN⟩:=St.append (P:=P) 71 71 75 Tryz.t75 (.slice none 0 0) 1 24 Tryz.underlying71 kr kr rfl rfl rfl om hs4 hS hN (j:=0) rfl rfl (fun u hu=>by rw[List.mem_singleton.1 hu];rfl) (by simp[maxLen];omega) om
  refine⟨_,_,_,w5,hrun,?_⟩
  have hs6:St w0 w5 ((n27,Cs (yh s (.slice va i vc) tv) 73)::(n105,Cs [.slice oa s.rows[i].length oc] 75)::(N'++(L.bl q s++(Bk++((xs.map SV.blk).flatten++Z))))):=hs5.perm (qn fun c=>by simp only[List.map_append,List.map_cons,List.map_nil,List.sum_append,List.sum_cons,List.sum_nil];omega)
  show zU ((Addr.mk n27 0 none).add 3) _ _ _
  rw[qa]
  refine hs6.st1 (k:=0) rfl (by simp[yh]) rfl fun w7 hs7=>?_
  have hs7:St w0 w7 ((n27,Cs (yh s (.slice (some ⟨g,0,none⟩) (i+1) cap) tv) 73)::(n105,Cs [.slice oa s.rows[i].length oc] 75)::(N'++(L.bl q s++(Bk++((xs.map SV.blk).flatten++Z))))):=hs7
  rw[qpY,qd om om]
  refine hY w7 ⟨.slice oa s.rows[i].length oc,Bk,xs⟩ _ N' ⟨hids,hSl,hxs⟩ hNew hX' hXN ?_
  have hs8:St w0 w7 ((n105,Cs [.slice oa s.rows[i].length oc] 75)::(L.bl q s++((n27,Cs (yh s (.slice (some ⟨g,0,none⟩) (i+1) cap) tv) 73)::(N'++((Bk++(xs.map SV.blk).flatten)++Z))))):=hs7.perm (qn fun c=>by simp only[List.map_append,List.map_cons,List.sum_append,List.sum_cons];omega)
  exact hs8.tail hn105
structure q3k (s:qc) (rv tv:Value) (N:qF) (rs:List SR) (Tb:qF):Prop where
 rows:zv 1 75 rv s.rows.length (rs.map (·.v)) N
 each:q9o s.items s.rows rs
 tab:zv 1 24 tv (2 ^ s.k) (s.table.map U) Tb
theorem qmj{n1 n27:Nat}{tv:Value}{Tb:qF}(hL:L.Ok w0 q s)(hr:∀ r∈s.rows,r.length<1000000)(hn1:w0.heap.size<=n1)(hn27:w0.heap.size<=n27)(hT:zv 1 24 tv (2 ^ s.k) (s.table.map U) Tb)(hTN:qG w0 Tb)
  (h:St w0 w (L.bl q s++((n27,Cs (yh s (.slice none 0 0) tv) 73)::((n1,Cs [J 0,J 0,J 0,.slice none 0 0,J 0,U 0,.slice none 0 0,J 0,J 0] 73)::(Tb++H)))))
  (hK:∀ (w':World) (rv tv:Value) (N Tb:qF) (rs:List SR),q3k s rv tv N rs Tb->qG w0 (N++((rs.map SR.blk).flatten++Tb))->St w0 w' ((N++((rs.map SR.blk).flatten++Tb))++(L.bl q s++H))->K (.agg (yh s rv tv).toArray) w') :
  q4X (some ⟨q.cb,0,none⟩) ⟨n1,0,none⟩ ⟨n27,0,none⟩ w K:=by
 have hrl:=hL.rl
 rw[qoQ]
 refine⟨some ⟨q.rb,0,none⟩,s.rows.length,s.rows.length,by rw[qa];exact h.cell (k:=1) rfl,?_⟩
 refine⟨fun m e' w'=>∃ (i:Nat) (rs:List SR) (rv:Value) (N:qF),i<=s.rows.length/\m=s.rows.length-i/\e'=qi.mk 74 [(0,.pointer (some ⟨q.cb,0,none⟩)),(2,.pointer (some ⟨n1,0,none⟩)),(3,.pointer (some ⟨n27,0,none⟩)),(43,J i),(41,.slice (some ⟨q.rb,0,none⟩) s.rows.length s.rows.length),(42,J s.rows.length)] []/\
  zv 1 75 rv i (rs.map (·.v)) N/\q9o s.items (s.rows.take i) rs/\qG w0 N/\qG w0 (rs.map SR.blk).flatten/\St w0 w' (L.bl q s++((n27,Cs (yh s rv tv) 73)::(N++((rs.map SR.blk).flatten++((n1,Cs [J 0,J 0,J 0,.slice none 0 0,J 0,U 0,.slice none 0 0,J 0,J 0] 73)::(Tb++H)))))),
  ⟨_,0,[],.slice none 0 0,[],by omega,rfl,rfl,zv.nil 1 75,⟨rfl,fun i h1 h2=>by cases h2⟩,qG.nil _,qG.nil _,h⟩,?_⟩
 rintro m e' w1 ⟨i,rs,rv,N,hi,rfl,rfl,hS,hrs,hN,hNr,hs⟩
 show qml ..
 rw[qeL,qg]
 refine⟨fun hlt=>?_,fun hge=>?_⟩
 ·have hlt:=of_decide_eq_true hlt
  have hi:i<s.rows.length:=by omega
  have hlen:rs.length=i:=by rw[hrs.len,List.length_take];omega
  refine qCk hL hr hi hn27 hs hS hN (by rw[List.length_map];exact hlen) fun w' r rv' N' hr1 hr2 hr3 hr4 hs'=>⟨_,?_,i+1,rs++[r],rv',N',by omega,rfl,rfl,?_,?_,hr4,?_,?_⟩
  ·omega
  ·rw[List.map_append];exact hr3
  ·rw[List.take_succ_eq_append_getElem hi]
   exact hrs.snoc hr1
  ·rw[List.map_append,List.flatten_append]
   refine qG.append hNr ?_
   simpa using hr2
  ·have e:((rs++[r]).map SR.blk).flatten=(rs.map SR.blk).flatten++r.blk:=by
    rw[List.map_append,List.flatten_append];simp
   rw[e]
   exact hs'.perm (qn fun c=>by simp only[List.map_append,List.map_cons,List.sum_append,List.sum_cons];omega)
 ·have hge:=of_decide_eq_false hge
  have hin:i=s.rows.length:=by omega
  subst hin
  rw[List.take_length]at hrs
  obtain⟨ra,rc,e⟩:=hS.form
  subst e
  obtain⟨ta,tc,e⟩:=hT.form
  subst e
  rw[qqm]
  have hs2:St w0 w1 ((n27,Cs (yh s (.slice ra s.rows.length rc) (.slice ta (2 ^ s.k) tc)) 73)::((n1,Cs [J 0,J 0,J 0,.slice none 0 0,J 0,U 0,.slice none 0 0,J 0,J 0] 73)::((N++((rs.map SR.blk).flatten++Tb))++(L.bl q s++H)))):=hs.perm (qn fun c=>by simp only[List.map_append,List.map_cons,List.sum_append,List.sum_cons];omega)
  refine hs2.ldA (k:=0) rfl (by simp[yh]) ?_
  refine hs2.stA (k:=1) rfl rfl (by simp) (by simp[yh,Value.oneCell']) fun w3 hs3=>?_
  have hs3:St w0 w3 ((n27,Cs (yh s (.slice ra s.rows.length rc) (.slice ta (2 ^ s.k) tc)) 73)::((n1,Cs (yh s (.slice ra s.rows.length rc) (.slice ta (2 ^ s.k) tc)) 73)::((N++((rs.map SR.blk).flatten++Tb))++(L.bl q s++H)))):=hs3
  refine hs3.ldA (k:=1) rfl (by simp[yh]) ?_
  exact hK w3 _ _ N Tb rs ⟨hS,hrs,hT⟩ (qG.append hN (qG.append hNr hTN)) ((hs3.tail hn27).tail hn1)
theorem qAc(h:St w0 w (L.bl q s++H))(hL:L.Ok w0 q s)(hr:∀ r∈s.rows,r.length<1000000)
  (hK:∀ (w':World) (rv tv:Value) (N Tb:qF) (rs:List SR),q3k s rv tv N rs Tb->qG w0 (N++((rs.map SR.blk).flatten++Tb))->St w0 w' ((N++((rs.map SR.blk).flatten++Tb))++(L.bl q s++H))->K (.agg (yh s rv tv).toArray) w') :
  q9 P 35 [.pointer (some ⟨q.cb,0,none⟩)] w K:=by
 refine qHG _ _ _ ?_
 rw[qG6,ZO]
 refine h.newC fun n1 w2 hn1 h2=>?_
 have h2:St w0 w2 ((n1,Cs [J 0,J 0,J 0,.slice none 0 0,J 0,U 0,.slice none 0 0,J 0,J 0] 73)::(L.bl q s++H)):=h2
 have h3:St w0 w2 (L.bl q s++((n1,Cs [J 0,J 0,J 0,.slice none 0 0,J 0,U 0,.slice none 0 0,J 0,J 0] 73)::H)):=h2.perm (qn fun c=>by simp only[List.map_append,List.map_cons,List.sum_append,List.sum_cons];omega)
 refine QP h3 ⟨_,rfl,?_⟩
 simp only[qb]
 rw[qq5]
 have h4:=h3.drew
 have htl:=hL.tl
 have h2k:=(zS hL.k4 hL.k16).2
 have ldb:∀ {w':World} {Y:qF},St w0 w' Y->(q.cb,Cs (CCs s q.ib q.hb q.rb q.tb) 109)∈Y->Qw 3 (Addr.mk q.cb 0 none) #[J s.rows.length,J s.len,J (2 ^ s.k:Nat)] w':=fun h' hm j hj=>by
  rw[qa,qw (h'.has _ _ hm)]
  have:j=0\/j=1\/j=2:=by omega
  rcases this with rfl | rfl | rfl<;>rfl
 have cel:∀ {w':World} {Y:qF} {j:Nat} {v:Value},St w0 w' Y->(q.cb,Cs (CCs s q.ib q.hb q.rb q.tb) 109)∈Y->(CCs s q.ib q.hb q.rb q.tb)[j]?=some v->w'.cell? ((Addr.mk q.cb 0 none).add j)=some v:=fun {w' Y j v} h' hm hj=>by
  rw[qa,qw (h'.has _ _ hm),Nat.zero_add];exact hj
 have hrowT:∀ (w':World) (Y:qF),St w0 w' (L.bl q s++Y)->vj w' 1 (.slice (some ⟨q.tb,0,none⟩) (2 ^ s.k) (2 ^ s.k)) (s.table.map U).length (s.table.map U):=fun w' Y h'=>by
  refine⟨by simp,.inr ⟨_,_,by rw[List.length_map,htl],fun j hj=>?_⟩⟩
  rw[qa,Nat.zero_add,h'.cell (k:=0) rfl]
 refine h4.ldA (k:=1) rfl (by simp[CCs]) ⟨s.cur,cel h4 (.tail _ (.head _)) rfl,s.given,cel h4 (.tail _ (.head _)) rfl,some ⟨q.tb,0,none⟩,2 ^ s.k,2 ^ s.k,cel h4 (.tail _ (.head _)) rfl,s.ev,cel h4 (.tail _ (.head _)) rfl,s.dr,cel h4 (.tail _ (.head _)) rfl,?_,?_⟩
 ·refine Yz (l:=s.table) h4 (fun w' h'=>by have:=hrowT w' _ h';rw[List.length_map]at this;exact this) (by rw[htl];omega) fun w5 tv Tb hT hTN h5=>?_
  obtain⟨ta,tc,e⟩:=hT.form
  subst e
  have hm:(q.cb,Cs (CCs s q.ib q.hb q.rb q.tb) 109)∈Tb++(L.bl q s++((n1,Cs [J 0,J 0,J 0,.slice none 0 0,J 0,U 0,.slice none 0 0,J 0,J 0] 73)::H)):=List.mem_append_right _ (.tail _ (.head _))
  refine⟨_,_,_,rfl,cel h5 hm rfl,cel h5 hm rfl,cel h5 hm rfl,cel h5 hm rfl,ldb h5 hm,_,qod _ _ _ _ _ _ _ _ _ _,?_⟩
  rw[ZO]
  refine h5.newC fun n27 w6 hn27 h6=>h6.stA (k:=0) rfl rfl (by simp) (by simp[Value.oneCell']) fun w7 h7=>?_
  rw[htl]at h7 hT
  have h7:St w0 w7 ((n27,Cs (yh s (.slice none 0 0) (.slice ta (2 ^ s.k) tc)) 73)::(Tb++(L.bl q s++((n1,Cs [J 0,J 0,J 0,.slice none 0 0,J 0,U 0,.slice none 0 0,J 0,J 0] 73)::H)))):=h7
  exact qmj hL hr hn1 hn27 hT hTN (h7.perm (qn fun c=>by simp only[List.map_append,List.map_cons,List.sum_append,List.sum_cons];omega)) hK
 ·rw[ZO]
  refine h4.newC fun n120 w5 hn120 h5=>?_
  have h5:St w0 w5 ((n120,Cs [J 0,J 0,J 0,.slice none 0 0,J 0,U 0,.slice none 0 0,J 0,J 0] 73)::(L.bl q s++((n1,Cs [J 0,J 0,J 0,.slice none 0 0,J 0,U 0,.slice none 0 0,J 0,J 0] 73)::H))):=h5
  refine Yz (l:=s.table) h5 (fun w' h'=>by
   have:=hrowT w' _ (h'.tail hn120);rw[List.length_map]at this;exact this) (by rw[htl];omega) fun w6 tv Tb hT hTN h6=>?_
  obtain⟨ta,tc,e⟩:=hT.form
  subst e
  have hm:(q.cb,Cs (CCs s q.ib q.hb q.rb q.tb) 109)∈Tb++((n120,Cs [J 0,J 0,J 0,.slice none 0 0,J 0,U 0,.slice none 0 0,J 0,J 0] 73)::(L.bl q s++((n1,Cs [J 0,J 0,J 0,.slice none 0 0,J 0,U 0,.slice none 0 0,J 0,J 0] 73)::H))):=List.mem_append_right _ (.tail _ (.tail _ (.head _)))
  refine⟨_,_,_,rfl,cel h6 hm rfl,cel h6 hm rfl,cel h6 hm rfl,cel h6 hm rfl,ldb h6 hm,_,qod _ _ _ _ _ _ _ _ _ _,?_⟩
  have h7:St w0 w6 ((n120,Cs [J 0,J 0,J 0,.slice none 0 0,J 0,U 0,.slice none 0 0,J 0,J 0] 73)::(Tb++(L.bl q s++((n1,Cs [J 0,J 0,J 0,.slice none 0 0,J 0,U 0,.slice none 0 0,J 0,J 0] 73)::H)))):=h6.perm (qn fun c=>by simp only[List.map_append,List.map_cons,List.sum_append,List.sum_cons];omega)
  refine h7.stA (k:=0) rfl rfl (by simp) (by simp[Value.oneCell']) fun w8 h8=>?_
  rw[htl]at h8 hT
  have h8:St w0 w8 ((n120,Cs (yh s (.slice none 0 0) (.slice ta (2 ^ s.k) tc)) 73)::(Tb++(L.bl q s++((n1,Cs [J 0,J 0,J 0,.slice none 0 0,J 0,U 0,.slice none 0 0,J 0,J 0] 73)::H)))):=h8
  exact qmj hL hr hn1 hn120 hT hTN (h8.perm (qn fun c=>by simp only[List.map_append,List.map_cons,List.sum_append,List.sum_cons];omega)) hK
end Go.Fx.Tryz
namespace Go.Fx.Ch
open Go.Fx.Tryz
set_option linter.all false
theorem qgU{s:qc}{m:Nat}(hb:qU s)(hc:qQ s)(h5:VT (fun _ t=>t.code.length<=5000) s)(hg:s.given<=m):s.hold.length<1000000/\∀ c,vQ s c<=5000*(m+1):=by
 constructor
 ·have h1:(keys s.hold).length<=(keys s.items).length:=q3M hc.ok.nd fun c hcm=>by
   obtain⟨l,hl⟩:=q7l.1 hcm
   obtain⟨hne,_⟩:=hc.ok.each c l hl
   obtain⟨p,hp⟩:=List.exists_mem_of_ne_nil l hne
   have hp':p∈Zv s.hold c:=by unfold Zv;rw[hl];exact hp
   obtain⟨h0,h1,e,he,_,hec⟩:=(hc.held c p).1 hp'
   have:=(hc.up p.1 h1 e he (by rw[hec];exact h0)).1
   rw[hec]at this;exact this
  rw[qH,qH]at h1
  have:=hb.few
  omega
 ·intro c
  unfold vQ
  show((Zv s.hold c).length:Int)<=_
  have hinj:((Zv s.hold c).map fun p=>p.1*5000+p.2).Nodup:=by
   refine List.pairwise_map.2 ((hc.ok.nodup c).imp_of_mem fun {p q} hp hq hne he=>hne ?_)
   obtain⟨_,p1,e,pe,ps,_⟩:=(hc.held c p).1 hp
   obtain⟨_,q1,f,qf,qs,_⟩:=(hc.held c q).1 hq
   obtain⟨l1,hl1⟩:=hc.dec p.1 p1
   obtain⟨l2,hl2⟩:=hc.dec q.1 q1
   have g1:=vZ hl1 (by rw[<-vV hl1];exact pe)
   have g2:=vZ hl2 (by rw[<-vV hl2];exact qf)
   have k1:(qj s.items p.1).code.length<=5000:=h5 p.1 p1
   have k2:(qj s.items q.1).code.length<=5000:=h5 q.1 q1
   have b1:=hb.pos p.1 p1
   have b2:=hb.pos q.1 q1
   have he:p.1*5000+p.2=q.1*5000+q.2:=he
   exact Prod.ext om om
  have hsub:∀ x∈(Zv s.hold c).map (fun p=>p.1*5000+p.2),x∈(List.range (5000*(m+1))).map (fun(i:Nat)=>(i:Int)):=fun x hx=>by
   obtain⟨p,hp,rfl⟩:=List.mem_map.1 hx
   obtain⟨_,p1,e,pe,ps,_⟩:=(hc.held c p).1 hp
   obtain⟨l1,hl1⟩:=hc.dec p.1 p1
   have g1:=vZ hl1 (by rw[<-vV hl1];exact pe)
   have k1:(qj s.items p.1).code.length<=5000:=h5 p.1 p1
   have b1:=hb.pos p.1 p1
   exact List.mem_map.2 ⟨(p.1*5000+p.2).toNat,List.mem_range.2 om,by omega⟩
  have:=q3M hinj hsub
  rw[List.length_map,List.length_map,List.length_range]at this
  omega
abbrev R5:Int->TR->Prop:=fun _ t=>t.code.length<=5000
theorem qAk:yF R5:=yF.len 5000
theorem PI.held{n k m:Nat}{len:Int}{s:qc}(h:PI R5 n len k m s)(hm:m<=100):s.hold.length<1000000/\∀ c,vQ s c<=1000000:=by
 obtain⟨h1,h2⟩:=qgU h.base h.q.ch h.q.all h.giv
 exact⟨h1,fun c=>by have:=h2 c;omega⟩
end Go.Fx.Ch
namespace Go.Fx.Tryz
open Go Go.Fx Go.Fx.Ch
open Go.Proofs
set_option linter.all false
set_option maxRecDepth 20000
variable {w0 w:World} {H X:qF} {K:KT} {s:qc} {L:qR} {q:LB}
theorem qrG{a:yr}(ha:q39 w0 H a)(hl:vL a=true):∀ x,R5 x a.tr:=fun x=>by
 obtain⟨_,h2,_,_⟩:=ha.tr hl
 unfold vL at hl
 rw[Bool.and_eq_true]at hl
 have:=of_decide_eq_true hl.1
 show a.code.length<=5000
 omega
end Go.Fx.Tryz
namespace Go.Fx.Tryz
open Go Go.Fx Go.Fx.Ch
open Go.Proofs
set_option linter.all false
set_option maxRecDepth 20000
variable {w0 w:World} {H X N Z:qF} {K:KT} {s:qc} {L:qR} {q:LB}
theorem q39.more{a:yr}(h:q39 w0 H a)(hX:qG w0 X):q39 w0 (X++H) a:=
 ⟨h.kd,h.tat,h.at_,fun hl=>by obtain⟨h1,h2,h3,h4⟩:=h.tr hl;exact⟨h1,h2,h3.more hX,h4.more hX⟩⟩
theorem Z6.more{ov:Value}{l:List yr}(h:Z6 w0 H ov l)(hX:qG w0 X):Z6 w0 (X++H) ov l:=
 ⟨fun w' h'=>h.row w' (h'.sub hX),fun a ha=>(h.each a ha).more hX,h.len⟩
theorem q3k.ptr{rv tv:Value}{rs:List SR}{Tb:qF}(h:q3k s rv tv N rs Tb){i:Nat}(hi:i<s.rows.length):∃ ra rc,rv=.slice (some ra) s.rows.length rc/\∀ (w':World),(∀ u∈N,w'.heap[u.1]?=some u.2)->∀ j (hj:j<rs.length),w'.cell? (ra.add (j*1))=some rs[j].v:=by
 rcases h.rows.2 with⟨h1,h2,_⟩ | ⟨g,cap,cur,h1,_⟩
 ·omega
 ·refine⟨_,_,h1,fun w' hm j hj=>?_⟩
  have hr:=h.rows.row hm
  rw[h1]at hr
  have hlen:=h.each.len
  rw[vj.one hr om,List.getElem?_map,List.getElem?_eq_getElem hj];rfl
theorem qtm.ptr{items:List (Int × TR)}{row:List Int}{r:SR}(h:qtm items row r){k:Nat}(hk:k<row.length):∃ ra rc,r.v=.slice (some ra) row.length rc/\∀ (w':World),(∀ u∈r.B,w'.heap[u.1]?=some u.2)->∀ j (hj:j<r.l.length) (i:Nat),i<4->w'.cell? ((ra.add (j*4)).add i)=(r.l[j].cs items)[i]?:=by
 have hl:r.l.length=row.length:=by rw[<-h.ids,List.length_map]
 rcases h.sl.2 with⟨h1,h2,_⟩ | ⟨g,cap,cur,h1,_⟩
 ·omega
 ·refine⟨_,_,h1,fun w' hm j hj i hi=>?_⟩
  have hr:=h.sl.row hm
  rw[h1]at hr
  exact vj.elem (f:=SV.cs items) (m:=4) (fun _=>rfl) hl hr hj hi
theorem q7e{items:List (Int × TR)}{l:List Int}(k:Nat):qB items (l.take k)<=qB items l:=by
 have h0:∀ l:List Int,0<=qB items l:=fun l=>by
  unfold qB
  induction l with
  | nil=>simp
  | cons x l ih=>simp only[List.map_cons,List.sum_cons];omega
 have:qB items l=qB items (l.take k)+qB items (l.drop k):=by
  conv=>lhs;rw[<-List.take_append_drop k l]
  unfold qB
  rw[List.map_append,List.sum_append]
 have:=h0 (l.drop k)
 omega
theorem q6B{items:List (Int × TR)}(l:List Int):0<=qB items l:=by
 unfold qB
 induction l with
 | nil=>simp
 | cons x l ih=>simp only[List.map_cons,List.sum_cons];omega
theorem q6j{items:List (Int × TR)}{l:List Int}{k:Nat}(hk:k<l.length):qB items (l.take (k+1))=qB items (l.take k)+((qj items l[k]).code.length:Int):=by
 rw[List.take_succ_eq_append_getElem hk]
 unfold qB
 rw[List.map_append,List.sum_append]
 simp
theorem q5Y{l:List (List Int)}(i:Nat):(l.take i).flatten.length<=l.flatten.length:=by
 conv=>rhs;rw[<-List.take_append_drop i l]
 rw[List.flatten_append,List.length_append];omega
theorem q2N{l:List (List Int)}{i:Nat}(hi:i<l.length):(l.take (i+1)).flatten.length=(l.take i).flatten.length+l[i].length:=by
 rw[List.take_succ_eq_append_getElem hi]
 simp only[List.flatten_append,List.flatten_cons,List.flatten_nil,List.append_nil,List.length_append]
theorem qDg{n4 n50 n k:Nat}{len:Int}{m:Nat}{rv tv:Value}{rs:List SR}{Tb:qF}(hPI:PI R5 n len k m s)(hm:m<=100)(hlen:len<=1048576)(hL:L.Ok w0 q s)(hg:zC H)(hn4:w0.heap.size<=n4)(hn50:w0.heap.size<=n50)(hX:qG w0 X)(hS:q3k s rv tv N rs Tb)(hN:qG w0 (N++((rs.map SR.blk).flatten++Tb)))
  (h:St w0 w ((n50,Cs (yh s rv tv) 73)::((N++((rs.map SR.blk).flatten++Tb))++(L.bl q s++(X++((n4,Cs (zw n len (2 ^ k:Nat)) 27)::H)))))) (hK:∀ w',St w0 w' H->K (.bool true) w') {cs:Array Value} {p:Option Addr} :
  qwL ⟨n50,0,none⟩ cs p false (some ⟨q.cb,0,none⟩) ⟨n4,0,none⟩ w K:=by
 rw[qt3,qvs,qu7]
 have hb:=hPI.base
 have hrl:=hb.rl
 have hfew:=hb.few
 have hflat:s.rows.flatten.length=s.items.length:=by rw[hb.rows.length_eq,qH]
 have hrsl:=hS.each.len
 have hmemN:∀ u∈N,u∈(n50,Cs (yh s rv tv) 73)::((N++((rs.map SR.blk).flatten++Tb))++(L.bl q s++(X++((n4,Cs (zw n len (2 ^ k:Nat)) 27)::H)))):=fun u hu=>.tail _ (List.mem_append_left _ (List.mem_append_left _ hu))
 have hmemR:∀ r∈rs,∀ u∈r.blk,u∈(n50,Cs (yh s rv tv) 73)::((N++((rs.map SR.blk).flatten++Tb))++(L.bl q s++(X++((n4,Cs (zw n len (2 ^ k:Nat)) 27)::H)))):=fun r hr u hu=>
  .tail _ (List.mem_append_left _ (List.mem_append_right _ (List.mem_append_left _ (List.mem_flatten.2 ⟨_,List.mem_map.2 ⟨r,hr,rfl⟩,hu⟩))))
 obtain⟨rva,rvc,hrv⟩:=hS.rows.form
 have c3:∀ w',St w0 w' ((n50,Cs (yh s rv tv) 73)::((N++((rs.map SR.blk).flatten++Tb))++(L.bl q s++(X++((n4,Cs (zw n len (2 ^ k:Nat)) 27)::H)))))->w'.cell? ((Addr.mk n50 0 none).add 3)=some (.slice rva s.rows.length rvc):=fun w' h'=>by
  rw[qa,h'.cell (k:=0) rfl,<-hrv];rfl
 have cf:∀ w',St w0 w' ((n50,Cs (yh s rv tv) 73)::((N++((rs.map SR.blk).flatten++Tb))++(L.bl q s++(X++((n4,Cs (zw n len (2 ^ k:Nat)) 27)::H)))))->∀ j,w'.cell? ((Addr.mk n4 0 none).add j)=(zw n len (2 ^ k:Nat))[j]?:=fun w' h' j=>by
  have hm:(n4,Cs (zw n len (2 ^ k:Nat)) 27)∈(n50,Cs (yh s rv tv) 73)::((N++((rs.map SR.blk).flatten++Tb))++(L.bl q s++(X++((n4,Cs (zw n len (2 ^ k:Nat)) 27)::H)))):=.tail _ (List.mem_append_right _ (List.mem_append_right _ (List.mem_append_right _ (.head _))))
  rw[qa,qw (h'.has _ _ hm),Nat.zero_add]
 refine⟨fun t e' w'=>∃ i:Nat,i<=s.rows.length/\t=s.rows.length-i/\e'=qi.mk 97 [(9,J i),(7,.pointer (some ⟨n50,0,none⟩)),(4,.bool false),(8,J ((s.rows.take i).flatten.length:Nat)),(5,.pointer (some ⟨q.cb,0,none⟩)),(2,.pointer (some ⟨n4,0,none⟩))] []/\
  St w0 w' ((n50,Cs (yh s rv tv) 73)::((N++((rs.map SR.blk).flatten++Tb))++(L.bl q s++(X++((n4,Cs (zw n len (2 ^ k:Nat)) 27)::H))))),⟨_,0,by omega,rfl,rfl,h⟩,?_⟩
 rintro t e' w1 ⟨i,hi,rfl,rfl,hs⟩
 show qtP ..
 rw[qql]
 refine⟨rva,s.rows.length,rvc,c3 w1 hs,?_⟩
 rw[qg]
 refine⟨fun hlt=>?_,fun hge=>?_⟩
 ·have hlt:=of_decide_eq_true hlt
  have hi:i<s.rows.length:=by omega
  have hr:=hS.each.each i hi om
  have hrm:rs[i]∈rs:=List.getElem_mem _
  obtain⟨ra,rc,hrv2,hcell⟩:=hS.ptr hi
  rw[hrv]at hrv2
  injection hrv2 with e1 _ e2
  subst e1;subst e2
  obtain⟨oa,oc,hov⟩:=hr.sl.form
  have hcr:∀ w',St w0 w' ((n50,Cs (yh s rv tv) 73)::((N++((rs.map SR.blk).flatten++Tb))++(L.bl q s++(X++((n4,Cs (zw n len (2 ^ k:Nat)) 27)::H)))))->w'.cell? (ra.add (i*1))=some (.slice oa s.rows[i].length oc):=fun w' h'=>by
   rw[hcell w' (fun u hu=>h'.has _ _ (hmemN u hu)) i om,hov]
  have hrlen:rs[i].l.length=s.rows[i].length:=by rw[<-hr.ids,List.length_map]
  have hfill:=hb.fill _ (List.getElem_mem hi)
  have hslen:=hb.len
  have hrowl:=hb.rowLen (List.getElem_mem hi)
  rw[qrm,qoW,qqe]
  refine⟨fun t e' w'=>∃ j:Nat,j<=s.rows[i].length/\t=s.rows[i].length-j/\e'=qi.mk 97 [(11,J j),(9,J i),(7,.pointer (some ⟨n50,0,none⟩)),(10,J (qB s.items (s.rows[i].take j))),(4,.bool false),(8,J ((s.rows.take i).flatten.length:Nat)),(5,.pointer (some ⟨q.cb,0,none⟩)),(2,.pointer (some ⟨n4,0,none⟩))] []/\
   St w0 w' ((n50,Cs (yh s rv tv) 73)::((N++((rs.map SR.blk).flatten++Tb))++(L.bl q s++(X++((n4,Cs (zw n len (2 ^ k:Nat)) 27)::H))))),⟨_,0,by omega,rfl,rfl,hs⟩,?_⟩
  rintro t e' w2 ⟨j,hj,rfl,rfl,hs2⟩
  show qjh ..
  rw[qeo]
  refine⟨some ra,s.rows.length,rvc,c3 w2 hs2,by omega,by omega,oa,s.rows[i].length,oc,by rw[Int.toNat_natCast];exact hcr w2 hs2,?_⟩
  rw[qg]
  refine⟨fun hlt2=>?_,fun hge2=>?_⟩
  ·have hlt2:=of_decide_eq_true hlt2
   have hj:j<s.rows[i].length:=by omega
   obtain⟨oa2,oc2,hov2,hcell2⟩:=hr.ptr hj
   rw[hov]at hov2
   injection hov2 with e1 _ e2
   subst e1;subst e2
   have hxm:rs[i].l[j]'om∈rs[i].l:=List.getElem_mem _
   have hsv:=hr.each _ hxm
   obtain⟨ca,cc,hcv⟩:=hsv.code.form
   have hid:(rs[i].l[j]'om).id=s.rows[i][j]:=by
    have:=congrArg (fun l=>l[j]?) hr.ids
    simp only[List.getElem?_map,List.getElem?_eq_getElem (show j<rs[i].l.length by omega),List.getElem?_eq_getElem hj,Option.map_some,Option.some.injEq]at this
    exact this
   rw[qpf]
   have htk:=q7e (items:=s.items) (l:=s.rows[i]) (j+1)
   have hz:=q6B (items:=s.items) (s.rows[i].take j)
   have hsucc:=q6j (items:=s.items) hj
   refine⟨some ra,s.rows.length,rvc,c3 w2 hs2,by omega,by omega,some oa2,s.rows[i].length,oc,by rw[Int.toNat_natCast];exact hcr w2 hs2,by omega,by omega,ca,(qj s.items s.rows[i][j]).code.length,cc,?_,?_⟩
   ·rw[Int.toNat_natCast,vw _ 1 2,hcell2 w2 (fun u hu=>hs2.has _ _ (hmemR _ hrm u (List.mem_append_left _ hu))) j om 3 om]
    show some (rs[i].l[j]'om).cv=_
    rw[hcv,hid]
   ·rw[qpe,qd (x:=qB s.items (s.rows[i].take j)+((qj s.items s.rows[i][j]).code.length:Nat)) om om,<-hsucc,qd om om]
    exact⟨_,by omega,j+1,by omega,rfl,rfl,hs2⟩
  ·have hge2:=of_decide_eq_false hge2
   have hjn:j=s.rows[i].length:=by omega
   subst hjn
   rw[List.take_length]
   have hsl2:s.len=len:=hPI.len
   have hts:=q2N hi
   have htl:=q5Y (l:=s.rows) (i+1)
   rw[qqt]
   refine⟨some ra,s.rows.length,rvc,c3 w2 hs2,by omega,by omega,oa,s.rows[i].length,oc,by rw[Int.toNat_natCast];exact hcr w2 hs2,len,cf w2 hs2 1,?_⟩
   rw[decide_eq_false (show ¬ (qB s.items s.rows[i] > len)by omega),qb,qrc,qd (x:=(i:Int)+1) om om,qd om om]
   refine⟨_,?_,i+1,by omega,rfl,?_,hs2⟩
   ·omega
   ·rw[hts];rfl
 ·have hge:=of_decide_eq_false hge
  have hin:i=s.rows.length:=by omega
  subst hin
  rw[List.take_length]
  have hn:s.rows.length=n:=hPI.rl
  rw[qr0]
  have hgA:zC ((n50,Cs (yh s rv tv) 73)::((N++((rs.map SR.blk).flatten++Tb))++(L.bl q s++(X++((n4,Cs (zw n len (2 ^ k:Nat)) 27)::H))))):=hg.mono fun v hv=>.tail _ (List.mem_append_right _ (List.mem_append_right _ (List.mem_append_right _ (.tail _ hv))))
  refine q6G hs hgA fun w2 h2=>⟨_,rfl,?_⟩
  have c0:w2.cell? (Addr.mk n4 0 none)=some (J n):=by
   have:=cf w2 h2 0
   rw[qa,Nat.zero_add]at this
   exact this
  rw[qe]
  refine⟨rva,s.rows.length,rvc,c3 w2 h2,n,c0,?_⟩
  rw[hn,beq_self_eq_true,qe]
  refine⟨((2 ^ k:Nat):Int),cf w2 h2 2,by decide,?_⟩
  rw[qxM (by have:=hb.k4;rw[hPI.k]at this;exact this) (by have:=hb.k16;rw[hPI.k]at this;exact this)]
  have hlim:=hb.lim
  unfold yQ at hlim
  rw[hPI.k]at hlim
  rw[decide_eq_true (show((s.rows.flatten.length:Nat):Int)<=((2 ^ k / 4*3:Nat):Int)by omega),qe]
  obtain⟨hh1,hh2⟩:=hPI.held hm
  have h3:St w0 w2 (L.bl q s++((n50,Cs (yh s rv tv) 73)::((N++((rs.map SR.blk).flatten++Tb))++(X++((n4,Cs (zw n len (2 ^ k:Nat)) 27)::H))))):=h2.perm (qn fun c=>by simp only[List.map_append,List.map_cons,List.sum_append,List.sum_cons];omega)
  refine q7G h3 hL hb.fit.rows hh1 hh2 fun w3 h4=>⟨_,rfl,_,rfl,?_⟩
  rw[qp8,hflat,beq_self_eq_true]
  exact hK w3 (((((h4.sub hL.newB).tail hn50).sub hN).sub hX).tail hn4)
theorem qzJ{aa:Option Addr}{ac:Nat}{l:List yr}{sec len slots:Int}(hl:Z6 w0 H (.slice aa l.length ac) l)(hg:zC H)(h:St w0 w H)(hK:∀ w',St w0 w' H->K (.bool true) w') :
  q9 P 6 [.agg #[J sec,J len,J slots],.slice aa l.length ac] w K:=by
 refine qKD _ _ _ _ _ _ ?_
 rw[qKq,qsC]
 refine h.newC fun n4 w5 hn4 h5=>?_
 have h5:St w0 w5 ([(n4,Cs (zw sec len slots) 27)]++H):=h5
 have hX:qG w0 [(n4,Cs (zw sec len slots) 27)]:=fun v hv=>by rw[List.mem_singleton.1 hv];exact hn4
 have hg5:zC ([(n4,Cs (zw sec len slots) 27)]++H):=hg.mono fun v hv=>List.mem_append_right _ hv
 rw[qtF]
 refine qGn (m:=60) h5 hX hl fun w6 h6=>⟨_,rfl,?_⟩
 rw[qg]
 refine⟨fun hf=>q6G h6 hg5 fun w7 h7=>⟨_,rfl,hK w7 (h7.sub hX)⟩,fun hf=>?_⟩
 have hf:q40 l 60=true:=by rw[Bool.not_eq_false']at hf;exact hf
 obtain⟨hlen,hlt⟩:=qhy hf
 rw[qsV]
 have h6':St w0 w6 ((n4,Cs (zw sec len slots) 27)::H):=h6
 refine h6'.ldA (k:=0) rfl (by simp) ?_
 refine qre (X:=[]) (hl.more hX) hlt qAk (fun a ha=>qrG (hl.each a ha) (hlt a ha)) hg5 (qG.nil _) h6 (fun hcf w7 X' hX' h7=>⟨_,_,rfl,?_⟩) (fun n k hn hk h1 h16 hk4 hk16 hl0 hl1 hcf w7 q L s X' hPI _ hL hX' h7=>⟨_,_,rfl,?_⟩)
 ·rw[qay,Bool.not_false,qe]
  refine q6G h7 (hg5.mono fun v hv=>List.mem_append_right _ hv) fun w8 h8=>⟨_,rfl,?_⟩
  rw[qe]
  have h9:St w0 w8 ((n4,Cs (zw sec len slots) 27)::(X'++H)):=h8.perm (qn fun c=>by simp only[List.map_append,List.map_cons,List.map_nil,List.sum_append,List.sum_cons,List.sum_nil];omega)
  refine h9.ldA (k:=0) rfl (by simp) ?_
  refine qwT hcf h9 fun w9 h10=>⟨_,rfl,?_⟩
  rw[qsv]
  exact hK w9 ((h10.tail hn4).sub hX')
 subst hn;subst hk
 rw[qay,Bool.not_true,qb,qwS]
 refine qAc h7 hL hPI.base.fit.rows fun w8 rv tv N Tb rs hS hN h8=>⟨_,rfl,?_⟩
 rw[ZO]
 obtain⟨ra,rc,e1⟩:=hS.rows.form
 obtain⟨ta,tc,e2⟩:=hS.tab.form
 refine h8.newC fun n50 w9 hn50 h9=>h9.stA (k:=0) rfl rfl (by simp[yh]) (by rw[e1,e2];simp[yh,Value.oneCell']) fun w10 h10=>?_
 have h10:St w0 w10 ((n50,Cs (yh s rv tv) 73)::((N++((rs.map SR.blk).flatten++Tb))++(L.bl q s++(X'++((n4,Cs (zw n len (2 ^ k:Nat)) 27)::H))))):=h10
 exact qDg hPI om hl1 hL hg hn4 hn50 hX' hS hN h10 hK
end Go.Fx.Tryz
