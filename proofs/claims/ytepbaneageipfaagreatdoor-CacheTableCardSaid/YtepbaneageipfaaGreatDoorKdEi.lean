/- A part of the proof. -/
import Derived.Test.YtepbaneageipfaaGreatDoorKaEi
import Derived.KernelRfl
import Derived.Test.YtepbaneageipfaaGreatDoorKcEi
import Derived.Sort.Walk13a
import Derived.Test.YtepbaneageipfaaGreatDoorKbEi
set_option linter.all false
set_option autoImplicit true
set_option relaxedAutoImplicit true
noncomputable section
namespace Go.Fx.Tryz
set_option maxRecDepth 100000
open Go Go.Fx Go.Proofs
def zh:=qm Tryz.f150
def qLo:=Tryz.f150.results.toList
abbrev qY K:=qr P qLo K
def f150 a b c d e f w K:=CS P zh none [8,9] [8,9] (qY K) (qz 168 [(VS a b c),(VI d),(VI e),(VI f)]) w
def qlS a b c d e f w K:=SC zh 1 [8,9] [8,9] (qY K) 168 [(0,VS a b c),(1,VI d),(2,VI e),(3,VI f)] w
abbrev qzt K:=kq zh 1 [8,9] [8,9] (qY K)
def qkZ a b c d e f g w K:=SC zh 3 [8,9] [8,9] (qY K) 168 [(9,VB false),(8,VI a),(0,VS b c d),(1,VI e),(2,VI f),(3,VI g)] w
abbrev qEg K:=kq zh 3 [8,9] [8,9] (qY K)
def qj8 a b c d f g h w K:=SG zh 7 [8,9] [8,9] (qY K) 168 [(8,VI a),(9,VB b),(0,VS c d f),(1,VI g),(2,VI h)] w
abbrev qE5 K:=kq zh 7 [8,9] [8,9] (qY K)
def qlg a b c d e f g h i j k l m w K:=SC zh 15 [8,9] [8,9] (qY K) 168 [(11,VI a),(10,VI b),(29,VI c),(28,VI d),(27,VI e),(26,VI f),(8,VI g),(9,VB h),(0,VS i j k),(1,VI l),(2,VI m)] w
abbrev qlY K:=kq zh 15 [8,9] [8,9] (qY K)
abbrev q7l K:=qo 0 (qlY K)
def qua K Y4 e w:=zt (fun e w=>CS P (cA zh 120) none [10,8,9,11,0,1] [8,9,11,0,1,10] (qu [10,8,9,11,0,1] Y4 (q7l K)) e w) e w
abbrev VG K Y4:=qu [10,8,9,11,0,1] Y4 (q7l K)
def qba a b c d f g h i w K Y4:=SG zh 120 [10,8,9,11,0,1] [8,9,11,0,1,10] (VG K Y4) 168 [(10,VI a),(8,VI b),(9,VB c),(11,VI d),(0,VS f g h),(1,VI i)] w
abbrev q6s K Y4:=kq zh 120 [10,8,9,11,0,1] [8,9,11,0,1,10] (VG K Y4)
abbrev qA9 K Y4:=kq zh 240 [8,9,11,0,1,10] [8,9,11,0,1,10] (q6s K Y4)
def q7P a b c d f g h i j w K Y4:=SG zh 481 [8,9,11,0,1,10] [8,9,11,0,1,10] (q6s K Y4) 168 [(43,VB a),(8,VI b),(9,VB c),(11,VI d),(0,VS f g h),(1,VI i),(10,VI j)] w
def qkD a b c d f g h i w K Y4:=SG zh 241 [10,8,9,11,0,1] [8,9,11,0,1,10] (VG K Y4) 168 [(8,VI a),(9,VB b),(11,VI c),(0,VS d f g),(1,VI h),(10,VI i)] w
abbrev qDl K Y4:=qo 1 (VG K Y4)
theorem qes:qkD a c d e f g h i w K Y4=(Y4 (qi.mk 168 [(10,(Value.int .i64 (IntKind.wrap .i64 (i+1)))),(8,(Value.int .i64 a)),(9,(Value.bool c)),(11,(Value.int .i64 d)),(0,(Value.slice e f g)),(1,(Value.int .i64 h))] []) w):=qB (Q8 1 [8,9,11,0,1,10] (qDl K Y4) kr)
def q6M a b c d f g h i w K:=SG zh 31 [8,9] [8,9] (qY K) 168 [(11,VI a),(8,VI b),(9,VB c),(0,VS d f g),(1,VI h),(10,VI i)] w
abbrev qlZ K:=kq zh 31 [8,9] [8,9] (qY K)
abbrev q6f K:=qo 2 (qlZ K)
def qy5 K Y8 e w:=zt (fun e w=>CS P (cA zh 248) none [11,8,9,0,1,10] [8,9,11,0,1,10] (qu [11,8,9,0,1,10] Y8 (q6f K)) e w) e w
abbrev V7 K Y8:=qu [11,8,9,0,1,10] Y8 (q6f K)
def q9n a b c d f g h i w K Y8:=SG zh 248 [11,8,9,0,1,10] [8,9,11,0,1,10] (V7 K Y8) 168 [(11,VI a),(8,VI b),(9,VB c),(0,VS d f g),(1,VI h),(10,VI i)] w
abbrev q1z K Y8:=kq zh 248 [11,8,9,0,1,10] [8,9,11,0,1,10] (V7 K Y8)
abbrev qwQ K Y8:=kq zh 496 [8,9,0,1,10,11] [8,9,11,0,1,10] (q1z K Y8)
def q5w a b c d f g h i j w K Y8:=SG zh 993 [8,9,0,1,10,11] [8,9,11,0,1,10] (q1z K Y8) 168 [(60,VB a),(8,VI b),(9,VB c),(0,VS d f g),(1,VI h),(10,VI i),(11,VI j)] w
def q8X a b c d f g h i w K Y8:=SG zh 497 [11,8,9,0,1,10] [8,9,11,0,1,10] (V7 K Y8) 168 [(8,VI a),(9,VB b),(0,VS c d f),(1,VI g),(10,VI h),(11,VI i)] w
abbrev qwe K Y8:=qo 3 (V7 K Y8)
theorem qaB:q8X a c d e f g h i w K Y8=(Y8 (qi.mk 168 [(11,(Value.int .i64 (IntKind.wrap .i64 (i-1)))),(8,(Value.int .i64 a)),(9,(Value.bool c)),(0,(Value.slice d e f)),(1,(Value.int .i64 g)),(10,(Value.int .i64 h))] []) w):=qB (Q8 3 [8,9,11,0,1,10] (qwe K Y8) kr)
def q27 a b c d f g h i w K:=SG zh 63 [8,9] [8,9] (qY K) 168 [(11,VI a),(0,VS b c d),(1,VI f),(8,VI g),(9,VB h),(10,VI i)] w
abbrev YU K:=kq zh 63 [8,9] [8,9] (qY K)
abbrev qy1 K:=kq zh 126 [8,9,0,1,11,10] [8,9] (YU K)
def qcc a w K:=SG zh 1013 [8,9,0,1,11,10] [8,9] (YU K) 168 [(11,VI a)] w
abbrev qxT K:=kq zh 1013 [8,9,0,1,11,10] [8,9] (YU K)
theorem qbK:qcc c w K=(K (Value.tuple #[(Value.int .i64 c),(Value.bool true)]) w):=qB (qG [8,9] (qxT K) kr)
def qcf a b c d f g h i w K:=SG zh 127 [8,9] [8,9] (qY K) 168 [(8,VI a),(9,VB b),(0,VS c d f),(1,VI g),(11,VI h),(10,VI i)] w
abbrev qyf K:=kq zh 127 [8,9] [8,9] (qY K)
def qc0 a b c d f g h i w K:=SG zh 255 [8,9] [8,9] (qY K) 168 [(8,VI a),(9,VB b),(0,VS c d f),(1,VI g),(11,VI h),(10,VI i)] w
abbrev qsv K:=kq zh 255 [8,9] [8,9] (qY K)
def qat a b c d e f g h i j k w K:=SC zh 511 [8,9] [8,9] (qY K) 168 [(10,VI a),(96,VI b),(95,VI c),(8,VI d),(9,VB e),(0,VS f g h),(1,VI i),(11,VI j),(10,VI k)] w
abbrev qvF K:=kq zh 511 [8,9] [8,9] (qY K)
def qcu a b c d e f g h i j k l m n w K:=SC zh 1023 [8,9] [8,9] (qY K) 168 [(11,VI a),(98,VI b),(97,VI c),(10,VI d),(96,VI e),(95,VI f),(8,VI g),(9,VB h),(0,VS i j k),(1,VI l),(11,VI m),(10,VI n)] w
abbrev q9u K:=kq zh 1023 [8,9] [8,9] (qY K)
abbrev q3A K:=qo 4 (q9u K)
def q4B K Y17 e w:=zt (fun e w=>CS P (cA zh 8184) none [10,8,9,11,0,1] [8,9,11,0,1] (qu [10,8,9,11,0,1] Y17 (q3A K)) e w) e w
abbrev q4R K Y17:=qu [10,8,9,11,0,1] Y17 (q3A K)
def q4D a b c d f g h i w K Y17:=SG zh 8184 [10,8,9,11,0,1] [8,9,11,0,1] (q4R K Y17) 168 [(10,VI a),(8,VI b),(9,VB c),(11,VI d),(0,VS f g h),(1,VI i)] w
abbrev yW K Y17:=qo 5 (q4R K Y17)
abbrev q8r K Y17:=kq zh 16368 [10,8,9,11,0,1] [8,9,11,0,1,10] (yW K Y17)
abbrev q2D K Y17:=qo 6 (q8r K Y17)
def qqA K Y17 Y18 e w:=zt (fun e w=>CS P (cA zh 130944) none [10,8,9,11,0,1] [8,9,11,0,1,10] (qu [10,8,9,11,0,1] Y18 (q2D K Y17)) e w) e w
abbrev ZT K Y17 Y18:=qu [10,8,9,11,0,1] Y18 (q2D K Y17)
def q4d a b c d f g h i w K Y17 Y18:=SG zh 130944 [10,8,9,11,0,1] [8,9,11,0,1,10] (ZT K Y17 Y18) 168 [(10,VI a),(8,VI b),(9,VB c),(11,VI d),(0,VS f g h),(1,VI i)] w
abbrev q3v K Y17 Y18:=kq zh 130944 [10,8,9,11,0,1] [8,9,11,0,1,10] (ZT K Y17 Y18)
abbrev qxb K Y17 Y18:=kq zh 261888 [8,9,11,0,1,10] [8,9,11,0,1,10] (q3v K Y17 Y18)
def q3J a b c d f g h i j w K Y17 Y18:=SG zh 523777 [8,9,11,0,1,10] [8,9,11,0,1,10] (q3v K Y17 Y18) 168 [(112,VB a),(8,VI b),(9,VB c),(11,VI d),(0,VS f g h),(1,VI i),(10,VI j)] w
def qaf a b c d f g h i w K Y17 Y18:=SG zh 261889 [10,8,9,11,0,1] [8,9,11,0,1,10] (ZT K Y17 Y18) 168 [(8,VI a),(9,VB b),(11,VI c),(0,VS d f g),(1,VI h),(10,VI i)] w
abbrev qtb K Y17 Y18:=qo 7 (ZT K Y17 Y18)
theorem qae:qaf a c d e f g h i w K Y17 Y18=(Y18 (qi.mk 168 [(10,(Value.int .i64 (IntKind.wrap .i64 (i+1)))),(8,(Value.int .i64 a)),(9,(Value.bool c)),(11,(Value.int .i64 d)),(0,(Value.slice e f g)),(1,(Value.int .i64 h))] []) w):=qB (Q8 7 [8,9,11,0,1,10] (qtb K Y17 Y18) kr)
def q2z a b c d f g h i w K Y17:=SG zh 32737 [10,8,9,11,0,1] [8,9,11,0,1,10] (yW K Y17) 168 [(11,VI a),(8,VI b),(9,VB c),(0,VS d f g),(1,VI h),(10,VI i)] w
abbrev q9i K Y17:=kq zh 32737 [10,8,9,11,0,1] [8,9,11,0,1,10] (yW K Y17)
abbrev q32 K Y17:=qo 8 (q9i K Y17)
def qp7 K Y17 Y22 e w:=zt (fun e w=>CS P (cA zh 261896) none [11,8,9,0,1,10] [8,9,11,0,1,10] (qu [11,8,9,0,1,10] Y22 (q32 K Y17)) e w) e w
abbrev ZL K Y17 Y22:=qu [11,8,9,0,1,10] Y22 (q32 K Y17)
def q4Y a b c d f g h i w K Y17 Y22:=SG zh 261896 [11,8,9,0,1,10] [8,9,11,0,1,10] (ZL K Y17 Y22) 168 [(11,VI a),(8,VI b),(9,VB c),(0,VS d f g),(1,VI h),(10,VI i)] w
abbrev q3O K Y17 Y22:=kq zh 261896 [11,8,9,0,1,10] [8,9,11,0,1,10] (ZL K Y17 Y22)
abbrev qtv K Y17 Y22:=kq zh 523792 [8,9,0,1,10,11] [8,9,11,0,1,10] (q3O K Y17 Y22)
def q33 a b c d f g h i j w K Y17 Y22:=SG zh 1047585 [8,9,0,1,10,11] [8,9,11,0,1,10] (q3O K Y17 Y22) 168 [(129,VB a),(8,VI b),(9,VB c),(0,VS d f g),(1,VI h),(10,VI i),(11,VI j)] w
def q8C a b c d f g h i w K Y17 Y22:=SG zh 523793 [11,8,9,0,1,10] [8,9,11,0,1,10] (ZL K Y17 Y22) 168 [(8,VI a),(9,VB b),(0,VS c d f),(1,VI g),(10,VI h),(11,VI i)] w
abbrev qy0 K Y17 Y22:=qo 9 (ZL K Y17 Y22)
theorem qa7:q8C a c d e f g h i w K Y17 Y22=(Y22 (qi.mk 168 [(11,(Value.int .i64 (IntKind.wrap .i64 (i-1)))),(8,(Value.int .i64 a)),(9,(Value.bool c)),(0,(Value.slice d e f)),(1,(Value.int .i64 g)),(10,(Value.int .i64 h))] []) w):=qB (Q8 9 [8,9,11,0,1,10] (qy0 K Y17 Y22) kr)
def q1E a b c d f g h i w K Y17:=SG zh 65475 [10,8,9,11,0,1] [8,9,11,0,1,10] (yW K Y17) 168 [(8,VI a),(9,VB b),(11,VI c),(0,VS d f g),(1,VI h),(10,VI i)] w
abbrev qav K Y17:=kq zh 65475 [10,8,9,11,0,1] [8,9,11,0,1,10] (yW K Y17)
abbrev qvw K Y17:=kq zh 130950 [8,9,0,1,11,10] [8,9,11,0,1,10] (qav K Y17)
def q87 a b c d f w K:=SG zh 2047 [8,9] [8,9] (qY K) 168 [(11,VI a),(0,VS b c d),(1,VI f)] w
abbrev qsQ K:=kq zh 2047 [8,9] [8,9] (qY K)
def q95 a w K:=SG zh 4095 [8,9] [8,9] (qY K) 168 [(11,VI a)] w
abbrev qxH K:=kq zh 4095 [8,9] [8,9] (qY K)
theorem qcn:q95 c w K=(K (Value.tuple #[(Value.int .i64 c),(Value.bool false)]) w):=qB (qG [8,9] (qxH K) kr)
theorem qcL:q87 c e f g d w K=(qh e (fun j=>0<=d/\d<(f:Nat)/\qh e (fun k=>0<=c/\c<(f:Nat)/\∃ h:Int,w.drew.cell? (j.add (Int.toNat d*1))=some (.int .u32 h)/\∃ i:Int,w.drew.cell? (k.add (Int.toNat c*1))=some (.int .u32 i)/\qh e (fun l=>0<=c/\c<(f:Nat)/\zW (l.add (Int.toNat c*1)) (Value.int .u32 h) w.drew (fun m=>qh e (fun n=>0<=d/\d<(f:Nat)/\zW (n.add (Int.toNat d*1)) (Value.int .u32 i) m (fun o=>q95 c o K))))))):=qB (qG [11] (qsQ K) kr)
def qam a b c d f g h i w K Y17:=SG zh 130951 [10,8,9,11,0,1] [8,9,11,0,1,10] (yW K Y17) 168 [(8,VI a),(9,VB b),(0,VS c d f),(1,VI g),(11,VI h),(10,VI i)] w
abbrev quG K Y17:=kq zh 130951 [10,8,9,11,0,1] [8,9,11,0,1,10] (yW K Y17)
def qcN a b c d f g h i w K Y17:=SG zh 261903 [10,8,9,11,0,1] [8,9,11,0,1,10] (yW K Y17) 168 [(8,VI a),(9,VB b),(0,VS c d f),(1,VI g),(11,VI h),(10,VI i)] w
abbrev qwb K Y17:=kq zh 261903 [10,8,9,11,0,1] [8,9,11,0,1,10] (yW K Y17)
theorem q8s:qcN c d e f g h i j w K Y17=(Y17 (qi.mk 168 [(10,(Value.int .i64 (IntKind.wrap .i64 (j+1)))),(8,(Value.int .i64 c)),(9,(Value.bool d)),(11,(Value.int .i64 (IntKind.wrap .i64 (i-1)))),(0,(Value.slice e f g)),(1,(Value.int .i64 h))] []) w):=qB (qG [10,8,9,0,1,11] (qwb K Y17) kr)
theorem q9F:qam g h e f i j c d w K Y17=(qh e (fun m=>0<=c/\c<(f:Nat)/\qh e (fun n=>0<=d/\d<(f:Nat)/\∃ k:Int,w.drew.cell? (m.add (Int.toNat c*1))=some (.int .u32 k)/\∃ l:Int,w.drew.cell? (n.add (Int.toNat d*1))=some (.int .u32 l)/\qh e (fun o=>0<=d/\d<(f:Nat)/\zW (o.add (Int.toNat d*1)) (Value.int .u32 k) w.drew (fun p=>qh e (fun q=>0<=c/\c<(f:Nat)/\zW (q.add (Int.toNat c*1)) (Value.int .u32 l) p (fun r=>qcN g h e f i j c d r K Y17))))))):=qB (qG [8,9,0,1,11,10] (quG K Y17) kr)
theorem qaa:q1E i j c d e f g h w K Y17=(qp (decide (h > c)) (q87 c d e f g w K) (qam i j d e f g c h w K Y17)):=qB (qG [8,9,0,1,11,10] (qav K Y17) (qG [134,8,9,11,0,1,10] (qvw K Y17) kr))
theorem q0d:q33 j a c d e f g h i w K Y17 Y22=(qp j (q8C a c d e f g h i w K Y17 Y22) (q1E a c i d e f g h w K Y17)):=qB kr
theorem q5e:q4Y c h i e f j d g w K Y17 Y22=(qp (decide (g<=c)) (qh e (fun n=>0<=c/\c<(f:Nat)/\qh e (fun o=>0<=d/\d<(f:Nat)/\∃ k:Int,w.drew.cell? (n.add (Int.toNat c*1))=some (.int .u32 k)/\∃ l:Int,w.drew.cell? (o.add (Int.toNat d*1))=some (.int .u32 l)/\q9 P 148 [(Value.int .u32 k),(Value.int .u32 l)] w.drew (fun p q=>∃ m:Bool,p=(.bool m)/\q33 (!m) h i e f j d g c q K Y17 Y22)))) (q33 false h i e f j d g c w.drew K Y17 Y22)):=qB (qG [8,9,0,1,10,11] (q3O K Y17 Y22) (qG [129,8,9,0,1,10,11] (qtv K Y17 Y22) kr))
theorem q8u:q2z c d e f g h i j w K Y17=(qK (qp7 K Y17) (qi.mk 168 [(11,(Value.int .i64 c)),(8,(Value.int .i64 d)),(9,(Value.bool e)),(0,(Value.slice f g h)),(1,(Value.int .i64 i)),(10,(Value.int .i64 j))] []) w):=qB (qG [8,9,11,0,1,10] (q9i K Y17) (Q8 8 [8,9,11,0,1,10] (q32 K Y17) (CSv [8,9,11,0,1,10] [11,8,9,0,1,10])))
theorem JR:q3J j a c d e f g h i w K Y17 Y18=(qp j (qaf a c d e f g h i w K Y17 Y18) (q2z d a c e f g h i w K Y17)):=qB kr
theorem q6x:q4d c h i g e f j d w K Y17 Y18=(qp (decide (c<=g)) (qh e (fun n=>0<=c/\c<(f:Nat)/\qh e (fun o=>0<=d/\d<(f:Nat)/\∃ k:Int,w.drew.cell? (n.add (Int.toNat c*1))=some (.int .u32 k)/\∃ l:Int,w.drew.cell? (o.add (Int.toNat d*1))=some (.int .u32 l)/\q9 P 148 [(Value.int .u32 k),(Value.int .u32 l)] w.drew (fun p q=>∃ m:Bool,p=(.bool m)/\q3J m h i g e f j d c q K Y17 Y18)))) (q3J false h i g e f j d c w.drew K Y17 Y18)):=qB (qG [8,9,11,0,1,10] (q3v K Y17 Y18) (qG [112,8,9,11,0,1,10] (qxb K Y17 Y18) kr))
theorem q6A:q4D c d e f g h i j w K Y17=(qK (qqA K Y17) (qi.mk 168 [(10,(Value.int .i64 c)),(8,(Value.int .i64 d)),(9,(Value.bool e)),(11,(Value.int .i64 f)),(0,(Value.slice g h i)),(1,(Value.int .i64 j))] []) w):=qB (Q8 5 [8,9,11,0,1,10] (yW K Y17) (qG [11,8,9,0,1,10] (q8r K Y17) (Q8 6 [8,9,11,0,1,10] (q2D K Y17) (CSv [8,9,11,0,1,10] [10,8,9,11,0,1]))))
theorem qcj:qcu c k l d m n e f g h i j o p w K=(qK (q4B K) (qi.mk 168 [(10,(Value.int .i64 d)),(8,(Value.int .i64 e)),(9,(Value.bool f)),(11,(Value.int .i64 c)),(0,(Value.slice g h i)),(1,(Value.int .i64 j))] []) w):=Eq.trans (b:=CS P (cA zh 1023) none [8,9] [8,9] (qY K) (qi.mk 168 [(11,(VI c)),(98,(VI k)),(97,(VI l)),(10,(VI d)),(96,(VI m)),(95,(VI n)),(8,(VI e)),(9,(VB f)),(0,(VS g h i)),(1,(VI j)),(11,(VI o)),(10,(VI p))] []) w) kr (Eq.trans (qZ [11,0,1] (q9u K) kr) (Eq.trans (Zc 4 [8,9,11,0,1] (q3A K) kr) ((qS (b:=(cA zh 8184)) (X':=[8,9,11,0,1]) (H:=[10,8,9,11,0,1]) kr kr kr).trans kr)))
theorem qc7:qat d e f g h i j k l c m w K=(qcu (IntKind.wrap .i64 (c-1)) (IntKind.wrap .i64 (c-1)) c d e f g h i j k l c m w K):=Eq.trans (b:=CS P (cA zh 511) none [8,9] [8,9] (qY K) (qi.mk 168 [(10,(VI d)),(96,(VI e)),(95,(VI f)),(8,(VI g)),(9,(VB h)),(0,(VS i j k)),(1,(VI l)),(11,(VI c)),(10,(VI m))] []) w) kr (Eq.trans (qZ [10,8,9,11,0,1] (qvF K) kr) kr)
theorem qaE:qc0 d e f g h i j c w K=(qat (IntKind.wrap .i64 (c+1)) (IntKind.wrap .i64 (c+1)) c d e f g h i j c w K):=qB (qG [10,8,9,0,1,11] (qsv K) kr)
theorem q8h:qcf g h e f i j c d w K=(qh e (fun m=>0<=c/\c<(f:Nat)/\qh e (fun n=>0<=d/\d<(f:Nat)/\∃ k:Int,w.drew.cell? (m.add (Int.toNat c*1))=some (.int .u32 k)/\∃ l:Int,w.drew.cell? (n.add (Int.toNat d*1))=some (.int .u32 l)/\qh e (fun o=>0<=d/\d<(f:Nat)/\zW (o.add (Int.toNat d*1)) (Value.int .u32 k) w.drew (fun p=>qh e (fun q=>0<=c/\c<(f:Nat)/\zW (q.add (Int.toNat c*1)) (Value.int .u32 l) p (fun r=>qc0 g h e f i j c d r K))))))):=qB (qG [8,9,0,1,11,10] (qyf K) kr)
theorem qcs:q27 c e f h d i j g w K=(qp (decide (g > c)) (qh e (fun m=>0<=d/\d<(f:Nat)/\qh e (fun n=>0<=c/\c<(f:Nat)/\∃ k:Int,w.drew.cell? (m.add (Int.toNat d*1))=some (.int .u32 k)/\∃ l:Int,w.drew.cell? (n.add (Int.toNat c*1))=some (.int .u32 l)/\qh e (fun o=>0<=c/\c<(f:Nat)/\zW (o.add (Int.toNat c*1)) (Value.int .u32 k) w.drew (fun p=>qh e (fun q=>0<=d/\d<(f:Nat)/\zW (q.add (Int.toNat d*1)) (Value.int .u32 l) p (fun r=>qcc c r K))))))) (qcf i j e f h d c g w K)):=qB (qG [8,9,0,1,11,10] (YU K) (qG [65,11,0,1,8,9,10] (qy1 K) kr))
theorem q22:q5w j a c d e f g h i w K Y8=(qp j (q8X a c d e f g h i w K Y8) (q27 i d e f g a c h w K)):=qB kr
theorem q9X:q9n c h i e f j d g w K Y8=(qp (decide (g<=c)) (qh e (fun n=>0<=c/\c<(f:Nat)/\qh e (fun o=>0<=d/\d<(f:Nat)/\∃ k:Int,w.drew.cell? (n.add (Int.toNat c*1))=some (.int .u32 k)/\∃ l:Int,w.drew.cell? (o.add (Int.toNat d*1))=some (.int .u32 l)/\q9 P 148 [(Value.int .u32 k),(Value.int .u32 l)] w.drew (fun p q=>∃ m:Bool,p=(.bool m)/\q5w (!m) h i e f j d g c q K Y8)))) (q5w false h i e f j d g c w.drew K Y8)):=qB (qG [8,9,0,1,10,11] (q1z K Y8) (qG [60,8,9,0,1,10,11] (qwQ K Y8) kr))
theorem qdO:q6M c d e f g h i j w K=(qK (qy5 K) (qi.mk 168 [(11,(Value.int .i64 c)),(8,(Value.int .i64 d)),(9,(Value.bool e)),(0,(Value.slice f g h)),(1,(Value.int .i64 i)),(10,(Value.int .i64 j))] []) w):=qB (qG [11,0,1,8,9,10] (qlZ K) (Q8 2 [8,9,11,0,1,10] (q6f K) (CSv [8,9,11,0,1,10] [11,8,9,0,1,10])))
theorem q34:q7P j a c d e f g h i w K Y4=(qp j (qkD a c d e f g h i w K Y4) (q6M d a c e f g h i w K)):=qB kr
theorem q8U:qba c h i g e f j d w K Y4=(qp (decide (c<=g)) (qh e (fun n=>0<=c/\c<(f:Nat)/\qh e (fun o=>0<=d/\d<(f:Nat)/\∃ k:Int,w.drew.cell? (n.add (Int.toNat c*1))=some (.int .u32 k)/\∃ l:Int,w.drew.cell? (o.add (Int.toNat d*1))=some (.int .u32 l)/\q9 P 148 [(Value.int .u32 k),(Value.int .u32 l)] w.drew (fun p q=>∃ m:Bool,p=(.bool m)/\q7P m h i g e f j d c q K Y4)))) (q7P false h i g e f j d c w.drew K Y4)):=qB (qG [8,9,11,0,1,10] (q6s K Y4) (qG [43,8,9,11,0,1,10] (qA9 K Y4) kr))
theorem qgR:qlg c d k l m n e f g h i j o w K=(qK (qua K) (qi.mk 168 [(10,(Value.int .i64 d)),(8,(Value.int .i64 e)),(9,(Value.bool f)),(11,(Value.int .i64 c)),(0,(Value.slice g h i)),(1,(Value.int .i64 j))] []) w):=Eq.trans (b:=CS P (cA zh 15) none [8,9] [8,9] (qY K) (qi.mk 168 [(11,(VI c)),(10,(VI d)),(29,(VI k)),(28,(VI l)),(27,(VI m)),(26,(VI n)),(8,(VI e)),(9,(VB f)),(0,(VS g h i)),(1,(VI j)),(2,(VI o))] []) w) kr (Eq.trans (qZ [11,8,9,0,1,10] (qlY K) kr) (Eq.trans (Zc 0 [8,9,11,0,1,10] (q7l K) kr) ((qS (b:=(cA zh 120)) (X':=[8,9,11,0,1,10]) (H:=[10,8,9,11,0,1]) kr kr kr).trans kr)))
theorem qhb:qj8 e f g h i c d w K=(qlg (IntKind.wrap .i64 (d-1)) (IntKind.wrap .i64 (c+1)) (IntKind.wrap .i64 (d-1)) d (IntKind.wrap .i64 (c+1)) c e f g h i c d w K):=qB (qG [10,8,9,11,0,1] (qE5 K) kr)
theorem qcZ:qkZ g e f h c i d w K=(qh e (fun l=>0<=d/\d<(f:Nat)/\qh e (fun m=>0<=c/\c<(f:Nat)/\∃ j:Int,w.drew.cell? (l.add (Int.toNat d*1))=some (.int .u32 j)/\∃ k:Int,w.drew.cell? (m.add (Int.toNat c*1))=some (.int .u32 k)/\qh e (fun n=>0<=c/\c<(f:Nat)/\zW (n.add (Int.toNat c*1)) (Value.int .u32 j) w.drew (fun o=>qh e (fun p=>0<=d/\d<(f:Nat)/\zW (p.add (Int.toNat d*1)) (Value.int .u32 k) o (fun q=>qj8 g false e f h c i q K))))))):=Eq.trans (b:=CS P (cA zh 3) none [8,9] [8,9] (qY K) (qi.mk 168 [(9,(VB false)),(8,(VI g)),(0,(VS e f h)),(1,(VI c)),(2,(VI i)),(3,(VI d))] []) w) kr (Eq.trans (qZ [8,9,0,1,2] (qEg K) kr) kr)
theorem qfp:qlS c d e f g h w K=(qkZ 0 c d e f g h w K):=Eq.trans (b:=CS P (cA zh 1) none [8,9] [8,9] (qY K) (qi.mk 168 [(0,(VS c d e)),(1,(VI f)),(2,(VI g)),(3,(VI h))] []) w) kr (Eq.trans (qZ [8,9,0,1,2,3] (qzt K) kr) kr)
theorem qBy:f150 a b c d e f w K=(qlS a b c d e f w K):=kr
theorem qFk a b c d e f w K(h:f150 a b c d e f w K):q9 P 150 [(Value.slice a b c),(Value.int .i64 d),(Value.int .i64 e),(Value.int .i64 f)] w K:=qA zh Tryz.func150 h
def yj:=qm Tryz.f149
def qMx:=Tryz.f149.results.toList
abbrev yz K:=qr P qMx K
def f149 a b c d e f w K:=CS P yj none [8] [8] (yz K) (qz 84 [(VS a b c),(VI d),(VI e),(VI f)]) w
def qkz a b c d e f w K:=SC yj 1 [8] [8] (yz K) 84 [(0,VS a b c),(1,VI d),(2,VI e),(3,VI f)] w
abbrev qBs K:=kq yj 1 [8] [8] (yz K)
def qkw a b c d e f g w K:=SC yj 3 [8] [8] (yz K) 84 [(8,VI a),(0,VS b c d),(1,VI e),(2,VI f),(3,VI g)] w
abbrev qyU K:=kq yj 3 [8] [8] (yz K)
def qjs a b c d f g w K:=SG yj 7 [8] [8] (yz K) 84 [(8,VI a),(0,VS b c d),(1,VI f),(2,VI g)] w
abbrev qEY K:=kq yj 7 [8] [8] (yz K)
def qoh a b c d e f g h i j k l w K:=SC yj 15 [8] [8] (yz K) 84 [(10,VI a),(9,VI b),(28,VI c),(27,VI d),(26,VI e),(25,VI f),(8,VI g),(0,VS h i j),(1,VI k),(2,VI l)] w
abbrev qmG K:=kq yj 15 [8] [8] (yz K)
abbrev q69 K:=qo 0 (qmG K)
def qc5 K Y4 e w:=zt (fun e w=>CS P (cA yj 120) none [9,8,10,0,1] [8,9] (qu [9,8,10,0,1] Y4 (q69 K)) e w) e w
abbrev q8J K Y4:=qu [9,8,10,0,1] Y4 (q69 K)
def q8i a b c d f g h w K Y4:=SG yj 120 [9,8,10,0,1] [8,9] (q8J K Y4) 84 [(9,VI a),(8,VI b),(10,VI c),(0,VS d f g),(1,VI h)] w
abbrev je K Y4:=qo 1 (q8J K Y4)
abbrev qla K Y4:=kq yj 240 [9,8,10,0,1] [8,9,10,0,1] (je K Y4)
abbrev q6a K Y4:=qo 2 (qla K Y4)
def qys K Y4 Y5 e w:=zt (fun e w=>CS P (cA yj 1920) none [9,8,10,0,1] [8,9,10,0,1] (qu [9,8,10,0,1] Y5 (q6a K Y4)) e w) e w
abbrev V9 K Y4 Y5:=qu [9,8,10,0,1] Y5 (q6a K Y4)
def q93 a b c d f g h w K Y4 Y5:=SG yj 1920 [9,8,10,0,1] [8,9,10,0,1] (V9 K Y4 Y5) 84 [(9,VI a),(8,VI b),(10,VI c),(0,VS d f g),(1,VI h)] w
abbrev q5b K Y4 Y5:=kq yj 1920 [9,8,10,0,1] [8,9,10,0,1] (V9 K Y4 Y5)
abbrev qBO K Y4 Y5:=kq yj 3840 [8,10,0,1,9] [8,9,10,0,1] (q5b K Y4 Y5)
def q5v a b c d f g h i w K Y4 Y5:=SG yj 7681 [8,10,0,1,9] [8,9,10,0,1] (q5b K Y4 Y5) 84 [(43,VB a),(8,VI b),(10,VI c),(0,VS d f g),(1,VI h),(9,VI i)] w
def qmH a b c d f g h w K Y4 Y5:=SG yj 3841 [9,8,10,0,1] [8,9,10,0,1] (V9 K Y4 Y5) 84 [(8,VI a),(10,VI b),(0,VS c d f),(1,VI g),(9,VI h)] w
abbrev qyd K Y4 Y5:=qo 3 (V9 K Y4 Y5)
theorem qdq:qmH a c d e f g h w K Y4 Y5=(Y5 (qi.mk 84 [(9,(Value.int .i64 (IntKind.wrap .i64 (h+1)))),(8,(Value.int .i64 a)),(10,(Value.int .i64 c)),(0,(Value.slice d e f)),(1,(Value.int .i64 g))] []) w):=qB (Q8 3 [8,9,10,0,1] (qyd K Y4 Y5) kr)
def q6L a b c d f g h w K Y4:=SG yj 481 [9,8,10,0,1] [8,9,10,0,1] (je K Y4) 84 [(10,VI a),(8,VI b),(9,VI c),(0,VS d f g),(1,VI h)] w
abbrev qao K Y4:=kq yj 481 [9,8,10,0,1] [8,9,10,0,1] (je K Y4)
abbrev q3a K Y4:=qo 4 (qao K Y4)
def qtB K Y4 Y9 e w:=zt (fun e w=>CS P (cA yj 3848) none [10,8,9,0,1] [8,9,10,0,1] (qu [10,8,9,0,1] Y9 (q3a K Y4)) e w) e w
abbrev VT K Y4 Y9:=qu [10,8,9,0,1] Y9 (q3a K Y4)
def qb3 a b c d f g h w K Y4 Y9:=SG yj 3848 [10,8,9,0,1] [8,9,10,0,1] (VT K Y4 Y9) 84 [(10,VI a),(8,VI b),(9,VI c),(0,VS d f g),(1,VI h)] w
abbrev q1p K Y4 Y9:=kq yj 3848 [10,8,9,0,1] [8,9,10,0,1] (VT K Y4 Y9)
abbrev qvG K Y4 Y9:=kq yj 7696 [8,9,0,1,10] [8,9,10,0,1] (q1p K Y4 Y9)
def q3h a b c d f g h i w K Y4 Y9:=SG yj 15393 [8,9,0,1,10] [8,9,10,0,1] (q1p K Y4 Y9) 84 [(59,VB a),(8,VI b),(9,VI c),(0,VS d f g),(1,VI h),(10,VI i)] w
def qan a b c d f g h w K Y4 Y9:=SG yj 7697 [10,8,9,0,1] [8,9,10,0,1] (VT K Y4 Y9) 84 [(8,VI a),(9,VI b),(0,VS c d f),(1,VI g),(10,VI h)] w
abbrev qsE K Y4 Y9:=qo 5 (VT K Y4 Y9)
theorem qb0:qan a c d e f g h w K Y4 Y9=(Y9 (qi.mk 84 [(10,(Value.int .i64 (IntKind.wrap .i64 (h-1)))),(8,(Value.int .i64 a)),(9,(Value.int .i64 c)),(0,(Value.slice d e f)),(1,(Value.int .i64 g))] []) w):=qB (Q8 5 [8,9,10,0,1] (qsE K Y4 Y9) kr)
def q3E a b c d f g h w K Y4:=SG yj 963 [9,8,10,0,1] [8,9,10,0,1] (je K Y4) 84 [(8,VI a),(9,VI b),(10,VI c),(0,VS d f g),(1,VI h)] w
abbrev qbm K Y4:=kq yj 963 [9,8,10,0,1] [8,9,10,0,1] (je K Y4)
abbrev qxJ K Y4:=kq yj 1926 [8,0,1,10,9] [8,9,10,0,1] (qbm K Y4)
def q9P a w K:=SG yj 31 [8] [8] (yz K) 84 [(9,VI a)] w
abbrev qsW K:=kq yj 31 [8] [8] (yz K)
theorem qar:q9P c w K=(K (Value.int .i64 c) w):=qB (qG [8] (qsW K) kr)
def qcP a b c d f g h w K Y4:=SG yj 1927 [9,8,10,0,1] [8,9,10,0,1] (je K Y4) 84 [(8,VI a),(0,VS b c d),(1,VI f),(10,VI g),(9,VI h)] w
abbrev qvz K Y4:=kq yj 1927 [9,8,10,0,1] [8,9,10,0,1] (je K Y4)
def q8q a b c d f g h w K Y4:=SG yj 3855 [9,8,10,0,1] [8,9,10,0,1] (je K Y4) 84 [(8,VI a),(0,VS b c d),(1,VI f),(10,VI g),(9,VI h)] w
abbrev qwZ K Y4:=kq yj 3855 [9,8,10,0,1] [8,9,10,0,1] (je K Y4)
theorem qcb:q8q c d e f g h i w K Y4=(Y4 (qi.mk 84 [(9,(Value.int .i64 (IntKind.wrap .i64 (i+1)))),(8,(Value.int .i64 c)),(10,(Value.int .i64 (IntKind.wrap .i64 (h-1)))),(0,(Value.slice d e f)),(1,(Value.int .i64 g))] []) w):=qB (qG [9,8,0,1,10] (qwZ K Y4) kr)
theorem qcd:qcP g e f h i c d w K Y4=(qh e (fun l=>0<=c/\c<(f:Nat)/\qh e (fun m=>0<=d/\d<(f:Nat)/\∃ j:Int,w.drew.cell? (l.add (Int.toNat c*1))=some (.int .u32 j)/\∃ k:Int,w.drew.cell? (m.add (Int.toNat d*1))=some (.int .u32 k)/\qh e (fun n=>0<=d/\d<(f:Nat)/\zW (n.add (Int.toNat d*1)) (Value.int .u32 j) w.drew (fun o=>qh e (fun p=>0<=c/\c<(f:Nat)/\zW (p.add (Int.toNat c*1)) (Value.int .u32 k) o (fun q=>q8q g e f h i c d q K Y4))))))):=qB (qG [8,0,1,10,9] (qvz K Y4) kr)
theorem q96:q3E e c d f g h i w K Y4=(qp (decide (c > d)) (q9P c w K) (qcP e f g h i d c w K Y4)):=qB (qG [8,0,1,10,9] (qbm K Y4) (qG [64,8,9,10,0,1] (qxJ K Y4) kr))
theorem q00:q3h i a c d e f g h w K Y4 Y9=(qp i (qan a c d e f g h w K Y4 Y9) (q3E a c h d e f g w K Y4)):=qB kr
theorem qbp:qb3 c h g e f i d w K Y4 Y9=(qp (decide (g<=c)) (qh e (fun m=>0<=d/\d<(f:Nat)/\qh e (fun n=>0<=c/\c<(f:Nat)/\∃ j:Int,w.drew.cell? (m.add (Int.toNat d*1))=some (.int .u32 j)/\∃ k:Int,w.drew.cell? (n.add (Int.toNat c*1))=some (.int .u32 k)/\q9 P 148 [(Value.int .u32 j),(Value.int .u32 k)] w.drew (fun o p=>∃ l:Bool,o=(.bool l)/\q3h l h g e f i d c p K Y4 Y9)))) (q3h false h g e f i d c w.drew K Y4 Y9)):=qB (qG [8,9,0,1,10] (q1p K Y4 Y9) (qG [59,8,9,0,1,10] (qvG K Y4 Y9) kr))
theorem qe7:q6L c d e f g h i w K Y4=(qK (qtB K Y4) (qi.mk 84 [(10,(Value.int .i64 c)),(8,(Value.int .i64 d)),(9,(Value.int .i64 e)),(0,(Value.slice f g h)),(1,(Value.int .i64 i))] []) w):=qB (qG [8,9,10,0,1] (qao K Y4) (Q8 4 [8,9,10,0,1] (q3a K Y4) (CSv [8,9,10,0,1] [10,8,9,0,1])))
theorem q3p:q5v i a c d e f g h w K Y4 Y5=(qp i (qmH a c d e f g h w K Y4 Y5) (q6L c a h d e f g w K Y4)):=qB kr
theorem q9U:q93 c h g e f i d w K Y4 Y5=(qp (decide (c<=g)) (qh e (fun m=>0<=d/\d<(f:Nat)/\qh e (fun n=>0<=c/\c<(f:Nat)/\∃ j:Int,w.drew.cell? (m.add (Int.toNat d*1))=some (.int .u32 j)/\∃ k:Int,w.drew.cell? (n.add (Int.toNat c*1))=some (.int .u32 k)/\q9 P 148 [(Value.int .u32 j),(Value.int .u32 k)] w.drew (fun o p=>∃ l:Bool,o=(.bool l)/\q5v (!l) h g e f i d c p K Y4 Y5)))) (q5v false h g e f i d c w.drew K Y4 Y5)):=qB (qG [8,10,0,1,9] (q5b K Y4 Y5) (qG [43,8,10,0,1,9] (qBO K Y4 Y5) kr))
theorem qa6:q8i c d e f g h i w K Y4=(qK (qys K Y4) (qi.mk 84 [(9,(Value.int .i64 c)),(8,(Value.int .i64 d)),(10,(Value.int .i64 e)),(0,(Value.slice f g h)),(1,(Value.int .i64 i))] []) w):=qB (Q8 1 [8,9,10,0,1] (je K Y4) (qG [10,8,9,0,1] (qla K Y4) (Q8 2 [8,9,10,0,1] (q6a K Y4) (CSv [8,9,10,0,1] [9,8,10,0,1]))))
theorem qdF:qoh c d j k l m e f g h i n w K=(qK (qc5 K) (qi.mk 84 [(9,(Value.int .i64 d)),(8,(Value.int .i64 e)),(10,(Value.int .i64 c)),(0,(Value.slice f g h)),(1,(Value.int .i64 i))] []) w):=Eq.trans (b:=CS P (cA yj 15) none [8] [8] (yz K) (qi.mk 84 [(10,(VI c)),(9,(VI d)),(28,(VI j)),(27,(VI k)),(26,(VI l)),(25,(VI m)),(8,(VI e)),(0,(VS f g h)),(1,(VI i)),(2,(VI n))] []) w) kr (Eq.trans (qZ [9] (qmG K) kr) (Eq.trans (Zc 0 [8,9] (q69 K) kr) ((qS (b:=(cA yj 120)) (X':=[8,9]) (H:=[9,8,10,0,1]) kr kr kr).trans kr)))
theorem qgO:qjs e f g h c d w K=(qoh (IntKind.wrap .i64 (d-1)) (IntKind.wrap .i64 (c+1)) (IntKind.wrap .i64 (d-1)) d (IntKind.wrap .i64 (c+1)) c e f g h c d w K):=qB (qG [9,8,10,0,1] (qEY K) kr)
theorem qgd:qkw g e f h c i d w K=(qh e (fun l=>0<=d/\d<(f:Nat)/\qh e (fun m=>0<=c/\c<(f:Nat)/\∃ j:Int,w.drew.cell? (l.add (Int.toNat d*1))=some (.int .u32 j)/\∃ k:Int,w.drew.cell? (m.add (Int.toNat c*1))=some (.int .u32 k)/\qh e (fun n=>0<=c/\c<(f:Nat)/\zW (n.add (Int.toNat c*1)) (Value.int .u32 j) w.drew (fun o=>qh e (fun p=>0<=d/\d<(f:Nat)/\zW (p.add (Int.toNat d*1)) (Value.int .u32 k) o (fun q=>qjs g e f h c i q K))))))):=Eq.trans (b:=CS P (cA yj 3) none [8] [8] (yz K) (qi.mk 84 [(8,(VI g)),(0,(VS e f h)),(1,(VI c)),(2,(VI i)),(3,(VI d))] []) w) kr (Eq.trans (qZ [8,0,1,2] (qyU K) kr) kr)
theorem qd1:qkz c d e f g h w K=(qkw 0 c d e f g h w K):=Eq.trans (b:=CS P (cA yj 1) none [8] [8] (yz K) (qi.mk 84 [(0,(VS c d e)),(1,(VI f)),(2,(VI g)),(3,(VI h))] []) w) kr (Eq.trans (qZ [8,0,1,2,3] (qBs K) kr) kr)
theorem qEG:f149 a b c d e f w K=(qkz a b c d e f w K):=kr
theorem qDK a b c d e f w K(h:f149 a b c d e f w K):q9 P 149 [(Value.slice a b c),(Value.int .i64 d),(Value.int .i64 e),(Value.int .i64 f)] w K:=qA yj Tryz.func149 h
end Go.Fx.Tryz
namespace Go.Fx.Tryz
open Go Go.Fx
set_option linter.all false
open Go.Proofs
open Go.Sort (swp swp_size ltInt scanUp scanDown scanUp_ge scanDown_le scanUp_spec partLoop partLoop_eq partition partEqLoop partEqLoop_eq partitionEqual)
variable {w0 w:World} {H X:qE} {K:KT}
set_option maxRecDepth 20000
section
variable {p:Int->Bool} {d:Array Int} {i j:Nat}
theorem q5Y(h1:i<=j)(h2:p d[i]! = true):scanUp p d j i=scanUp p d j (i+1):=by
 conv=>lhs;rw[scanUp]
 rw[if_pos (by simp[h1,h2])]
theorem QO(h:¬ (i<=j/\p d[i]! = true)):scanUp p d j i=i:=by
 rw[scanUp,if_neg (by simpa using h)]
theorem qy2(d:Array Int)(i j b:Nat)(hi:i<=b)(hj:j<b):scanUp p d j i<=b:=by
 by_cases h:i<=j+1
 ·have:=(scanUp_spec p d j _ i rfl).2.1 h;omega
 ·rw[QO om];exact hi
theorem JJ(h0:1<=i)(h1:i<=j)(h2:p d[j]! = true):scanDown p d i j=scanDown p d i (j-1):=by
 obtain⟨q,rfl⟩:∃ q,j=q+1:=⟨j-1,by omega⟩
 conv=>lhs;rw[scanDown]
 rw[if_pos (by simp[h1,h2])]
 rfl
theorem jP(h:¬ (i<=j/\p d[j]! = true)):scanDown p d i j=j:=by
 cases j with
 | zero=>rfl
 | succ q=>rw[scanDown,if_neg (by simpa using h)]
end
section
variable {g c:Nat} {T:TypeId} {z:List Value}
abbrev ptE(g c n a:Nat)(i j:Nat):qi:=qi.mk 168 [(10,(Value.int .i64 i)),(8,(Value.int .i64 0)),(9,(Value.bool false)),(11,(Value.int .i64 j)),(0,(Value.slice (some (Addr.mk g 0 none)) n c)),(1,(Value.int .i64 a))] []
abbrev ptF(g c n a:Nat)(i j:Nat):qi:=qi.mk 168 [(11,(Value.int .i64 j)),(8,(Value.int .i64 0)),(9,(Value.bool false)),(0,(Value.slice (some (Addr.mk g 0 none)) n c)),(1,(Value.int .i64 a)),(10,(Value.int .i64 i))] []
def qsN(w0:World)(X:qE)(E:Nat->qi)(p:Int->Bool)(d:Array Int)(a b j I:Nat)(m:Nat)(ee:qi)(w:World):Prop:=
 ∃ i:Nat,a<i/\i<=b/\m=j+1-i/\scanUp p d j i=I/\ee=E i/\St w0 w X
def qxk(w0:World)(X:qE)(E:Nat->qi)(p:Int->Bool)(d:Array Int)(b I J:Nat)(m:Nat)(ee:qi)(w:World):Prop:=
 ∃ j:Nat,j<b/\m=j/\scanDown p d I j=J/\ee=E j/\St w0 w X
def qyp(w0:World)(H:qE)(g c:Nat)(T:TypeId)(z:List Value)(n a b:Nat)(R:Nat × Array Int)(m:Nat)(ee:qi)(w:World):Prop:=
 ∃ (i j:Nat) (d:Array Int),a<i/\i<=b/\j<b/\m=j+1-i/\d.size=n/\partLoop ltInt a i j d=R/\ee=ptE g c n a i j/\St w0 w ((g,Cs (yc d z) T)::H)
theorem qqM{d:Array Int}{n a b i j:Nat}{R:Nat × Array Int}(h:St w0 w ((g,Cs (yc d z) T)::H))(ha:a<i)(hi:i<=b)(hj:j<b)(hd:d.size=n)(hb:b<=n)(hn:n<1000000000000)(hR:partLoop ltInt a i j d=R)
  (hK:∀ w',St w0 w' ((g,Cs (yc (swp R.2 R.1 a) z) T)::H)->K (.tuple [I64 (R.1:Nat),.bool false].toArray) w'):qK (q4B K) (ptE g c n a i j) w:=by
 refine⟨qyp w0 H g c T z n a b R,⟨j+1-i,i,j,d,ha,hi,hj,rfl,hd,hR,rfl,h⟩,?_⟩
 clear h ha hi hj hd hR
 rintro m ee w7 ⟨i',j',d2,ha',hi',hj',rfl,hd2,hR,rfl,h7⟩
 show q4D ..
 rw[q6A]
 rw[partLoop_eq]at hR
 subst hd2
 refine⟨qsN w0 ((g,Cs (yc d2 z) T)::H) (fun i=>ptE g c d2.size a i j') (fun x=>ltInt x d2[a]!) d2 a b j' (scanUp (fun x=>ltInt x d2[a]!) d2 j' i'),⟨j'+1-i',i',ha',hi',rfl,rfl,rfl,h7⟩,?_⟩
 have gI:=qy2 (p:=fun x=>ltInt x d2[a]!) d2 i' j' b hi' hj'
 have gI0:=scanUp_ge (fun x=>ltInt x d2[a]!) d2 j' i'
 generalize scanUp (fun x=>ltInt x d2[a]!) d2 j' i'=I2 at hR gI gI0
 rintro m ee w8 ⟨i3,ha3,hi3,rfl,hup3,rfl,h8⟩
 show q4d ..
 rw[q6x,qg]
 have after3:∀ w9,St w0 w9 ((g,Cs (yc d2 z) T)::H)->q2z (j':Int) 0 false (some (Addr.mk g 0 none)) d2.size c a I2 w9 K (fun e' w'=>∃ m,m<j'+1-i'/\qyp w0 H g c T z d2.size a b R m e' w'):=by
  intro w9 h9
  rw[q8u]
  refine⟨qxk w0 ((g,Cs (yc d2 z) T)::H) (fun j=>ptF g c d2.size a I2 j) (fun x=>!ltInt x d2[a]!) d2 b I2 (scanDown (fun x=>!ltInt x d2[a]!) d2 I2 j'),⟨j',j',hj',rfl,rfl,rfl,h9⟩,?_⟩
  have gJ:=scanDown_le (fun x=>!ltInt x d2[a]!) d2 I2 j'
  generalize scanDown (fun x=>!ltInt x d2[a]!) d2 I2 j'=J2 at hR gJ
  rintro j4 ee w10 ⟨_,hj4,rfl,hdn4,rfl,h10⟩
  show q4Y ..
  rw[q5e,qg]
  have after4:∀ w11,j4=J2->St w0 w11 ((g,Cs (yc d2 z) T)::H)->q1E 0 false (j4:Int) (some (Addr.mk g 0 none)) d2.size c a I2 w11 K (fun e' w'=>∃ m,m<j'+1-i'/\qyp w0 H g c T z d2.size a b R m e' w'):=by
   intro w11 hj h11
   subst hj
   rw[qaa,qg]
   constructor
   ·intro hgt
    have hgt:I2 > j4:=by simpa using hgt
    rw[if_pos hgt]at hR
    subst hR
    rw[qcL]
    refine yo (i:=j4) (j:=a) rfl rfl om om h11 fun w12 h12=>?_
    rw[qcn]
    exact hK w12 h12
   ·intro hle
    have hle:¬ I2 > j4:=by simpa using hle
    rw[if_neg hle]at hR
    rw[q9F]
    refine yo (i:=I2) (j:=j4) rfl rfl om om h11 fun w12 h12=>?_
    have ej:IntKind.wrap .i64 ((j4:Int)-1)=((j4-1:Nat):Int):=by rw[qc om om];omega
    have ei:IntKind.wrap .i64 ((I2:Int)+1)=((I2+1:Nat):Int):=by rw[qc om om];omega
    rw[q8s,ei,ej]
    exact⟨j4-1+1-(I2+1),by omega,I2+1,j4-1,_,by omega,by omega,by omega,rfl,swp_size _ _ _,hR,rfl,h12⟩
  constructor
  ·intro hle
   have hle:I2<=j4:=by simpa using hle
   refine yx (i:=j4) (j:=a) rfl rfl om om h10 (.head _) fun w11 h11=>⟨_,rfl,?_⟩
   rw[q0d,qg]
   refine⟨fun hb'=>?_,fun hb'=>?_⟩
   ·rw[qa7]
    refine⟨j4-1,by omega,j4-1,by omega,rfl,?_,?_,h11⟩
    ·rw[<-hdn4];exact(JJ om hle hb').symm
    ·rw[qc om om,show(j4:Int)-1=((j4-1:Nat):Int)by omega]
   ·refine after4 w11 ?_ h11
    rw[<-hdn4];exact(jP (fun hh=>by rw[hh.2]at hb';cases hb')).symm
  ·intro hgt
   have hgt:¬ I2<=j4:=by simpa using hgt
   rw[q0d,qb]
   refine after4 _ ?_ h10.drew
   rw[<-hdn4];exact(jP (fun hh=>hgt hh.1)).symm
 constructor
 ·intro hle
  have hle:i3<=j':=by simpa using hle
  refine yx (i:=i3) (j:=a) rfl rfl om om h8 (.head _) fun w9 h9=>⟨_,rfl,?_⟩
  rw[JR,qg]
  refine⟨fun hb'=>?_,fun hb'=>?_⟩
  ·rw[qae]
   refine⟨j'+1-(i3+1),by omega,i3+1,by omega,by omega,rfl,?_,?_,h9⟩
   ·rw[<-hup3];exact(q5Y hle hb').symm
   ·rw[qc om om];rfl
  ·have:i3=I2:=by rw[<-hup3];exact(QO (fun hh=>by rw[hh.2]at hb';cases hb')).symm
   rw[this]
   exact after3 w9 h9
 ·intro hgt
  have hgt:¬ i3<=j':=by simpa using hgt
  rw[JR,qb]
  have:i3=I2:=by rw[<-hup3];exact(QO (fun hh=>hgt hh.1)).symm
  rw[this]
  exact after3 _ h8.drew
theorem q5V{d:Array Int}{a b pv:Nat}(h:St w0 w ((g,Cs (yc d z) T)::H))(hap:a<=pv)(hpb:pv<b)(hb:b<=d.size)(hn:d.size<1000000000000)
  (hK:∀ w',St w0 w' ((g,Cs (yc (partition ltInt d a b pv).2.2 z) T)::H)->K (.tuple [I64 ((partition ltInt d a b pv).1:Nat),.bool (partition ltInt d a b pv).2.1].toArray) w') :
  q9 P 150 [.slice (some (Addr.mk g 0 none)) d.size c,.int .i64 a,.int .i64 b,.int .i64 pv] w K:=by
 refine qFk _ _ _ _ _ _ _ _ ?_
 rw[qBy,qfp,qcZ]
 refine yo (i:=a) (j:=pv) rfl rfl om om h fun w1 h1=>?_
 have hs1:(swp d a pv).size=d.size:=swp_size _ _ _
 unfold partition at hK
 simp only at hK
 generalize swp d a pv=d1 at h1 hs1 hK
 have ej:IntKind.wrap .i64 ((b:Int)-1)=((b-1:Nat):Int):=by rw[qc om om];omega
 have ei:IntKind.wrap .i64 ((a:Int)+1)=((a+1:Nat):Int):=by rw[qc om om];omega
 rw[qhb,ej,ei,qgR,<-hs1]
 rw[<-hs1]at hb hn
 refine⟨qsN w0 ((g,Cs (yc d1 z) T)::H) (fun i=>ptE g c d1.size a i (b-1)) (fun x=>ltInt x d1[a]!) d1 a b (b-1) (scanUp (fun x=>ltInt x d1[a]!) d1 (b-1) (a+1)),⟨b-1+1-(a+1),a+1,by omega,by omega,rfl,rfl,rfl,h1⟩,?_⟩
 have hI:=qy2 (p:=fun x=>ltInt x d1[a]!) d1 (a+1) (b-1) b om om
 have hI0:=scanUp_ge (fun x=>ltInt x d1[a]!) d1 (b-1) (a+1)
 generalize hII:scanUp (fun x=>ltInt x d1[a]!) d1 (b-1) (a+1)=I at hK hI hI0
 rintro m ee w2 ⟨i,hai,hib,rfl,hup,rfl,h2⟩
 show qba ..
 rw[q8U,qg]
 have after:∀ w3,St w0 w3 ((g,Cs (yc d1 z) T)::H)->q6M ((b-1:Nat):Int) 0 false (some (Addr.mk g 0 none)) d1.size c a I w3 K:=by
  intro w3 h3
  rw[qdO]
  refine⟨qxk w0 ((g,Cs (yc d1 z) T)::H) (fun j=>ptF g c d1.size a I j) (fun x=>!ltInt x d1[a]!) d1 b I (scanDown (fun x=>!ltInt x d1[a]!) d1 I (b-1)),⟨b-1,b-1,by omega,rfl,rfl,rfl,h3⟩,?_⟩
  have hJ:=scanDown_le (fun x=>!ltInt x d1[a]!) d1 I (b-1)
  generalize hJJ:scanDown (fun x=>!ltInt x d1[a]!) d1 I (b-1)=J at hK hJ
  rintro j ee w4 ⟨_,hjb,rfl,hdn,rfl,h4⟩
  show q9n ..
  rw[q9X,qg]
  have after2:∀ w5,j=J->St w0 w5 ((g,Cs (yc d1 z) T)::H)->q27 (j:Int) (some (Addr.mk g 0 none)) d1.size c a 0 false I w5 K:=by
   intro w5 hjJ h5
   subst hjJ
   rw[qcs,qg]
   constructor
   ·intro hgt
    have hgt:I > j:=by simpa using hgt
    simp only[if_pos hgt]at hK
    refine yo (i:=j) (j:=a) rfl rfl om om h5 fun w6 h6=>?_
    rw[qbK]
    exact hK w6 h6
   ·intro hle
    have hle:¬ I > j:=by simpa using hle
    simp only[if_neg hle]at hK
    rw[q8h]
    refine yo (i:=I) (j:=j) rfl rfl om om h5 fun w6 h6=>?_
    have hs2:(swp d1 I j).size=d1.size:=swp_size _ _ _
    have ej:IntKind.wrap .i64 ((j:Int)-1)=((j-1:Nat):Int):=by rw[qc om om];omega
    have ei:IntKind.wrap .i64 ((I:Int)+1)=((I+1:Nat):Int):=by rw[qc om om];omega
    rw[qaE,ei,qc7,ej,qcj]
    exact qqM h6 om om om hs2 hb hn rfl hK
  constructor
  ·intro hle
   have hle:I<=j:=by simpa using hle
   refine yx (i:=j) (j:=a) rfl rfl om om h4 (.head _) fun w5 h5=>⟨_,rfl,?_⟩
   rw[q22,qg]
   refine⟨fun hb'=>?_,fun hb'=>?_⟩
   ·rw[qaB]
    refine⟨j-1,by omega,j-1,by omega,rfl,?_,?_,h5⟩
    ·rw[<-hdn];exact(JJ om hle hb').symm
    ·rw[qc om om,show(j:Int)-1=((j-1:Nat):Int)by omega]
   ·refine after2 w5 ?_ h5
    rw[<-hdn];exact(jP (fun hh=>by rw[hh.2]at hb';cases hb')).symm
  ·intro hgt
   have hgt:¬ I<=j:=by simpa using hgt
   rw[q22,qb]
   refine after2 _ ?_ h4.drew
   rw[<-hdn];exact(jP (fun hh=>hgt hh.1)).symm
 constructor
 ·intro hle
  have hle:i<=b-1:=by simp at hle;omega
  refine yx (i:=i) (j:=a) rfl rfl om om h2 (.head _) fun w3 h3=>⟨_,rfl,?_⟩
  rw[q34,qg]
  refine⟨fun hb'=>?_,fun hb'=>?_⟩
  ·rw[qes]
   refine⟨b-1+1-(i+1),by omega,i+1,by omega,by omega,rfl,?_,?_,h3⟩
   ·rw[<-hup];exact(q5Y hle hb').symm
   ·rw[qc om om];rfl
  ·have:i=I:=by rw[<-hup];exact(QO (fun hh=>by rw[hh.2]at hb';cases hb')).symm
   rw[this]
   exact after w3 h3
 ·intro hgt
  have hgt:¬ i<=b-1:=by simp at hgt;omega
  rw[q34,qb]
  have:i=I:=by rw[<-hup];exact(QO (fun hh=>hgt hh.1)).symm
  rw[this]
  exact after _ h2.drew
abbrev peE(g c n a:Nat)(i j:Nat):qi:=qi.mk 84 [(9,(Value.int .i64 i)),(8,(Value.int .i64 0)),(10,(Value.int .i64 j)),(0,(Value.slice (some (Addr.mk g 0 none)) n c)),(1,(Value.int .i64 a))] []
abbrev peF(g c n a:Nat)(i j:Nat):qi:=qi.mk 84 [(10,(Value.int .i64 j)),(8,(Value.int .i64 0)),(9,(Value.int .i64 i)),(0,(Value.slice (some (Addr.mk g 0 none)) n c)),(1,(Value.int .i64 a))] []
def qv0(w0:World)(H:qE)(g c:Nat)(T:TypeId)(z:List Value)(n a b:Nat)(R:Nat × Array Int)(m:Nat)(ee:qi)(w:World):Prop:=
 ∃ (i j:Nat) (d:Array Int),a<i/\i<=b/\j<b/\m=j+1-i/\d.size=n/\partEqLoop ltInt a i j d=R/\ee=peE g c n a i j/\St w0 w ((g,Cs (yc d z) T)::H)
theorem q9y{d:Array Int}{n a b i j:Nat}{R:Nat × Array Int}(h:St w0 w ((g,Cs (yc d z) T)::H))(ha:a<i)(hi:i<=b)(hj:j<b)(hd:d.size=n)(hb:b<=n)(hn:n<1000000000000)(hR:partEqLoop ltInt a i j d=R)
  (hK:∀ w',St w0 w' ((g,Cs (yc R.2 z) T)::H)->K (I64 (R.1:Nat)) w'):qK (qc5 K) (peE g c n a i j) w:=by
 refine⟨qv0 w0 H g c T z n a b R,⟨j+1-i,i,j,d,ha,hi,hj,rfl,hd,hR,rfl,h⟩,?_⟩
 clear h ha hi hj hd hR
 rintro m ee w7 ⟨i',j',d2,ha',hi',hj',rfl,hd2,hR,rfl,h7⟩
 show q8i ..
 rw[qa6]
 rw[partEqLoop_eq]at hR
 subst hd2
 refine⟨qsN w0 ((g,Cs (yc d2 z) T)::H) (fun i=>peE g c d2.size a i j') (fun x=>!ltInt d2[a]! x) d2 a b j' (scanUp (fun x=>!ltInt d2[a]! x) d2 j' i'),⟨j'+1-i',i',ha',hi',rfl,rfl,rfl,h7⟩,?_⟩
 have gI:=qy2 (p:=fun x=>!ltInt d2[a]! x) d2 i' j' b hi' hj'
 have gI0:=scanUp_ge (fun x=>!ltInt d2[a]! x) d2 j' i'
 generalize scanUp (fun x=>!ltInt d2[a]! x) d2 j' i'=I2 at hR gI gI0
 rintro m ee w8 ⟨i3,ha3,hi3,rfl,hup3,rfl,h8⟩
 show q93 ..
 rw[q9U,qg]
 have after3:∀ w9,St w0 w9 ((g,Cs (yc d2 z) T)::H)->q6L (j':Int) 0 I2 (some (Addr.mk g 0 none)) d2.size c a w9 K (fun e' w'=>∃ m,m<j'+1-i'/\qv0 w0 H g c T z d2.size a b R m e' w'):=by
  intro w9 h9
  rw[qe7]
  refine⟨qxk w0 ((g,Cs (yc d2 z) T)::H) (fun j=>peF g c d2.size a I2 j) (fun x=>ltInt d2[a]! x) d2 b I2 (scanDown (fun x=>ltInt d2[a]! x) d2 I2 j'),⟨j',j',hj',rfl,rfl,rfl,h9⟩,?_⟩
  have gJ:=scanDown_le (fun x=>ltInt d2[a]! x) d2 I2 j'
  generalize scanDown (fun x=>ltInt d2[a]! x) d2 I2 j'=J2 at hR gJ
  rintro j4 ee w10 ⟨_,hj4,rfl,hdn4,rfl,h10⟩
  show qb3 ..
  rw[qbp,qg]
  have after4:∀ w11,j4=J2->St w0 w11 ((g,Cs (yc d2 z) T)::H)->q3E 0 I2 (j4:Int) (some (Addr.mk g 0 none)) d2.size c a w11 K (fun e' w'=>∃ m,m<j'+1-i'/\qv0 w0 H g c T z d2.size a b R m e' w'):=by
   intro w11 hj h11
   subst hj
   rw[q96,qg]
   constructor
   ·intro hgt
    have hgt:I2 > j4:=by simpa using hgt
    rw[if_pos hgt]at hR
    subst hR
    rw[qar]
    exact hK w11 h11
   ·intro hle
    have hle:¬ I2 > j4:=by simpa using hle
    rw[if_neg hle]at hR
    rw[qcd]
    refine yo (i:=I2) (j:=j4) rfl rfl om om h11 fun w12 h12=>?_
    have ej:IntKind.wrap .i64 ((j4:Int)-1)=((j4-1:Nat):Int):=by rw[qc om om];omega
    have ei:IntKind.wrap .i64 ((I2:Int)+1)=((I2+1:Nat):Int):=by rw[qc om om];omega
    rw[qcb,ei,ej]
    exact⟨j4-1+1-(I2+1),by omega,I2+1,j4-1,_,by omega,by omega,by omega,rfl,swp_size _ _ _,hR,rfl,h12⟩
  constructor
  ·intro hle
   have hle:I2<=j4:=by simpa using hle
   refine yx (i:=a) (j:=j4) rfl rfl om om h10 (.head _) fun w11 h11=>⟨_,rfl,?_⟩
   rw[q00,qg]
   refine⟨fun hb'=>?_,fun hb'=>?_⟩
   ·rw[qb0]
    refine⟨j4-1,by omega,j4-1,by omega,rfl,?_,?_,h11⟩
    ·rw[<-hdn4];exact(JJ om hle hb').symm
    ·rw[qc om om,show(j4:Int)-1=((j4-1:Nat):Int)by omega]
   ·refine after4 w11 ?_ h11
    rw[<-hdn4];exact(jP (fun hh=>by rw[hh.2]at hb';cases hb')).symm
  ·intro hgt
   have hgt:¬ I2<=j4:=by simpa using hgt
   rw[q00,qb]
   refine after4 _ ?_ h10.drew
   rw[<-hdn4];exact(jP (fun hh=>hgt hh.1)).symm
 constructor
 ·intro hle
  have hle:i3<=j':=by simpa using hle
  refine yx (i:=a) (j:=i3) rfl rfl om om h8 (.head _) fun w9 h9=>⟨_,rfl,?_⟩
  rw[q3p,qg]
  refine⟨fun hb'=>?_,fun hb'=>?_⟩
  ·rw[qdq]
   refine⟨j'+1-(i3+1),by omega,i3+1,by omega,by omega,rfl,?_,?_,h9⟩
   ·rw[<-hup3];exact(q5Y hle hb').symm
   ·rw[qc om om];rfl
  ·have:i3=I2:=by rw[<-hup3];exact(QO (fun hh=>by rw[hh.2]at hb';cases hb')).symm
   rw[this]
   exact after3 w9 h9
 ·intro hgt
  have hgt:¬ i3<=j':=by simpa using hgt
  rw[q3p,qb]
  have:i3=I2:=by rw[<-hup3];exact(QO (fun hh=>hgt hh.1)).symm
  rw[this]
  exact after3 _ h8.drew
theorem VM{d:Array Int}{a b pv:Nat}(h:St w0 w ((g,Cs (yc d z) T)::H))(hap:a<=pv)(hpb:pv<b)(hb:b<=d.size)(hn:d.size<1000000000000)
  (hK:∀ w',St w0 w' ((g,Cs (yc (partitionEqual ltInt d a b pv).2 z) T)::H)->K (I64 ((partitionEqual ltInt d a b pv).1:Nat)) w') :
  q9 P 149 [.slice (some (Addr.mk g 0 none)) d.size c,.int .i64 a,.int .i64 b,.int .i64 pv] w K:=by
 refine qDK _ _ _ _ _ _ _ _ ?_
 rw[qEG,qd1,qgd]
 refine yo (i:=a) (j:=pv) rfl rfl om om h fun w1 h1=>?_
 have hs1:(swp d a pv).size=d.size:=swp_size _ _ _
 unfold partitionEqual at hK
 generalize swp d a pv=d1 at h1 hs1 hK
 have ej:IntKind.wrap .i64 ((b:Int)-1)=((b-1:Nat):Int):=by rw[qc om om];omega
 have ei:IntKind.wrap .i64 ((a:Int)+1)=((a+1:Nat):Int):=by rw[qc om om];omega
 rw[qgO,ej,ei,qdF]
 exact q9y h1 om om om hs1 hb hn rfl hK
end
end Go.Fx.Tryz
namespace Go.Fx.Tryz
set_option maxRecDepth 100000
open Go Go.Fx Go.Proofs
def qW:=qm Tryz.f147
def qLI:=Tryz.f147.results.toList
abbrev yZ K:=qr P qLI K
def f147 a b c d e w K:=CS P qW none [6] [6] (yZ K) (qz 133 [(VS a b c),(VI d),(VI e)]) w
def qmT a b c d e w K:=SC qW 1 [6] [6] (yZ K) 133 [(0,VS a b c),(1,VI d),(2,VI e)] w
abbrev qAE K:=kq qW 1 [6] [6] (yZ K)
def qmc a b c d e w K:=SC qW 3 [6] [6] (yZ K) 133 [(6,VB false),(0,VS a b c),(1,VI d),(2,VI e)] w
abbrev qBt K:=kq qW 3 [6] [6] (yZ K)
def qkB a b c d e f g h w K:=SC qW 7 [6] [6] (yZ K) 133 [(7,VI a),(12,VI b),(11,VI c),(6,VB false),(0,VS d e f),(1,VI g),(2,VI h)] w
abbrev Vt K:=kq qW 7 [6] [6] (yZ K)
abbrev qzf K:=kq qW 14 [] [6] (Vt K)
def qj7 a b c d e f g h i w K:=SC qW 29 [] [6] (Vt K) 133 [(8,VI a),(7,VI b),(12,VI c),(11,VI d),(6,VB false),(0,VS e f g),(1,VI h),(2,VI i)] w
abbrev q5x K:=qo 0 (Vt K)
def qtL K Y4 e w:=zt (fun e w=>CS P (cA qW 116) none [7,6,8,0,2,1] [6] (qu [7,6,8,0,2,1] Y4 (q5x K)) e w) e w
abbrev Zj K Y4:=qu [7,6,8,0,2,1] Y4 (q5x K)
def q8j a b c d f g h i w K Y4:=SG qW 116 [7,6,8,0,2,1] [6] (Zj K Y4) 133 [(7,VI a),(6,VB b),(8,VI c),(0,VS d f g),(2,VI h),(1,VI i)] w
abbrev qk8 K Y4:=kq qW 116 [7,6,8,0,2,1] [6] (Zj K Y4)
abbrev qzZ K Y4:=kq qW 232 [7,6,0,2,1,8] [6] (qk8 K Y4)
def qlO a b c d f g h i w K Y4:=SG qW 233 [7,6,8,0,2,1] [6] (Zj K Y4) 133 [(7,VI a),(6,VB b),(0,VS c d f),(2,VI g),(1,VI h),(8,VI i)] w
abbrev qoJ K Y4:=kq qW 233 [7,6,8,0,2,1] [6] (Zj K Y4)
abbrev zZ K Y4:=qo 1 (qoJ K Y4)
abbrev qjK K Y4:=kq qW 932 [7,6,0,2,1,8] [6,7,0,2,1,8] (zZ K Y4)
abbrev q1N K Y4:=qo 2 (qjK K Y4)
def qvc K Y4 Y6 e w:=zt (fun e w=>CS P (cA qW 7456) none [7,6,0,2,1,8] [6,7,0,2,1,8] (qu [7,6,0,2,1,8] Y6 (q1N K Y4)) e w) e w
abbrev VF K Y4 Y6:=qu [7,6,0,2,1,8] Y6 (q1N K Y4)
def q8W a b c d f g h i w K Y4 Y6:=SG qW 7456 [7,6,0,2,1,8] [6,7,0,2,1,8] (VF K Y4 Y6) 133 [(7,VI a),(6,VB b),(0,VS c d f),(2,VI g),(1,VI h),(8,VI i)] w
abbrev q31 K Y4 Y6:=kq qW 7456 [7,6,0,2,1,8] [6,7,0,2,1,8] (VF K Y4 Y6)
abbrev qxj K Y4 Y6:=kq qW 14912 [6,0,2,1,8,7] [6,7,0,2,1,8] (q31 K Y4 Y6)
def q5E a b c d f g h i j w K Y4 Y6:=SG qW 29825 [6,0,2,1,8,7] [6,7,0,2,1,8] (q31 K Y4 Y6) 133 [(32,VB a),(6,VB b),(0,VS c d f),(2,VI g),(1,VI h),(8,VI i),(7,VI j)] w
def qjG a b c d f g h i w K Y4 Y6:=SG qW 14913 [7,6,0,2,1,8] [6,7,0,2,1,8] (VF K Y4 Y6) 133 [(6,VB a),(0,VS b c d),(2,VI f),(1,VI g),(8,VI h),(7,VI i)] w
abbrev qvs K Y4 Y6:=qo 3 (VF K Y4 Y6)
theorem qgu:qjG a c d e f g h i w K Y4 Y6=(Y6 (qi.mk 133 [(7,(Value.int .i64 (IntKind.wrap .i64 (i+1)))),(6,(Value.bool a)),(0,(Value.slice c d e)),(2,(Value.int .i64 f)),(1,(Value.int .i64 g)),(8,(Value.int .i64 h))] []) w):=qB (Q8 3 [6,7,0,2,1,8] (qvs K Y4 Y6) kr)
def q5P a b c d f g h i w K Y4:=SG qW 1865 [7,6,0,2,1,8] [6,7,0,2,1,8] (zZ K Y4) 133 [(7,VI a),(0,VS b c d),(2,VI f),(1,VI g),(8,VI h),(6,VB i)] w
abbrev qc9 K Y4:=kq qW 1865 [7,6,0,2,1,8] [6,7,0,2,1,8] (zZ K Y4)
abbrev qu4 K Y4:=kq qW 3730 [7,0,2,1,8,6] [6,7,0,2,1,8] (qc9 K Y4)
def q9B a b c d f g h i w K Y4:=SG qW 3731 [7,6,0,2,1,8] [6,7,0,2,1,8] (zZ K Y4) 133 [(7,VI a),(0,VS b c d),(2,VI f),(1,VI g),(8,VI h),(6,VB i)] w
abbrev qc2 K Y4:=kq qW 3731 [7,6,0,2,1,8] [6,7,0,2,1,8] (zZ K Y4)
abbrev qtQ K Y4:=kq qW 7462 [6,7,0,2,1,8] [6,7,0,2,1,8] (qc2 K Y4)
def qc6 a b c d f g h i w K Y4:=SG qW 7463 [7,6,0,2,1,8] [6,7,0,2,1,8] (zZ K Y4) 133 [(6,VB a),(7,VI b),(0,VS c d f),(2,VI g),(1,VI h),(8,VI i)] w
abbrev qxd K Y4:=kq qW 7463 [7,6,0,2,1,8] [6,7,0,2,1,8] (zZ K Y4)
def q2L a b c d f g h i w K Y4:=SG qW 14927 [7,6,0,2,1,8] [6,7,0,2,1,8] (zZ K Y4) 133 [(6,VB a),(7,VI b),(0,VS c d f),(2,VI g),(1,VI h),(8,VI i)] w
abbrev ji K Y4:=kq qW 14927 [7,6,0,2,1,8] [6,7,0,2,1,8] (zZ K Y4)
abbrev qtA K Y4:=kq qW 29854 [6,7,0,2,1,8] [6,7,0,2,1,8] (ji K Y4)
def q9p a b c d e f g h i j k l w K Y4:=SC qW 119418 [6,7,0,2,1,8] [6,7,0,2,1,8] (ji K Y4) 133 [(61,VB true),(61,VB a),(60,VI b),(59,VI c),(58,VI d),(6,VB e),(7,VI f),(0,VS g h i),(2,VI j),(1,VI k),(8,VI l)] w
abbrev qs7 K Y4:=kq qW 119418 [6,7,0,2,1,8] [6,7,0,2,1,8] (ji K Y4)
def qaT a b c d e f g h i j k l m n o w K Y4:=SC qW 238837 [6,7,0,2,1,8] [6,7,0,2,1,8] (ji K Y4) 133 [(9,VI a),(63,VI b),(62,VI c),(61,VB true),(61,VB d),(60,VI e),(59,VI f),(58,VI g),(6,VB h),(7,VI i),(0,VS j k l),(2,VI m),(1,VI n),(8,VI o)] w
abbrev q3S K Y4:=qo 4 (ji K Y4)
def qpm K Y4 Y15 e w:=zt (fun e w=>CS P (cA qW 955348) none [6,7,0,2,1,8,9] [6,7,0,2,1,8] (qu [6,7,0,2,1,8,9] Y15 (q3S K Y4)) e w) e w
abbrev QH K Y4 Y15:=qu [6,7,0,2,1,8,9] Y15 (q3S K Y4)
def q4r a b c d f g h i j w K Y4 Y15:=SG qW 955348 [6,7,0,2,1,8,9] [6,7,0,2,1,8] (QH K Y4 Y15) 133 [(6,VB a),(7,VI b),(0,VS c d f),(2,VI g),(1,VI h),(8,VI i),(9,VI j)] w
abbrev qcg K Y4 Y15:=kq qW 955348 [6,7,0,2,1,8,9] [6,7,0,2,1,8] (QH K Y4 Y15)
abbrev qur K Y4 Y15:=kq qW 1910696 [6,7,0,2,1,8,9] [6,7,0,2,1,8] (qcg K Y4 Y15)
def qaZ a b c d f g h i j w K Y4 Y15:=SG qW 1910697 [6,7,0,2,1,8,9] [6,7,0,2,1,8] (QH K Y4 Y15) 133 [(6,VB a),(7,VI b),(0,VS c d f),(2,VI g),(1,VI h),(8,VI i),(9,VI j)] w
abbrev q9s K Y4 Y15:=kq qW 1910697 [6,7,0,2,1,8,9] [6,7,0,2,1,8] (QH K Y4 Y15)
abbrev q2M K Y4 Y15:=qo 5 (q9s K Y4 Y15)
abbrev q2E K Y4 Y15:=kq qW 7642788 [6,7,0,2,1,8,9] [6,7,0,2,1,8,9] (q2M K Y4 Y15)
abbrev qyg K Y4 Y15:=kq qW 15285576 [6,7,0,2,1,8,9] [6,7,0,2,1,8,9] (q2E K Y4 Y15)
def q9m a b c d f g h i j k w K Y4 Y15:=SG qW 30571153 [6,7,0,2,1,8,9] [6,7,0,2,1,8,9] (q2E K Y4 Y15) 133 [(78,VB a),(6,VB b),(7,VI c),(0,VS d f g),(2,VI h),(1,VI i),(8,VI j),(9,VI k)] w
def QB a b c d f g h i w K Y4:=SG qW 29855 [7,6,0,2,1,8] [6,7,0,2,1,8] (zZ K Y4) 133 [(6,VB a),(7,VI b),(0,VS c d f),(2,VI g),(1,VI h),(8,VI i)] w
abbrev qsI K Y4:=kq qW 29855 [7,6,0,2,1,8] [6,7,0,2,1,8] (zZ K Y4)
def qbh a b c d e f g h i j k l w K Y4:=SC qW 119422 [7,6,0,2,1,8] [6,7,0,2,1,8] (zZ K Y4) 133 [(98,VB true),(98,VB a),(97,VI b),(96,VI c),(95,VI d),(6,VB e),(7,VI f),(0,VS g h i),(2,VI j),(1,VI k),(8,VI l)] w
abbrev qy3 K Y4:=kq qW 119422 [7,6,0,2,1,8] [6,7,0,2,1,8] (zZ K Y4)
def q9C a b c d e f g h i j k l m n o w K Y4:=SC qW 238845 [7,6,0,2,1,8] [6,7,0,2,1,8] (zZ K Y4) 133 [(10,VI a),(100,VI b),(99,VI c),(98,VB true),(98,VB d),(97,VI e),(96,VI f),(95,VI g),(6,VB h),(7,VI i),(0,VS j k l),(2,VI m),(1,VI n),(8,VI o)] w
abbrev q2s K Y4:=qo 6 (zZ K Y4)
def qpv K Y4 Y21 e w:=zt (fun e w=>CS P (cA qW 955380) none [6,7,0,2,1,8,10] [6,7,0,2,1,8] (qu [6,7,0,2,1,8,10] Y21 (q2s K Y4)) e w) e w
abbrev QI K Y4 Y21:=qu [6,7,0,2,1,8,10] Y21 (q2s K Y4)
def q4v a b c d f g h i j w K Y4 Y21:=SG qW 955380 [6,7,0,2,1,8,10] [6,7,0,2,1,8] (QI K Y4 Y21) 133 [(6,VB a),(7,VI b),(0,VS c d f),(2,VI g),(1,VI h),(8,VI i),(10,VI j)] w
abbrev qbG K Y4 Y21:=kq qW 955380 [6,7,0,2,1,8,10] [6,7,0,2,1,8] (QI K Y4 Y21)
abbrev qy7 K Y4 Y21:=kq qW 1910760 [6,7,0,2,1,8,10] [6,7,0,2,1,8] (qbG K Y4 Y21)
def qbt a b c d f g h i j w K Y4 Y21:=SG qW 1910761 [6,7,0,2,1,8,10] [6,7,0,2,1,8] (QI K Y4 Y21) 133 [(6,VB a),(7,VI b),(0,VS c d f),(2,VI g),(1,VI h),(8,VI i),(10,VI j)] w
abbrev q9q K Y4 Y21:=kq qW 1910761 [6,7,0,2,1,8,10] [6,7,0,2,1,8] (QI K Y4 Y21)
abbrev q1m K Y4 Y21:=qo 7 (q9q K Y4 Y21)
abbrev q2c K Y4 Y21:=kq qW 7643044 [6,7,0,2,1,8,10] [6,7,0,2,1,8,10] (q1m K Y4 Y21)
abbrev quT K Y4 Y21:=kq qW 15286088 [6,7,0,2,1,8,10] [6,7,0,2,1,8,10] (q2c K Y4 Y21)
def qay a b c d f g h i j k w K Y4 Y21:=SG qW 30572177 [6,7,0,2,1,8,10] [6,7,0,2,1,8,10] (q2c K Y4 Y21) 133 [(116,VB a),(6,VB b),(7,VI c),(0,VS d f g),(2,VI h),(1,VI i),(8,VI j),(10,VI k)] w
def ZE a b c d f g h i w K Y4:=SG qW 467 [7,6,8,0,2,1] [6] (Zj K Y4) 133 [(7,VI a),(6,VB b),(0,VS c d f),(2,VI g),(1,VI h),(8,VI i)] w
theorem q90:ZE a c d e f g h i w K Y4=(Y4 (qi.mk 133 [(7,(Value.int .i64 a)),(6,(Value.bool c)),(8,(Value.int .i64 (IntKind.wrap .i64 (i+1)))),(0,(Value.slice d e f)),(2,(Value.int .i64 g)),(1,(Value.int .i64 h))] []) w):=qB kr
def qas a b c d f g h i j w K Y4 Y21:=SG qW 15286089 [6,7,0,2,1,8,10] [6,7,0,2,1,8,10] (q1m K Y4 Y21) 133 [(6,VB a),(7,VI b),(0,VS c d f),(2,VI g),(1,VI h),(8,VI i),(10,VI j)] w
def q8Y a b c d f g h i j w K Y4 Y21:=SG qW 3821523 [6,7,0,2,1,8,10] [6,7,0,2,1,8] (QI K Y4 Y21) 133 [(6,VB a),(7,VI b),(0,VS c d f),(2,VI g),(1,VI h),(8,VI i),(10,VI j)] w
theorem q8y:q8Y a c d e f g h i j w K Y4 Y21=(Y21 (qi.mk 133 [(6,(Value.bool a)),(7,(Value.int .i64 c)),(0,(Value.slice d e f)),(2,(Value.int .i64 g)),(1,(Value.int .i64 h)),(8,(Value.int .i64 i)),(10,(Value.int .i64 (IntKind.wrap .i64 (j+1))))] []) w):=qB kr
theorem qaY:qas e f c d g h i j a w K Y4 Y21=(qh c (fun m=>0<=(IntKind.wrap .i64 (a-1))/\(IntKind.wrap .i64 (a-1))<(d:Nat)/\qh c (fun n=>0<=a/\a<(d:Nat)/\∃ k:Int,w.drew.cell? (m.add (Int.toNat (IntKind.wrap .i64 (a-1))*1))=some (.int .u32 k)/\∃ l:Int,w.drew.cell? (n.add (Int.toNat a*1))=some (.int .u32 l)/\qh c (fun o=>0<=a/\a<(d:Nat)/\zW (o.add (Int.toNat a*1)) (Value.int .u32 k) w.drew (fun p=>qh c (fun q=>0<=(IntKind.wrap .i64 (a-1))/\(IntKind.wrap .i64 (a-1))<(d:Nat)/\zW (q.add (Int.toNat (IntKind.wrap .i64 (a-1))*1)) (Value.int .u32 l) p (fun r=>q8Y e f c d g h i j a r K Y4 Y21))))))):=qB kr
theorem qbQ:qay j a c d e f g h i k w K Y4 Y21=(qp j (ZE c a d e f g h i w K Y4) (qas a c d e f g h i k w K Y4 Y21)):=qB kr
theorem qaJ:qbt f g d e h i j k c w K Y4 Y21=(qh d (fun o=>0<=c/\c<(e:Nat)/\qh d (fun p=>0<=(IntKind.wrap .i64 (c-1))/\(IntKind.wrap .i64 (c-1))<(e:Nat)/\∃ l:Int,w.drew.cell? (o.add (Int.toNat c*1))=some (.int .u32 l)/\∃ m:Int,w.drew.cell? (p.add (Int.toNat (IntKind.wrap .i64 (c-1))*1))=some (.int .u32 m)/\q9 P 148 [(Value.int .u32 l),(Value.int .u32 m)] w.drew (fun q r=>∃ n:Bool,q=(.bool n)/\qay (!n) f g d e h i j k c r K Y4 Y21)))):=qB (qG [6,7,0,2,1,8,10] (q9q K Y4 Y21) (Q8 7 [6,7,0,2,1,8,10] (q1m K Y4 Y21) (qG [6,7,0,2,1,8,10] (q2c K Y4 Y21) (qG [116,6,7,0,2,1,8,10] (quT K Y4 Y21) kr))))
theorem q6F:q4v d e f g h c i j k w K Y4 Y21=(qp (decide (k<c)) (qbt d e f g h c i j k w K Y4 Y21) (ZE e d f g h c i j w K Y4)):=qB (qG [6,7,0,2,1,8,10] (qbG K Y4 Y21) (qG [103,6,7,0,2,1,8,10] (qy7 K Y4 Y21) kr))
theorem q8B:q9C a k l m n o p c d e f g h i j w K Y4=(qK (qpv K Y4) (qi.mk 133 [(6,(Value.bool c)),(7,(Value.int .i64 d)),(0,(Value.slice e f g)),(2,(Value.int .i64 h)),(1,(Value.int .i64 i)),(8,(Value.int .i64 j)),(10,(Value.int .i64 a))] []) w):=Eq.trans (b:=CS P (cA qW 238845) none [7,6,0,2,1,8] [6,7,0,2,1,8] (zZ K Y4) (qi.mk 133 [(10,(VI a)),(100,(VI k)),(99,(VI l)),(98,(VB true)),(98,(VB m)),(97,(VI n)),(96,(VI o)),(95,(VI p)),(6,(VB c)),(7,(VI d)),(0,(VS e f g)),(2,(VI h)),(1,(VI i)),(8,(VI j))] []) w) kr (Eq.trans (Zc 6 [6,7,0,2,1,8] (q2s K Y4) kr) ((qS (b:=(cA qW 955380)) (X':=[6,7,0,2,1,8]) (H:=[6,7,0,2,1,8,10]) kr kr kr).trans kr))
theorem qbT:qbh d e f g h c i j k l m n w K Y4=(q9C (IntKind.wrap .i64 (c+1)) (IntKind.wrap .i64 (c+1)) c d e f g h c i j k l m n w K Y4):=Eq.trans (b:=CS P (cA qW 119422) none [7,6,0,2,1,8] [6,7,0,2,1,8] (zZ K Y4) (qi.mk 133 [(98,(VB true)),(98,(VB d)),(97,(VI e)),(96,(VI f)),(95,(VI g)),(6,(VB h)),(7,(VI c)),(0,(VS i j k)),(2,(VI l)),(1,(VI m)),(8,(VI n))] []) w) kr (Eq.trans (qZ [6,7,0,2,1,8,10] (qy3 K Y4) kr) kr)
theorem qcm:QB e c f g h d i j w K Y4=(qp (decide ((IntKind.wrap .i64 (d-c))>=2)) (qbh (decide ((IntKind.wrap .i64 (d-c))>=2)) (IntKind.wrap .i64 (d-c)) c d e c f g h d i j w K Y4) (ZE c e f g h d i j w K Y4)):=qB (qG [98,6,7,0,2,1,8] (qsI K Y4) kr)
def qcE a b c d f g h i j w K Y4 Y15:=SG qW 15285577 [6,7,0,2,1,8,9] [6,7,0,2,1,8,9] (q2M K Y4 Y15) 133 [(6,VB a),(7,VI b),(0,VS c d f),(2,VI g),(1,VI h),(8,VI i),(9,VI j)] w
def qaD a b c d f g h i j w K Y4 Y15:=SG qW 3821395 [6,7,0,2,1,8,9] [6,7,0,2,1,8] (QH K Y4 Y15) 133 [(6,VB a),(7,VI b),(0,VS c d f),(2,VI g),(1,VI h),(8,VI i),(9,VI j)] w
theorem q9r:qaD a c d e f g h i j w K Y4 Y15=(Y15 (qi.mk 133 [(6,(Value.bool a)),(7,(Value.int .i64 c)),(0,(Value.slice d e f)),(2,(Value.int .i64 g)),(1,(Value.int .i64 h)),(8,(Value.int .i64 i)),(9,(Value.int .i64 (IntKind.wrap .i64 (j-1))))] []) w):=qB kr
theorem q84:qcE e f c d g h i j a w K Y4 Y15=(qh c (fun m=>0<=(IntKind.wrap .i64 (a-1))/\(IntKind.wrap .i64 (a-1))<(d:Nat)/\qh c (fun n=>0<=a/\a<(d:Nat)/\∃ k:Int,w.drew.cell? (m.add (Int.toNat (IntKind.wrap .i64 (a-1))*1))=some (.int .u32 k)/\∃ l:Int,w.drew.cell? (n.add (Int.toNat a*1))=some (.int .u32 l)/\qh c (fun o=>0<=a/\a<(d:Nat)/\zW (o.add (Int.toNat a*1)) (Value.int .u32 k) w.drew (fun p=>qh c (fun q=>0<=(IntKind.wrap .i64 (a-1))/\(IntKind.wrap .i64 (a-1))<(d:Nat)/\zW (q.add (Int.toNat (IntKind.wrap .i64 (a-1))*1)) (Value.int .u32 l) p (fun r=>qaD e f c d g h i j a r K Y4 Y15))))))):=qB kr
theorem qbq:q9m j a c d e f g h i k w K Y4 Y15=(qp j (QB a c d e f g h i w K Y4) (qcE a c d e f g h i k w K Y4 Y15)):=qB kr
theorem qbD:qaZ f g d e h i j k c w K Y4 Y15=(qh d (fun o=>0<=c/\c<(e:Nat)/\qh d (fun p=>0<=(IntKind.wrap .i64 (c-1))/\(IntKind.wrap .i64 (c-1))<(e:Nat)/\∃ l:Int,w.drew.cell? (o.add (Int.toNat c*1))=some (.int .u32 l)/\∃ m:Int,w.drew.cell? (p.add (Int.toNat (IntKind.wrap .i64 (c-1))*1))=some (.int .u32 m)/\q9 P 148 [(Value.int .u32 l),(Value.int .u32 m)] w.drew (fun q r=>∃ n:Bool,q=(.bool n)/\q9m (!n) f g d e h i j k c r K Y4 Y15)))):=qB (qG [6,7,0,2,1,8,9] (q9s K Y4 Y15) (Q8 5 [6,7,0,2,1,8,9] (q2M K Y4 Y15) (qG [6,7,0,2,1,8,9] (q2E K Y4 Y15) (qG [78,6,7,0,2,1,8,9] (qyg K Y4 Y15) kr))))
theorem q6u:q4r c d e f g h i j k w K Y4 Y15=(qp (decide (k>=1)) (qaZ c d e f g h i j k w K Y4 Y15) (QB c d e f g h i j w K Y4)):=qB (qG [6,7,0,2,1,8,9] (qcg K Y4 Y15) (qG [65,6,7,0,2,1,8,9] (qur K Y4 Y15) kr))
theorem qbV:qaT a k l m n o p c d e f g h i j w K Y4=(qK (qpm K Y4) (qi.mk 133 [(6,(Value.bool c)),(7,(Value.int .i64 d)),(0,(Value.slice e f g)),(2,(Value.int .i64 h)),(1,(Value.int .i64 i)),(8,(Value.int .i64 j)),(9,(Value.int .i64 a))] []) w):=Eq.trans (b:=CS P (cA qW 238837) none [6,7,0,2,1,8] [6,7,0,2,1,8] (ji K Y4) (qi.mk 133 [(9,(VI a)),(63,(VI k)),(62,(VI l)),(61,(VB true)),(61,(VB m)),(60,(VI n)),(59,(VI o)),(58,(VI p)),(6,(VB c)),(7,(VI d)),(0,(VS e f g)),(2,(VI h)),(1,(VI i)),(8,(VI j))] []) w) kr (Eq.trans (Zc 4 [6,7,0,2,1,8] (q3S K Y4) kr) ((qS (b:=(cA qW 955348)) (X':=[6,7,0,2,1,8]) (H:=[6,7,0,2,1,8,9]) kr kr kr).trans kr))
theorem qbf:q9p d e f g h c i j k l m n w K Y4=(qaT (IntKind.wrap .i64 (c-1)) (IntKind.wrap .i64 (c-1)) c d e f g h c i j k l m n w K Y4):=Eq.trans (b:=CS P (cA qW 119418) none [6,7,0,2,1,8] [6,7,0,2,1,8] (ji K Y4) (qi.mk 133 [(61,(VB true)),(61,(VB d)),(60,(VI e)),(59,(VI f)),(58,(VI g)),(6,(VB h)),(7,(VI c)),(0,(VS i j k)),(2,(VI l)),(1,(VI m)),(8,(VI n))] []) w) kr (Eq.trans (qZ [6,7,0,2,1,8,9] (qs7 K Y4) kr) kr)
theorem q8N:q2L e c f g h i d j w K Y4=(qp (decide ((IntKind.wrap .i64 (c-d))>=2)) (q9p (decide ((IntKind.wrap .i64 (c-d))>=2)) (IntKind.wrap .i64 (c-d)) d c e c f g h i d j w K Y4) (QB e c f g h i d j w K Y4)):=qB (qG [6,7,0,2,1,8] (ji K Y4) (qG [61,6,7,0,2,1,8] (qtA K Y4) kr))
theorem q9W:qc6 f c d e g h i j w K Y4=(qh d (fun m=>0<=(IntKind.wrap .i64 (c-1))/\(IntKind.wrap .i64 (c-1))<(e:Nat)/\qh d (fun n=>0<=c/\c<(e:Nat)/\∃ k:Int,w.drew.cell? (m.add (Int.toNat (IntKind.wrap .i64 (c-1))*1))=some (.int .u32 k)/\∃ l:Int,w.drew.cell? (n.add (Int.toNat c*1))=some (.int .u32 l)/\qh d (fun o=>0<=c/\c<(e:Nat)/\zW (o.add (Int.toNat c*1)) (Value.int .u32 k) w.drew (fun p=>qh d (fun q=>0<=(IntKind.wrap .i64 (c-1))/\(IntKind.wrap .i64 (c-1))<(e:Nat)/\zW (q.add (Int.toNat (IntKind.wrap .i64 (c-1))*1)) (Value.int .u32 l) p (fun r=>q2L f c d e g h i j r K Y4))))))):=qB (qG [6,7,0,2,1,8] (qxd K Y4) kr)
theorem q94:q9B e f g h c d i j w K Y4=(qp (decide ((IntKind.wrap .i64 (c-d))<50)) (K (Value.bool false) w) (qc6 j e f g h c d i w K Y4)):=qB (qG [6,7,0,2,1,8] (qc2 K Y4) (qG [41,7,0,2,1,8,6] (qtQ K Y4) kr))
theorem qeO:q5P c e f g d h i j w K Y4=(qp (c==d) (K (Value.bool true) w) (q9B c e f g d h i j w K Y4)):=qB (qG [7,0,2,1,8,6] (qc9 K Y4) (qG [37,7,0,2,1,8,6] (qu4 K Y4) kr))
theorem q2k:q5E j a c d e f g h i w K Y4 Y6=(qp j (qjG a c d e f g h i w K Y4 Y6) (q5P i c d e f g h a w K Y4)):=qB kr
theorem qbb:q8W c g d e h f i j w K Y4 Y6=(qp (decide (c<f)) (qh d (fun n=>0<=c/\c<(e:Nat)/\qh d (fun o=>0<=(IntKind.wrap .i64 (c-1))/\(IntKind.wrap .i64 (c-1))<(e:Nat)/\∃ k:Int,w.drew.cell? (n.add (Int.toNat c*1))=some (.int .u32 k)/\∃ l:Int,w.drew.cell? (o.add (Int.toNat (IntKind.wrap .i64 (c-1))*1))=some (.int .u32 l)/\q9 P 148 [(Value.int .u32 k),(Value.int .u32 l)] w.drew (fun p q=>∃ m:Bool,p=(.bool m)/\q5E (!m) g d e h f i j c q K Y4 Y6)))) (q5E false g d e h f i j c w.drew K Y4 Y6)):=qB (qG [6,0,2,1,8,7] (q31 K Y4 Y6) (qG [32,6,0,2,1,8,7] (qxj K Y4 Y6) kr))
theorem qep:qlO c d e f g h i j w K Y4=(qK (qvc K Y4) (qi.mk 133 [(7,(Value.int .i64 c)),(6,(Value.bool d)),(0,(Value.slice e f g)),(2,(Value.int .i64 h)),(1,(Value.int .i64 i)),(8,(Value.int .i64 j))] []) w):=qB (qG [7,6,0,2,1,8] (qoJ K Y4) (Q8 1 [6,7,0,2,1,8] (zZ K Y4) (qG [7,0,2,1,8,6] (qjK K Y4) (Q8 2 [6,7,0,2,1,8] (q1N K Y4) (CSv [6,7,0,2,1,8] [7,6,0,2,1,8])))))
def qcx w K:=SG qW 15 [6] [6] (yZ K) 133 [] w
abbrev qwH K:=kq qW 15 [6] [6] (yZ K)
theorem qcJ:qcx w K=(K (Value.bool false) w):=qB (qG [6] (qwH K) kr)
theorem qbX:q8j d e c f g h i j w K Y4=(qp (decide (c<5)) (qlO d e f g h i j c w K Y4) (qcx w K)):=qB (qG [7,6,0,2,1,8] (qk8 K Y4) (qG [14,7,6,0,2,1,8] (qzZ K Y4) kr))
theorem qdo:qj7 a c i j d e f g h w K=(qK (qtL K) (qi.mk 133 [(7,(Value.int .i64 c)),(6,(Value.bool false)),(8,(Value.int .i64 a)),(0,(Value.slice d e f)),(2,(Value.int .i64 h)),(1,(Value.int .i64 g))] []) w):=Eq.trans (b:=CS P (cA qW 29) none [] [6] (Vt K) (qi.mk 133 [(8,(VI a)),(7,(VI c)),(12,(VI i)),(11,(VI j)),(6,(VB false)),(0,(VS d e f)),(1,(VI g)),(2,(VI h))] []) w) kr (Eq.trans (Zc 0 [6] (q5x K) kr) ((qS (b:=(cA qW 116)) (X':=[6]) (H:=[7,6,8,0,2,1]) kr kr kr).trans kr))
theorem qht:qkB c d e f g h i j w K=(qj7 0 c d e f g h i j w K):=Eq.trans (b:=CS P (cA qW 7) none [6] [6] (yZ K) (qi.mk 133 [(7,(VI c)),(12,(VI d)),(11,(VI e)),(6,(VB false)),(0,(VS f g h)),(1,(VI i)),(2,(VI j))] []) w) kr (Eq.trans (qZ [] (Vt K) kr) (Eq.trans (qZ [7,6,8,0,2,1] (qzf K) kr) kr))
theorem qgD:qmc d e f c g w K=(qkB (IntKind.wrap .i64 (c+1)) (IntKind.wrap .i64 (c+1)) c d e f c g w K):=Eq.trans (b:=CS P (cA qW 3) none [6] [6] (yZ K) (qi.mk 133 [(6,(VB false)),(0,(VS d e f)),(1,(VI c)),(2,(VI g))] []) w) kr (Eq.trans (qZ [7,6,0,2,1] (qBt K) kr) kr)
theorem qhC:qmT c d e f g w K=(qmc c d e f g w K):=Eq.trans (b:=CS P (cA qW 1) none [6] [6] (yZ K) (qi.mk 133 [(0,(VS c d e)),(1,(VI f)),(2,(VI g))] []) w) kr (Eq.trans (qZ [6,0,2,1] (qAE K) kr) kr)
theorem qBa:f147 a b c d e w K=(qmT a b c d e w K):=kr
theorem qDj a b c d e w K(h:f147 a b c d e w K):q9 P 147 [(Value.slice a b c),(Value.int .i64 d),(Value.int .i64 e)] w K:=qA qW Tryz.func147 h
end Go.Fx.Tryz
namespace Go.Fx.Tryz
open Go Go.Fx
set_option linter.all false
open Go.Proofs
open Go.Sort (swp swp_size ltInt scanSorted shiftDown shiftUp partialIns partialInsertionSort)
variable {w0 w:World} {H X:qE} {K:KT}
set_option maxRecDepth 20000
section
variable {g c:Nat} {T:TypeId} {z:List Value} {Y4:YT}
theorem ZF:∀ (j:Nat) (d:Array Int),(shiftDown ltInt j d).size=d.size
 | 0,d=>rfl
 | j+1,d=>by
  unfold shiftDown
  split
  ·rfl
  ·rw[ZF j,swp_size]
theorem Vj(b:Nat):∀ (m j:Nat) (d:Array Int),b-j=m->(shiftUp ltInt b j d).size=d.size
 | 0,j,d,h=>by rw[shiftUp,if_neg om]
 | m+1,j,d,h=>by
  rw[shiftUp,if_pos om]
  split
  ·rfl
  ·rw[Vj b m (j+1) _ om,swp_size]
def qMU(w0:World)(H:qE)(g c:Nat)(T:TypeId)(z:List Value)(n a b i s:Nat)(D:Array Int)(m:Nat)(ee:qi)(w:World):Prop:=
 ∃ (k:Nat) (d:Array Int),i<k/\k<=b/\m=b-k/\d.size=n/\shiftUp ltInt b k d=D/\ee=qi.mk 133 [(6,(Value.bool false)),(7,(Value.int .i64 i)),(0,(Value.slice (some (Addr.mk g 0 none)) n c)),(2,(Value.int .i64 b)),(1,(Value.int .i64 a)),(8,(Value.int .i64 s)),(10,(Value.int .i64 k))] []/\St w0 w ((g,Cs (yc d z) T)::H)
theorem qIm{d:Array Int}{n a b i s:Nat}(h:St w0 w ((g,Cs (yc d z) T)::H))(hd:d.size=n)(hi:i<b)(hb:b<=n)(hn:n<1000000000000)
  (hK:∀ w',St w0 w' ((g,Cs (yc (if b-i>=2 then shiftUp ltInt b (i+1) d else d) z) T)::H)->ZE i false (some (Addr.mk g 0 none)) n c b a s w' K Y4) :
  QB false i (some (Addr.mk g 0 none)) n c b a s w K Y4:=by
 have e1:IntKind.wrap .i64 ((b:Int)-(i:Int))=((b-i:Nat):Int):=by rw[qc om om];omega
 have e2:IntKind.wrap .i64 ((i:Int)+1)=((i+1:Nat):Int):=by rw[qc om om];omega
 rw[qcm,e1,qg]
 refine⟨fun h2=>?_,fun h2=>?_⟩
 ·have h2:b-i>=2:=by simp at h2;omega
  rw[if_pos h2]at hK
  rw[qbT,e2,q8B]
  refine⟨qMU w0 H g c T z n a b i s (shiftUp ltInt b (i+1) d),⟨b-(i+1),i+1,d,by omega,by omega,rfl,hd,rfl,rfl,h⟩,?_⟩
  generalize shiftUp ltInt b (i+1) d=D at hK
  clear h hd
  rintro m ee w1 ⟨k,d,hik,hkb,rfl,hd,hD,rfl,h1⟩
  show q4v ..
  subst hd
  rw[shiftUp]at hD
  rw[q6F,qg]
  constructor
  ·intro hlt
   have hlt:k<b:=by simpa using hlt
   rw[if_pos hlt]at hD
   have ek:IntKind.wrap .i64 ((k:Int)-1)=((k-1:Nat):Int):=by rw[qc om om];omega
   rw[qaJ]
   refine yx (i:=k) (j:=k-1) rfl ek om om h1 (.head _) fun w2 h2=>⟨_,rfl,?_⟩
   rw[qbQ,qg]
   refine⟨fun hb'=>?_,fun hb'=>?_⟩
   ·rw[if_pos hb']at hD
    subst hD
    exact hK w2 h2
   ·rw[if_neg (by simp[hb'])]at hD
    rw[qaY]
    refine yo (i:=k) (j:=k-1) rfl ek om om h2 fun w3 h3=>?_
    rw[q8y]
    refine⟨b-(k+1),by omega,k+1,_,by omega,by omega,rfl,swp_size _ _ _,hD,?_,h3⟩
    rw[qc om om];rfl
  ·intro hge
   have hge:¬ k<b:=by simpa using hge
   rw[if_neg hge]at hD
   subst hD
   exact hK w1 h1
 ·have h2:¬ b-i>=2:=by simp at h2;omega
  rw[if_neg h2]at hK
  exact hK w h
def qKS(w0:World)(H:qE)(g c:Nat)(T:TypeId)(z:List Value)(n a b i s:Nat)(D:Array Int)(m:Nat)(ee:qi)(w:World):Prop:=
 ∃ (k:Nat) (d:Array Int),k<i/\m=k/\d.size=n/\shiftDown ltInt k d=D/\ee=qi.mk 133 [(6,(Value.bool false)),(7,(Value.int .i64 i)),(0,(Value.slice (some (Addr.mk g 0 none)) n c)),(2,(Value.int .i64 b)),(1,(Value.int .i64 a)),(8,(Value.int .i64 s)),(9,(Value.int .i64 k))] []/\St w0 w ((g,Cs (yc d z) T)::H)
theorem qHw{d:Array Int}{n a b i s:Nat}(h:St w0 w ((g,Cs (yc d z) T)::H))(hd:d.size=n)(hai:a<i)(hi:i<b)(hb:b<=n)(hn:n<1000000000000)
  (hK:∀ w',St w0 w' ((g,Cs (yc (if i-a>=2 then shiftDown ltInt (i-1) d else d) z) T)::H)->QB false i (some (Addr.mk g 0 none)) n c b a s w' K Y4) :
  q2L false i (some (Addr.mk g 0 none)) n c b a s w K Y4:=by
 have e1:IntKind.wrap .i64 ((i:Int)-(a:Int))=((i-a:Nat):Int):=by rw[qc om om];omega
 have e2:IntKind.wrap .i64 ((i:Int)-1)=((i-1:Nat):Int):=by rw[qc om om];omega
 rw[q8N,e1,qg]
 refine⟨fun h2=>?_,fun h2=>?_⟩
 ·have h2:i-a>=2:=by simp at h2;omega
  rw[if_pos h2]at hK
  rw[qbf,e2,qbV]
  refine⟨qKS w0 H g c T z n a b i s (shiftDown ltInt (i-1) d),⟨i-1,i-1,d,by omega,rfl,hd,rfl,rfl,h⟩,?_⟩
  generalize shiftDown ltInt (i-1) d=D at hK
  clear h hd
  rintro k ee w1 ⟨_,d,hki,rfl,hd,hD,rfl,h1⟩
  show q4r ..
  subst hd
  rw[q6u,qg]
  constructor
  ·intro hge
   obtain⟨q,rfl⟩:∃ q,k=q+1:=⟨k-1,by simp at hge;omega⟩
   have ek:IntKind.wrap .i64 (((q+1:Nat):Int)-1)=(q:Int):=by rw[qc om om];omega
   unfold shiftDown at hD
   rw[qbD]
   refine yx (i:=q+1) (j:=q) rfl ek om om h1 (.head _) fun w2 h2=>⟨_,rfl,?_⟩
   rw[qbq,qg]
   refine⟨fun hb'=>?_,fun hb'=>?_⟩
   ·rw[if_pos hb']at hD
    subst hD
    exact hK w2 h2
   ·rw[if_neg (by simp[hb'])]at hD
    rw[q84]
    refine yo (i:=q+1) (j:=q) rfl ek om om h2 fun w3 h3=>?_
    rw[q9r,ek]
    exact⟨q,by omega,q,_,by omega,rfl,swp_size _ _ _,hD,rfl,h3⟩
  ·intro hlt
   have:k=0:=by simp at hlt;omega
   subst this
   have hD:d=D:=hD
   subst hD
   exact hK w1 h1
 ·have h2:¬ i-a>=2:=by simp at h2;omega
  rw[if_neg h2]at hK
  exact hK w h
def qMj(w0:World)(X:qE)(g c:Nat)(d:Array Int)(a b s I:Nat)(m:Nat)(ee:qi)(w:World):Prop:=
 ∃ i:Nat,a<i/\i<=b/\m=b-i/\scanSorted ltInt d b i=I/\ee=qi.mk 133 [(7,(Value.int .i64 i)),(6,(Value.bool false)),(0,(Value.slice (some (Addr.mk g 0 none)) d.size c)),(2,(Value.int .i64 b)),(1,(Value.int .i64 a)),(8,(Value.int .i64 s))] []/\St w0 w X
def qFt(w0:World)(H:qE)(g c:Nat)(T:TypeId)(z:List Value)(n a b:Nat)(R:Array Int × Bool)(m:Nat)(ee:qi)(w:World):Prop:=
 ∃ (i:Nat) (d:Array Int),a<i/\i<=b/\m<=5/\d.size=n/\partialIns ltInt a b m i d=R/\ee=qi.mk 133 [(7,(Value.int .i64 i)),(6,(Value.bool false)),(8,(Value.int .i64 ((5-m:Nat):Int))),(0,(Value.slice (some (Addr.mk g 0 none)) n c)),(2,(Value.int .i64 b)),(1,(Value.int .i64 a))] []/\St w0 w ((g,Cs (yc d z) T)::H)
theorem qfB{d:Array Int}{a b:Nat}(h:St w0 w ((g,Cs (yc d z) T)::H))(hab:a<b)(hb:b<=d.size)(hn:d.size<1000000000000)
  (hK:∀ w',St w0 w' ((g,Cs (yc (partialInsertionSort ltInt d a b).1 z) T)::H)->K (.bool (partialInsertionSort ltInt d a b).2) w') :
  q9 P 147 [.slice (some (Addr.mk g 0 none)) d.size c,.int .i64 a,.int .i64 b] w K:=by
 refine qDj _ _ _ _ _ _ _ ?_
 have ei:IntKind.wrap .i64 ((a:Int)+1)=((a+1:Nat):Int):=by rw[qc om om];omega
 rw[qBa,qhC,qgD,ei,qht,qdo]
 unfold partialInsertionSort at hK
 refine⟨qFt w0 H g c T z d.size a b (partialIns ltInt a b 5 (a+1) d),⟨5,a+1,d,by omega,by omega,by omega,rfl,rfl,rfl,h⟩,?_⟩
 generalize hnn:d.size=n at hb hn
 generalize partialIns ltInt a b 5 (a+1) d=R at hK
 clear h hnn d
 rintro m ee w1 ⟨i,d,hai,hib,hm5,hd,hR,rfl,h1⟩
 show q8j ..
 subst hd
 rw[qbX,qg]
 constructor
 ·intro hlt
  obtain⟨m,rfl⟩:∃ q,m=q+1:=⟨m-1,by simp at hlt;omega⟩
  rw[qep]
  unfold partialIns at hR
  simp only at hR
  refine⟨qMj w0 ((g,Cs (yc d z) T)::H) g c d a b (5-(m+1)) (scanSorted ltInt d b i),⟨b-i,i,hai,hib,rfl,rfl,rfl,h1⟩,?_⟩
  generalize scanSorted ltInt d b i=I at hR
  clear h1
  rintro q ee w2 ⟨i2,hai2,hib2,rfl,hI,rfl,h2⟩
  show q8W ..
  rw[scanSorted]at hI
  rw[qbb,qg]
  have after:∀ w3,i2=I->St w0 w3 ((g,Cs (yc d z) T)::H)->q5P i2 (some (Addr.mk g 0 none)) d.size c b a ((5-(m+1):Nat):Int) false w3 K (fun e' w'=>∃ m',m'<m+1/\qFt w0 H g c T z d.size a b R m' e' w'):=by
   intro w3 hi h3
   subst hi
   rw[qeO,qg]
   refine⟨fun he=>?_,fun he=>?_⟩
   ·have he:i2=b:=by simp at he;omega
    rw[if_pos he]at hR
    subst hR
    exact hK w3 h3
   ·have he:i2≠b:=by simp at he;omega
    rw[if_neg he]at hR
    have e1:IntKind.wrap .i64 ((b:Int)-(a:Int))=((b-a:Nat):Int):=by rw[qc om om];omega
    rw[q94,e1,qg]
    refine⟨fun h50=>?_,fun h50=>?_⟩
    ·have h50:b-a<50:=by simp at h50;omega
     rw[if_pos h50]at hR
     subst hR
     exact hK w3 h3
    ·have h50:¬ b-a<50:=by simp at h50;omega
     rw[if_neg h50]at hR
     have e2:IntKind.wrap .i64 ((i2:Int)-1)=((i2-1:Nat):Int):=by rw[qc om om];omega
     rw[q9W]
     refine yo (i:=i2) (j:=i2-1) rfl e2 om om h3 fun w4 h4=>?_
     refine qHw h4 (swp_size _ _ _) hai2 om hb hn fun w5 h5=>?_
     have hsz:(if i2-a>=2 then shiftDown ltInt (i2-1) (swp d i2 (i2-1))else swp d i2 (i2-1)).size=d.size:=by
      split
      ·rw[ZF,swp_size]
      ·rw[swp_size]
     refine qIm h5 hsz om hb hn fun w6 h6=>?_
     rw[q90]
     refine⟨m,by omega,i2,_,hai2,hib2,by omega,?_,hR,?_,h6⟩
     ·split
      ·rw[Vj _ _ _ _ rfl,hsz]
      ·exact hsz
     ·have:IntKind.wrap .i64 (((5-(m+1):Nat):Int)+1)=((5-m:Nat):Int):=by rw[qc om om];omega
      rw[this]
  constructor
  ·intro hlt2
   have hlt2:i2<b:=by simpa using hlt2
   have e2:IntKind.wrap .i64 ((i2:Int)-1)=((i2-1:Nat):Int):=by rw[qc om om];omega
   refine yx (i:=i2) (j:=i2-1) rfl e2 om om h2 (.head _) fun w3 h3=>⟨_,rfl,?_⟩
   rw[q2k,qg]
   refine⟨fun hb'=>?_,fun hb'=>?_⟩
   ·rw[if_pos (by simp[hlt2];simpa using hb')]at hI
    rw[qgu]
    refine⟨b-(i2+1),by omega,i2+1,by omega,by omega,rfl,hI,?_,h3⟩
    rw[qc om om];rfl
   ·rw[if_neg (by rw[hb'];simp)]at hI
    exact after w3 hI h3
  ·intro hge
   have hge:¬ i2<b:=by simpa using hge
   rw[if_neg (by simp[hge])]at hI
   rw[q2k,qb]
   exact after _ hI h2.drew
 ·intro hge
  have:m=0:=by simp at hge;omega
  subst this
  have hR:(d,false)=R:=hR
  subst hR
  rw[qcJ]
  exact hK w1 h1
end
end Go.Fx.Tryz
namespace Go.Fx.Tryz
set_option maxRecDepth 100000
open Go Go.Fx Go.Proofs
def yU:=qm Tryz.f106
def qKF:=Tryz.f106.results.toList
abbrev jf K:=qr P qKF K
def f106 a b c d e f w K:=CS P yU none [] [] (jf K) (qz 134 [(VS a b c),(VI d),(VI e),(VI f)]) w
def qjh a b c d e f w K:=SC yU 1 [] [] (jf K) 134 [(0,VS a b c),(1,VI d),(2,VI e),(3,VI f)] w
abbrev qzi K:=kq yU 1 [] [] (jf K)
def qkV a b c d e f w K:=SC yU 3 [] [] (jf K) 134 [(8,VB true),(0,VS a b c),(1,VI d),(2,VI e),(3,VI f)] w
abbrev qz0 K:=kq yU 3 [] [] (jf K)
def qkP a b c d e f w K:=SC yU 7 [] [] (jf K) 134 [(9,VB true),(8,VB true),(0,VS a b c),(1,VI d),(2,VI e),(3,VI f)] w
abbrev q5N K:=qo 0 (jf K)
def qsF K Y3 e w:=zt (fun e w=>CS P (cA yU 28) none [2,1,0,9,8,3] [] (qu [2,1,0,9,8,3] Y3 (q5N K)) e w) e w
abbrev q9Z K Y3:=qu [2,1,0,9,8,3] Y3 (q5N K)
def q1W a b c d f g h i w K Y3:=SG yU 28 [2,1,0,9,8,3] [] (q9Z K Y3) 134 [(2,VI a),(1,VI b),(0,VS c d f),(9,VB g),(8,VB h),(3,VI i)] w
abbrev yy K Y3:=qo 1 (q9Z K Y3)
abbrev qBE K Y3:=kq yU 56 [2,1,0,9,8,3] [2,1,0,9,8,3] (yy K Y3)
def qjY a b c d f g h i j w K Y3:=SG yU 227 [2,1,0,9,8,3] [2,1,0,9,8,3] (yy K Y3) 134 [(2,VI a),(1,VI b),(0,VS c d f),(9,VB g),(8,VB h),(3,VI i),(10,VI j)] w
abbrev qjj K Y3:=kq yU 227 [2,1,0,9,8,3] [2,1,0,9,8,3] (yy K Y3)
abbrev qBT K Y3:=kq yU 454 [2,1,0,9,8,10,3] [2,1,0,9,8,3] (qjj K Y3)
def qo1 a b c d f g h i j w K Y3:=SG yU 455 [2,1,0,9,8,3] [2,1,0,9,8,3] (yy K Y3) 134 [(2,VI a),(1,VI b),(0,VS c d f),(9,VB g),(8,VB h),(10,VI i),(3,VI j)] w
abbrev qbn K Y3:=kq yU 455 [2,1,0,9,8,3] [2,1,0,9,8,3] (yy K Y3)
abbrev qsR K Y3:=kq yU 910 [2,1,0,9,8,3,10] [2,1,0,9,8,3] (qbn K Y3)
def q0O a b c d f g h i j w K Y3:=SG yU 911 [2,1,0,9,8,3] [2,1,0,9,8,3] (yy K Y3) 134 [(2,VI a),(1,VI b),(0,VS c d f),(9,VB g),(8,VB h),(3,VI i),(10,VI j)] w
abbrev qvQ K Y3:=kq yU 911 [2,1,0,9,8,3] [2,1,0,9,8,3] (yy K Y3)
def q0w a b c d f g h i j k l w K Y3:=SG yU 3647 [2,1,0,9,8,3] [2,1,0,9,8,3] (yy K Y3) 134 [(2,VI a),(1,VI b),(0,VS c d f),(9,VB g),(8,VB h),(3,VI i),(11,VI j),(10,VI k),(12,VI l)] w
abbrev q38 K Y3:=kq yU 3647 [2,1,0,9,8,3] [2,1,0,9,8,3] (yy K Y3)
abbrev qvf K Y3:=kq yU 7294 [2,0,9,8,3,11,1,10] [2,1,0,9,8,3] (q38 K Y3)
def YX a b c d f g h i j k l w K Y3:=SG yU 14589 [2,0,9,8,3,11,1,10] [2,1,0,9,8,3] (q38 K Y3) 134 [(68,VB a),(2,VI b),(1,VI c),(0,VS d f g),(9,VB h),(8,VB i),(3,VI j),(11,VI k),(10,VI l)] w
def Va a b c d f g h i j k w K Y3:=SG yU 7295 [2,1,0,9,8,3] [2,1,0,9,8,3] (yy K Y3) 134 [(2,VI a),(0,VS b c d),(9,VB f),(8,VB g),(3,VI h),(11,VI i),(1,VI j),(10,VI k)] w
abbrev q2O K Y3:=kq yU 7295 [2,1,0,9,8,3] [2,1,0,9,8,3] (yy K Y3)
abbrev qtF K Y3:=kq yU 14590 [2,0,3,1,10,11] [2,1,0,9,8,3] (q2O K Y3)
def q2Y a b c d f g h i j k l w K Y3:=SG yU 29181 [2,0,3,1,10,11] [2,1,0,9,8,3] (q2O K Y3) 134 [(87,VB a),(2,VI b),(0,VS c d f),(9,VB g),(8,VB h),(3,VI i),(11,VI j),(1,VI k),(10,VI l)] w
def q1Z a b c d f g h i w K Y3:=SG yU 14591 [2,1,0,9,8,3] [2,1,0,9,8,3] (yy K Y3) 134 [(2,VI a),(0,VS b c d),(3,VI f),(1,VI g),(10,VI h),(11,VI i)] w
abbrev qsZ K Y3:=kq yU 14591 [2,1,0,9,8,3] [2,1,0,9,8,3] (yy K Y3)
theorem q9j:q1Z d e f g i h j k w K Y3=(q9 P 150 [(Value.slice e f g),(Value.int .i64 h),(Value.int .i64 d),(Value.int .i64 k)] w (fun n m=>∃ c:Int,∃ l:Bool,n=(.tuple #[(Value.int .i64 c),(Value.bool l)])/\(8:Int)≠0/\qp (decide ((IntKind.wrap .i64 (c-h))<(IntKind.wrap .i64 (d-c)))) (q9 P 106 [(Value.slice e f g),(Value.int .i64 h),(Value.int .i64 c),(Value.int .i64 i)] m (fun o p=>o=(.tuple #[])/\Y3 (qi.mk 134 [(2,(Value.int .i64 d)),(1,(Value.int .i64 (IntKind.wrap .i64 (c+1)))),(0,(Value.slice e f g)),(9,(Value.bool l)),(8,(Value.bool (decide ((IntKind.wrap .i64 (c-h))>=(IntKind.wrap .i64 (j.tdiv 8)))))),(3,(Value.int .i64 i))] []) p)) (q9 P 106 [(Value.slice e f g),(Value.int .i64 (IntKind.wrap .i64 (c+1))),(Value.int .i64 d),(Value.int .i64 i)] m (fun q r=>q=(.tuple #[])/\Y3 (qi.mk 134 [(2,(Value.int .i64 c)),(1,(Value.int .i64 h)),(0,(Value.slice e f g)),(9,(Value.bool l)),(8,(Value.bool (decide ((IntKind.wrap .i64 (d-c))>=(IntKind.wrap .i64 (j.tdiv 8)))))),(3,(Value.int .i64 i))] []) r)))):=qB (qG [2,0,3,14,1,10,15] (qsZ K Y3) kr)
theorem JP:q2Y i a c d e j k f g h l w K Y3=(qp i (q9 P 149 [(Value.slice c d e),(Value.int .i64 h),(Value.int .i64 a),(Value.int .i64 g)] w (fun n o=>∃ m:Int,n=(.int .i64 m)/\Y3 (qi.mk 134 [(2,(Value.int .i64 a)),(1,(Value.int .i64 m)),(0,(Value.slice c d e)),(9,(Value.bool j)),(8,(Value.bool k)),(3,(Value.int .i64 f))] []) o)) (q1Z a c d e f h l g w K Y3)):=qB kr
theorem qdC:Va g e f h i j k d c l w K Y3=(qp (decide (c > 0)) (qh e (fun p=>0<=(IntKind.wrap .i64 (c-1))/\(IntKind.wrap .i64 (c-1))<(f:Nat)/\qh e (fun q=>0<=d/\d<(f:Nat)/\∃ m:Int,w.drew.cell? (p.add (Int.toNat (IntKind.wrap .i64 (c-1))*1))=some (.int .u32 m)/\∃ n:Int,w.drew.cell? (q.add (Int.toNat d*1))=some (.int .u32 n)/\q9 P 148 [(Value.int .u32 m),(Value.int .u32 n)] w.drew (fun r s=>∃ o:Bool,r=(.bool o)/\q2Y (!o) g e f h i j k d c l s K Y3)))) (q2Y false g e f h i j k d c l w.drew K Y3)):=qB (qG [2,0,3,1,10,11] (q2O K Y3) (qG [87,2,0,9,8,3,11,1,10] (qtF K Y3) kr))
theorem q3K:YX l a c d e f g h i j k w K Y3=(qp l (q9 P 147 [(Value.slice d e f),(Value.int .i64 c),(Value.int .i64 a)] w (fun o m=>∃ n:Bool,o=(.bool n)/\qp n (K (Value.tuple #[]) m) (Va a d e f g h i j c k m K Y3))) (Va a d e f g h i j c k w K Y3)):=qB kr
theorem qfh:q0w e f g h i c d j k l m w K Y3=(qp d (qp c (YX (m==1) e f g h i c d j k l w K Y3) (YX false e f g h i c d j k l w K Y3)) (YX false e f g h i c d j k l w K Y3)):=qB (qG [2,0,9,8,3,11,1,10] (q38 K Y3) (qG [68,2,1,0,9,8,3,11,10] (qvf K Y3) kr))
theorem qiy:q0O c d e f g h i j k w K Y3=(q9 P 145 [(Value.slice e f g),(Value.int .i64 d),(Value.int .i64 c)] w (fun o n=>∃ l:Int,∃ m:Int,o=(.tuple #[(Value.int .i64 l),(Value.int .i64 m)])/\qp (m==2) (q9 P 146 [(Value.slice e f g),(Value.int .i64 d),(Value.int .i64 c)] n (fun p q=>p=(.tuple #[])/\q0w c d e f g h i j (IntKind.wrap .i64 ((IntKind.wrap .i64 (c-1))-(IntKind.wrap .i64 (l-d)))) k 1 q K Y3)) (q0w c d e f g h i j l k m n K Y3))):=qB (qG [2,1,0,9,8,3,10,11,12] (qvQ K Y3) kr)
theorem qfo:qo1 c d e f g i h j k w K Y3=(qp (!h) (q9 P 144 [(Value.slice e f g),(Value.int .i64 d),(Value.int .i64 c)] w (fun l m=>l=(.tuple #[])/\q0O c d e f g i h (IntKind.wrap .i64 (k-1)) j m K Y3)) (q0O c d e f g i h k j w K Y3)):=qB (qG [2,1,0,9,8,3,10] (qbn K Y3) (qG [35,2,1,0,9,8,10,3] (qsR K Y3) kr))
theorem qio:qjY c d e f g i j h k w K Y3=(qp (h==0) (q9 P 143 [(Value.slice e f g),(Value.int .i64 d),(Value.int .i64 c)] w (fun l m=>l=(.tuple #[])/\K (Value.tuple #[]) m)) (qo1 c d e f g i j k h w K Y3)):=qB (qG [2,1,0,9,8,10,3] (qjj K Y3) (qG [29,2,1,0,9,8,3,10] (qBT K Y3) kr))
theorem JZ:q1W c d e f g h i j w K Y3=(qp (decide ((IntKind.wrap .i64 (c-d))<=12)) (q9 P 142 [(Value.slice e f g),(Value.int .i64 d),(Value.int .i64 c)] w (fun k l=>k=(.tuple #[])/\K (Value.tuple #[]) l)) (qjY c d e f g h i j (IntKind.wrap .i64 (c-d)) w K Y3)):=qB (Q8 1 [2,1,0,9,8,3] (yy K Y3) (qG [2,1,0,9,8,3,10] (qBE K Y3) kr))
theorem q1y:qkP a c d e f g w K=(qK (qsF K) (qi.mk 134 [(2,(Value.int .i64 f)),(1,(Value.int .i64 e)),(0,(Value.slice a c d)),(9,(Value.bool true)),(8,(Value.bool true)),(3,(Value.int .i64 g))] []) w):=Eq.trans (b:=CS P (cA yU 7) none [] [] (jf K) (qi.mk 134 [(9,(VB true)),(8,(VB true)),(0,(VS a c d)),(1,(VI e)),(2,(VI f)),(3,(VI g))] []) w) kr (Eq.trans (Zc 0 [] (q5N K) kr) ((qS (b:=(cA yU 28)) (X':=[]) (H:=[2,1,0,9,8,3]) kr kr kr).trans kr))
theorem q3M:qkV c d e f g h w K=(qkP c d e f g h w K):=Eq.trans (b:=CS P (cA yU 3) none [] [] (jf K) (qi.mk 134 [(8,(VB true)),(0,(VS c d e)),(1,(VI f)),(2,(VI g)),(3,(VI h))] []) w) kr (Eq.trans (qZ [2,1,0,9,8,3] (qz0 K) kr) kr)
theorem q36:qjh c d e f g h w K=(qkV c d e f g h w K):=Eq.trans (b:=CS P (cA yU 1) none [] [] (jf K) (qi.mk 134 [(0,(VS c d e)),(1,(VI f)),(2,(VI g)),(3,(VI h))] []) w) kr (Eq.trans (qZ [2,1,0,8,3] (qzi K) kr) kr)
theorem qjO:f106 a b c d e f w K=(qjh a b c d e f w K):=kr
theorem qmR a b c d e f w K(h:f106 a b c d e f w K):q9 P 106 [(Value.slice a b c),(Value.int .i64 d),(Value.int .i64 e),(Value.int .i64 f)] w K:=qA yU Tryz.func106 h
end Go.Fx.Tryz
namespace Go.Fx.Tryz
open Go Go.Fx
set_option linter.all false
open Go.Proofs
open Go.Sort (swp ltInt pdq Below rd SWO swo_ltInt insertionSort_holds heapSort_holds partialInsertionSort_holds partition_holds partitionEqual_holds reverseRange_holds breakPatterns_holds choosePivot_holds pdq_sorts Hint rd_facts round_eq round_part pdq_small pdq_heap pdq_done pdq_eq pdq_left pdq_right choosePivot breakPatterns reverseRange partialInsertionSort partition partitionEqual)
variable {w0 w:World} {H X:qE} {K:KT}
set_option maxRecDepth 20000
section
variable {g c:Nat} {T:TypeId} {z:List Value}
def q3F(w0:World)(H:qE)(g c:Nat)(T:TypeId)(z:List Value)(n M:Nat)(D:Array Int)(m:Nat)(ee:qi)(w:World):Prop:=
 ∃ (a b limit:Nat) (wb wp:Bool) (d:Array Int),m=b-a/\m<=M/\a<=b/\b<=n/\limit<=100/\d.size=n/\Below ltInt a b d/\pdq ltInt d a b limit wb wp=D/\
  ee=qi.mk 134 [(2,(Value.int .i64 b)),(1,(Value.int .i64 a)),(0,(Value.slice (some (Addr.mk g 0 none)) n c)),(9,(Value.bool wp)),(8,(Value.bool wb)),(3,(Value.int .i64 limit))] []/\St w0 w ((g,Cs (yc d z) T)::H)
theorem qMl(h:Hint):(qlj h==2)=decide (h=.decreasing):=by cases h<;>rfl
theorem qMV(h:Hint):(qlj h==1)=decide (h=.increasing):=by cases h<;>rfl
theorem qK1{N n M:Nat}{D:Array Int}{d3:Array Int}{a b lim pv:Nat}{wb wp:Bool}{m:Nat}
  (ih:∀ {w:World} {K:KT} {d:Array Int} {a b limit:Nat},b-a<N->St w0 w ((g,Cs (yc d z) T)::H)->a<=b->b<=d.size->d.size<1000000000000->limit<=100->Below ltInt a b d->
   (∀ w',St w0 w' ((g,Cs (yc (pdq ltInt d a b limit true true) z) T)::H)->K (.tuple [].toArray) w')->q9 P 106 [.slice (some (Addr.mk g 0 none)) d.size c,.int .i64 a,.int .i64 b,.int .i64 limit] w K)
  (h:St w0 w ((g,Cs (yc d3 z) T)::H)) (hd:d3.size=n) (hab:12<b-a) (hb:b<=n) (hn:n<1000000000000) (hlim:lim<=100) (hp:a<=pv/\pv<b) (hB:Below ltInt a b d3) (hM:b-a<=M) (hN:b-a<=N) (hm:m=b-a)
  (he:(decide (a > 0)&&!ltInt d3[a-1]! d3[pv]!)=true->pdq ltInt (partitionEqual ltInt d3 a b pv).2 (partitionEqual ltInt d3 a b pv).1 b lim wb wp=D)
  (hl:(decide (a > 0)&&!ltInt d3[a-1]! d3[pv]!)=false->(partition ltInt d3 a b pv).1-a<b-(partition ltInt d3 a b pv).1->pdq ltInt (pdq ltInt (partition ltInt d3 a b pv).2.2 a (partition ltInt d3 a b pv).1 lim true true) ((partition ltInt d3 a b pv).1+1) b lim (decide ((partition ltInt d3 a b pv).1-a>=(b-a) / 8)) (partition ltInt d3 a b pv).2.1=D)
  (hr:(decide (a > 0)&&!ltInt d3[a-1]! d3[pv]!)=false->¬ (partition ltInt d3 a b pv).1-a<b-(partition ltInt d3 a b pv).1->pdq ltInt (pdq ltInt (partition ltInt d3 a b pv).2.2 ((partition ltInt d3 a b pv).1+1) b lim true true) a (partition ltInt d3 a b pv).1 lim (decide (b-(partition ltInt d3 a b pv).1>=(b-a) / 8)) (partition ltInt d3 a b pv).2.1=D) :
  Va b (some (Addr.mk g 0 none)) n c wp wb lim pv a ((b-a:Nat):Int) w K (fun e' w'=>∃ m',m'<m/\q3F w0 H g c T z n M D m' e' w'):=by
 subst hd
 have s11:∀ w1,(decide (a > 0)&&!ltInt d3[a-1]! d3[pv]!)=false->St w0 w1 ((g,Cs (yc d3 z) T)::H)->q1Z b (some (Addr.mk g 0 none)) d3.size c lim a ((b-a:Nat):Int) pv w1 K (fun e' w'=>∃ m',m'<m/\q3F w0 H g c T z d3.size M D m' e' w'):=by
  intro w1 hc h1
  rw[q9j]
  refine q5V h1 hp.1 hp.2 hb hn fun w2 h2=>⟨_,_,rfl,by omega,?_⟩
  obtain⟨r1,r2,r3,r4,r5,r6,r7⟩:=round_part swo_ltInt (partition_holds ltInt) (d3:=d3) (d4:=(partition ltInt d3 a b pv).2.2) (mid:=(partition ltInt d3 a b pv).1) (ap:=(partition ltInt d3 a b pv).2.1) hp.1 hp.2 hb hB rfl
  have hl:=hl hc
  have hr:=hr hc
  generalize (partition ltInt d3 a b pv).1=mid at *
  generalize (partition ltInt d3 a b pv).2.1=ap at *
  generalize (partition ltInt d3 a b pv).2.2=d4 at *
  have e1:IntKind.wrap .i64 ((mid:Int)-(a:Int))=((mid-a:Nat):Int):=by rw[qc om om];omega
  have e2:IntKind.wrap .i64 ((b:Int)-(mid:Int))=((b-mid:Nat):Int):=by rw[qc om om];omega
  have e3:IntKind.wrap .i64 (((b-a:Nat):Int).tdiv 8)=(((b-a) / 8:Nat):Int):=by rw[Int.tdiv_eq_ediv_of_nonneg om,qc om om];omega
  have e4:IntKind.wrap .i64 ((mid:Int)+1)=((mid+1:Nat):Int):=by rw[qc om om];omega
  rw[e1,e2,e3,e4,qg,<-r3]
  refine⟨fun hlt=>?_,fun hge=>?_⟩
  ·have hlt:mid-a<b-mid:=by simp at hlt;omega
   refine ih om h2 r1 om om hlim r4 fun w3 h3=>⟨rfl,?_⟩
   obtain⟨q1,q2⟩:=pdq_sorts ltInt swo_ltInt d4 a mid lim true true r1 om r4
   have q3:=(r6 _ q1 q2).1
   refine⟨b-(mid+1),by omega,mid+1,b,lim,_,_,_,rfl,by omega,by omega,by omega,hlim,q1.1,q3,hl hlt,?_,h3⟩
   have:decide (((mid-a:Nat):Int)>=(((b-a) / 8:Nat):Int))=decide (mid-a>=(b-a) / 8):=by
    rw[Bool.eq_iff_iff];simp only[decide_eq_true_eq];omega
   rw[this]
  ·have hge:¬ mid-a<b-mid:=by simp at hge;omega
   refine ih om h2 om om om hlim r5 fun w3 h3=>⟨rfl,?_⟩
   obtain⟨q1,q2⟩:=pdq_sorts ltInt swo_ltInt d4 (mid+1) b lim true true om om r5
   have q3:=(r7 _ q1 q2).1
   refine⟨mid-a,by omega,a,mid,lim,_,_,_,rfl,by omega,by omega,by omega,hlim,q1.1,q3,hr hge,?_,h3⟩
   have:decide (((b-mid:Nat):Int)>=(((b-a) / 8:Nat):Int))=decide (b-mid>=(b-a) / 8):=by
    rw[Bool.eq_iff_iff];simp only[decide_eq_true_eq];omega
   rw[this]
 rw[qdC,qg]
 constructor
 ·intro ha0
  have ha0:a > 0:=by simp at ha0;omega
  have e1:IntKind.wrap .i64 ((a:Int)-1)=((a-1:Nat):Int):=by rw[qc om om];omega
  refine yx (i:=a-1) (j:=pv) e1 rfl om om h (.head _) fun w1 h1=>⟨_,rfl,?_⟩
  rw[JP,qg]
  refine⟨fun hn'=>?_,fun hn'=>?_⟩
  ·have hc:(decide (a > 0)&&!ltInt d3[a-1]! d3[pv]!)=true:=by simp[ha0];simpa using hn'
   have he:=he hc
   refine VM h1 hp.1 hp.2 hb hn fun w2 h2=>⟨_,rfl,?_⟩
   obtain⟨r1,r2,r3,r4,_⟩:=round_eq swo_ltInt (partitionEqual_holds (lt:=ltInt)) (d3:=d3) (d4:=(partitionEqual ltInt d3 a b pv).2) (mid:=(partitionEqual ltInt d3 a b pv).1) ha0 hp.1 hp.2 hb hB (by simpa using hn') rfl
   exact⟨b-(partitionEqual ltInt d3 a b pv).1,by omega,_,b,lim,wb,wp,_,rfl,by omega,r2,hb,hlim,r3,r4,he,rfl,h2⟩
  ·exact s11 w1 (by rw[hn',Bool.and_false]) h1
 ·intro ha0
  have ha0:¬ a > 0:=by simp at ha0;omega
  rw[JP,qb]
  exact s11 _ (by simp[ha0]) h.drew
theorem qvK:∀ (N:Nat) {w:World} {K:KT} {d:Array Int} {a b limit:Nat},b-a<N->St w0 w ((g,Cs (yc d z) T)::H)->a<=b->b<=d.size->d.size<1000000000000->limit<=100->Below ltInt a b d->
  (∀ w',St w0 w' ((g,Cs (yc (pdq ltInt d a b limit true true) z) T)::H)->K (.tuple [].toArray) w')->q9 P 106 [.slice (some (Addr.mk g 0 none)) d.size c,.int .i64 a,.int .i64 b,.int .i64 limit] w K
 | 0,_,_,_,_,_,_,hN,_,_,_,_,_,_,_=>absurd hN (Nat.not_lt_zero _)
 | N+1,w,K,d,a,b,limit,hN,h,hab,hb,hn,hlim,hB,hK=>by
  refine qmR _ _ _ _ _ _ _ _ ?_
  rw[qjO,q36,q3M,q1y]
  refine⟨q3F w0 H g c T z d.size (b-a) (pdq ltInt d a b limit true true),⟨b-a,a,b,limit,true,true,d,rfl,Nat.le_refl _,hab,hb,hlim,rfl,hB,rfl,rfl,h⟩,?_⟩
  generalize pdq ltInt d a b limit true true=D at hK
  have hM:b-a<=N:=by omega
  generalize b-a=M at hM
  generalize hnn:d.size=n at hb hn
  clear h hab hb hB hN hlim hnn
  rintro m ee w1 ⟨a,b,limit,wb,wp,d,hm,hmM,hab,hb,hlim,hd,hB,hD,rfl,h1⟩
  show q1W ..
  have el:IntKind.wrap .i64 ((b:Int)-(a:Int))=((b-a:Nat):Int):=by rw[qc om om];omega
  subst hd
  rw[JZ,el,qg]
  constructor
  ·intro h12
   have h12:b-a<=12:=by simp at h12;omega
   rw[pdq_small h12]at hD
   subst hD
   exact q5f h1 hab hb hn fun w2 h2=>⟨rfl,hK w2 h2⟩
  ·intro h12
   have h12:¬ b-a<=12:=by simp at h12;omega
   rw[qio,qg]
   constructor
   ·intro h0
    have h0:limit=0:=by simp at h0;omega
    rw[pdq_heap h12 h0]at hD
    subst hD
    exact qER h1 hab hb hn fun w2 h2=>⟨rfl,hK w2 h2⟩
   ·intro h0
    have h0:¬ limit=0:=by simp at h0;omega
    obtain⟨k1,k2,k3,k4,k5,k6,k7,k8⟩:=rd_facts (lt:=ltInt) (d:=d) (a:=a) (b:=b) (limit:=limit) (wb:=wb) (wp:=wp) swo_ltInt partialInsertionSort_holds reverseRange_holds om hb hB
    have kl:(rd ltInt d a b limit wb wp).lim<=100:=Nat.le_trans Go.Sort.rd_lim_le hlim
    have t9:∀ w2,(rd ltInt d a b limit wb wp).pi.2=false->St w0 w2 ((g,Cs (yc (rd ltInt d a b limit wb wp).pi.1 z) T)::H)->
      Va b (some (Addr.mk g 0 none)) d.size c wp wb (rd ltInt d a b limit wb wp).lim (rd ltInt d a b limit wb wp).pivot a ((b-a:Nat):Int) w2 K (fun e' w'=>∃ m',m'<m/\q3F w0 H g c T z d.size M D m' e' w'):=by
     intro w2 hpi h2
     refine qK1 (N:=N) (fun q1 q2 q3 q4 q5 q6 q7 q8=>qvK N q1 q2 q3 q4 q5 q6 q7 q8) h2 k7 om hb hn kl k6 k8 om om hm (fun hc=>?_) (fun hc hlt=>?_) (fun hc hge=>?_)
     ·rw[<-hD]
      have ha0:a > 0:=by simp at hc;exact hc.1
      have hnl:ltInt (rd ltInt d a b limit wb wp).pi.1[a-1]! (rd ltInt d a b limit wb wp).pi.1[(rd ltInt d a b limit wb wp).pivot]! = false:=by simp at hc;exact hc.2
      obtain⟨r1,r2,_⟩:=round_eq swo_ltInt (partitionEqual_holds (lt:=ltInt)) (d3:=(rd ltInt d a b limit wb wp).pi.1) (pivot:=(rd ltInt d a b limit wb wp).pivot) (d4:=(partitionEqual ltInt (rd ltInt d a b limit wb wp).pi.1 a b (rd ltInt d a b limit wb wp).pivot).2) (mid:=(partitionEqual ltInt (rd ltInt d a b limit wb wp).pi.1 a b (rd ltInt d a b limit wb wp).pivot).1) ha0 k6.1 k6.2 (by rw[k7];exact hb) k8 hnl rfl
      exact(pdq_eq h12 h0 hpi hc ⟨r1,r2⟩).symm
     ·rw[<-hD]
      obtain⟨r1,r2,_⟩:=partition_holds ltInt swo_ltInt (rd ltInt d a b limit wb wp).pi.1 a b (rd ltInt d a b limit wb wp).pivot k6.1 k6.2 (by rw[k7];exact hb)
      exact(pdq_left h12 h0 hpi hc ⟨r1,r2⟩ hlt).symm
     ·rw[<-hD]
      obtain⟨r1,r2,_⟩:=partition_holds ltInt swo_ltInt (rd ltInt d a b limit wb wp).pi.1 a b (rd ltInt d a b limit wb wp).pivot k6.1 k6.2 (by rw[k7];exact hb)
      exact(pdq_right h12 h0 hpi hc ⟨r1,r2⟩ hge).symm
    have t7:∀ w2,St w0 w2 ((g,Cs (yc (rd ltInt d a b limit wb wp).d2 z) T)::H)->
      q0w b a (some (Addr.mk g 0 none)) d.size c wp wb (rd ltInt d a b limit wb wp).lim (rd ltInt d a b limit wb wp).pivot ((b-a:Nat):Int) (qlj (rd ltInt d a b limit wb wp).hint) w2 K (fun e' w'=>∃ m',m'<m/\q3F w0 H g c T z d.size M D m' e' w'):=by
     intro w2 h2
     have no:(wb&&wp&&decide ((rd ltInt d a b limit wb wp).hint=.increasing))=false->YX false b a (some (Addr.mk g 0 none)) d.size c wp wb (rd ltInt d a b limit wb wp).lim (rd ltInt d a b limit wb wp).pivot ((b-a:Nat):Int) w2 K (fun e' w'=>∃ m',m'<m/\q3F w0 H g c T z d.size M D m' e' w'):=by
      intro hc
      have hp:=Go.Sort.rd_pi_no hc
      rw[q3K,qb]
      refine t9 w2 (by rw[hp]) ?_
      rw[hp]
      exact h2
     rw[qfh,qg]
     refine⟨fun hwb=>?_,fun hwb=>no (by rw[hwb];rfl)⟩
     rw[qg]
     refine⟨fun hwp=>?_,fun hwp=>no (by rw[hwp,Bool.and_false];rfl)⟩
     rw[qMV]
     cases hh:decide ((rd ltInt d a b limit wb wp).hint=.increasing)with
     | false=>exact no (by rw[hh,Bool.and_false])
     | true=>
      have hp:=Go.Sort.rd_pi_yes (lt:=ltInt) (d:=d) (a:=a) (b:=b) (limit:=limit) (wb:=wb) (wp:=wp) (by rw[hwb,hwp]at hh ⊢;rw[hh];rfl)
      rw[q3K,qe,<-k4]
      refine qfB h2 om om om fun w3 h3=>⟨_,rfl,?_⟩
      rw[qg]
      refine⟨fun hy=>?_,fun hy=>?_⟩
      ·rw[pdq_done h12 h0 (by rw[hp];exact hy)]at hD
       subst hD
       rw[hp]at hK
       exact hK w3 h3
      ·rw[k4]
       refine t9 w3 (by rw[hp];exact hy) ?_
       rw[hp]
       exact h3
    have t6:∀ w2,St w0 w2 ((g,Cs (yc (rd ltInt d a b limit wb wp).d1 z) T)::H)->
      q0O b a (some (Addr.mk g 0 none)) d.size c wp wb (rd ltInt d a b limit wb wp).lim ((b-a:Nat):Int) w2 K (fun e' w'=>∃ m',m'<m/\q3F w0 H g c T z d.size M D m' e' w'):=by
     intro w2 h2
     rw[qiy,<-k1]
     refine qxi (.head _) h2 om om om fun w3 h3=>⟨_,_,rfl,?_⟩
     have hc:(rd ltInt d a b limit wb wp).c=choosePivot ltInt (rd ltInt d a b limit wb wp).d1 a b:=Go.Sort.rd_c
     rw[<-hc,qMl,qg]
     refine⟨fun hdec=>?_,fun hdec=>?_⟩
     ·have hdec:(rd ltInt d a b limit wb wp).c.2=.decreasing:=by simpa using hdec
      obtain⟨x1,x2,x3⟩:=Go.Sort.rd_dec hdec
      refine qcS h3 om om om fun w4 h4=>⟨rfl,?_⟩
      have e1:IntKind.wrap .i64 (IntKind.wrap .i64 ((b:Int)-1)-IntKind.wrap .i64 (((rd ltInt d a b limit wb wp).c.1:Int)-(a:Int)))=((rd ltInt d a b limit wb wp).pivot:Int):=by
       rw[x2,qc (x:=(b:Int)-1) om om,qc (x:=((rd ltInt d a b limit wb wp).c.1:Int)-(a:Int)) om om,qc om om]
       omega
      rw[e1,k1]
      have:=t7 w4 (by rw[x1];exact h4)
      rw[x3]at this
      exact this
     ·have hdec:(rd ltInt d a b limit wb wp).c.2≠.decreasing:=by simpa using hdec
      obtain⟨x1,x2,x3⟩:=Go.Sort.rd_not hdec
      have:=t7 w3 (by rw[x1];exact h3)
      rw[x2,x3]at this
      rw[k1]
      exact this
    rw[qfo,qg]
    refine⟨fun hwb=>?_,fun hwb=>?_⟩
    ·have hwb:wb=false:=by simpa using hwb
     subst hwb
     obtain⟨x1,x2⟩:=Go.Sort.rd_false (lt:=ltInt) (d:=d) (a:=a) (b:=b) (limit:=limit) (wp:=wp)
     refine qwK h1 hab hb hn fun w2 h2=>⟨rfl,?_⟩
     have e1:IntKind.wrap .i64 ((limit:Int)-1)=((limit-1:Nat):Int):=by rw[qc om om];omega
     rw[e1]
     have:=t6 w2 (by rw[x1];exact h2)
     rw[x2]at this
     exact this
    ·have hwb:wb=true:=by simpa using hwb
     subst hwb
     obtain⟨x1,x2⟩:=Go.Sort.rd_true (lt:=ltInt) (d:=d) (a:=a) (b:=b) (limit:=limit) (wp:=wp)
     have:=t6 w1 (by rw[x1];exact h1)
     rw[x2]at this
     exact this
end
end Go.Fx.Tryz
namespace Go.Fx.Tryz
set_option maxRecDepth 100000
open Go Go.Fx Go.Proofs
def c61:=qm Tryz.f61
def qOM:=Tryz.f61.results.toList
abbrev qJB K:=qr P qOM K
def f61 a b c w K:=CS P c61 none [] [] (qJB K) (qz 11 [(VS a b c)]) w
theorem qK3:f61 b a c w K=(q9 P 107 [(Value.int .u64 (IntKind.wrap .u64 ((a:Nat):Int)))] w (fun e f=>∃ d:Int,e=(.int .i64 d)/\q9 P 106 [(Value.slice b a c),(Value.int .i64 0),(Value.int .i64 ((a:Nat):Int)),(Value.int .i64 d)] f (fun g h=>g=(.tuple #[])/\K (Value.tuple #[]) h))):=kr
theorem qGO a b c w K(h:f61 a b c w K):q9 P 61 [(Value.slice a b c)] w K:=qA c61 Tryz.func61 h
def c28:=qm Tryz.f28
def qOS:=Tryz.f28.results.toList
abbrev qe8 K:=qr P qOS K
def f28 a b w K:=CS P c28 none [4,5] [4,5] (qe8 K) (qz 25 [(VP a),(Value.int .u32 b)]) w
def qtt a b c w K:=SG c28 7 [4,5] [4,5] (qe8 K) 25 [(4,VQ a),(1,Value.int .u32 b),(0,VP c)] w
def qwa a b w K:=SG c28 31 [4,5] [4,5] (qe8 K) 25 [(4,VQ a),(6,VQ b)] w
theorem qpp:qwa a b w K=(qU 3 b w (fun e=>q9 P 62 [(Value.agg e)] w (fun f g=>∃ c:Array Value,f=(.agg c)/\zT 3 a c g (fun d=>qU 3 a d (fun h=>K (Value.tuple #[(Value.agg h),(Value.int .i64 0)]) d))))):=kr
theorem qpY:qtt a b c w K=(qh c (fun k=>∃ d:Option Nat,w.cell? (k.add 3)=some (.map d)/\∃ e:Array Value,∃ f:Bool,(∀ wq,vB w wq->(Instr.lookup 105 (Value.map d) (Value.int .u32 b) true).run P wq=.ok (.tuple #[(Value.agg e),(Value.bool f)]) wq)/\qv (qx P 41) 41 w (fun g l=>zT 3 (Addr.mk g 0 none) e l (fun h=>qp (!f) (∃ i:Array Value,(∀ wq,(Instr.build 41 #[]).run P wq=.ok (.agg i) wq)/\zT 3 a i h (fun j=>qU 3 a j (fun m=>K (Value.tuple #[(Value.agg m),(Value.int .i64 211)]) j))) (qwa a (Addr.mk g 0 none) h K))))):=kr
theorem qJ1:f28 a c w K=(qv (qx P 41) 41 w (fun b h=>q9 P 53 [(Value.pointer a)] h (fun i d=>∃ e:Bool,i=(.bool e)/\qp e (∃ f:Array Value,(∀ wq,(Instr.build 41 #[]).run P wq=.ok (.agg f) wq)/\zT 3 (Addr.mk b 0 none) f d (fun g=>qU 3 (Addr.mk b 0 none) g (fun j=>K (Value.tuple #[(Value.agg j),(Value.int .i64 5)]) g))) (qtt (Addr.mk b 0 none) c a d K)))):=kr
theorem qHG a b w K(h:f28 a b w K):q9 P 28 [(Value.pointer a),(Value.int .u32 b)] w K:=qA c28 Tryz.func28 h
def c31:=qm Tryz.f31
def qOB:=Tryz.f31.results.toList
abbrev qIq K:=qr P qOB K
def f31 a w K:=CS P c31 none [] [] (qIq K) (qz 17 [(VP a)]) w
theorem qIc:f31 a w K=(q9 P 53 [(Value.pointer a)] w (fun l c=>∃ e:Bool,l=(.bool e)/\qp (!e) (qh a (fun d=>∃ b:Int,c.drew.cell? (d.add 10)=some (.int .i64 b)/\q9 P 27 [(Value.pointer a)] c.drew (fun m f=>∃ (g:OA) (h i:Nat),m=(.slice g h i)/\f.cell? (d.add 10)=some (.int .i64 b)/\q9 P 60 [(Value.pointer a),(Value.slice g h i)] f (fun n j=>∃ (o:OA) (k p:Nat),n=(.slice o k p)/\j.cell? (d.add 10)=some (.int .i64 b)/\qh a (fun q=>zW (q.add 10) (Value.int .i64 (IntKind.wrap .i64 (b+((k:Nat):Int)))) j (fun r=>K (Value.tuple #[]) r)))))) (K (Value.tuple #[]) c))):=kr
theorem qGh a w K(h:f31 a w K):q9 P 31 [(Value.pointer a)] w K:=qA c31 Tryz.func31 h
def c35:=qm Tryz.f35
def qNg:=Tryz.f35.results.toList
abbrev q3s K:=qr P qNg K
def f35 a w K:=CS P c35 none [2] [2] (q3s K) (qz 74 [(VP a)]) w
def qyc a b w K:=SG c35 7 [2] [2] (q3s K) 74 [(0,VP a),(2,VQ b)] w
def q5A a b c w K:=SG c35 15 [2] [2] (q3s K) 74 [(0,VP a),(2,VQ b),(3,VQ c)] w
abbrev qKx K:=kq c35 15 [2] [2] (q3s K)
abbrev qsz K:=qo 0 (qKx K)
def qAx K Y2 e w:=zt (fun e w=>CS P (cA c35 244) none [0,2,3,43,41,42] [2,3] (qu [0,2,3,43,41,42] Y2 (qsz K)) e w) e w
abbrev q0q K Y2:=qu [0,2,3,43,41,42] Y2 (qsz K)
def qnx a b c d f g h i w K Y2:=SG c35 244 [0,2,3,43,41,42] [2,3] (q0q K Y2) 74 [(0,VP a),(2,VQ b),(3,VQ c),(43,VI d),(41,VS f g h),(42,VI i)] w
def qeH a b c d f g h i w K Y2:=SG c35 979 [0,2,3,43,41,42] [2,3] (q0q K Y2) 74 [(0,VP a),(2,VQ b),(3,VQ c),(41,VS d f g),(42,VI h),(43,VI i)] w
abbrev qF9 K Y2:=kq c35 979 [0,2,3,43,41,42] [2,3] (q0q K Y2)
abbrev qm2 K Y2:=qo 1 (qF9 K Y2)
abbrev qFq K Y2:=kq c35 15667 [0,2,3,41,42,43] [2,3,0,41,42,43] (qm2 K Y2)
abbrev qmU K Y2:=qo 2 (qFq K Y2)
def qDm K Y2 Y4 e w:=zt (fun e w=>CS P (cA c35 250676) none [49,0,6,47,2,3,41,42,43,48] [2,3,0,41,42,43,6] (qu [49,0,6,47,2,3,41,42,43,48] Y4 (qmU K Y2)) e w) e w
abbrev q5L K Y2 Y4:=qu [49,0,6,47,2,3,41,42,43,48] Y4 (qmU K Y2)
def qmj a b c d f g h i j k l m n o p q w K Y2 Y4:=SG c35 250676 [49,0,6,47,2,3,41,42,43,48] [2,3,0,41,42,43,6] (q5L K Y2 Y4) 74 [(49,VI a),(0,VP b),(6,VS c d f),(47,VS g h i),(2,VQ j),(3,VQ k),(41,VS l m n),(42,VI o),(43,VI p),(48,VI q)] w
def qsU a b c d f g h i j k l m n o p q w K Y2 Y4:=SG c35 1002707 [49,0,6,47,2,3,41,42,43,48] [2,3,0,41,42,43,6] (q5L K Y2 Y4) 74 [(0,VP a),(47,VS b c d),(2,VQ f),(3,VQ g),(41,VS h i j),(42,VI k),(43,VI l),(48,VI m),(49,VI n),(6,VS o p q)] w
def qve a b c d f g h i j k l m n o p q w K Y2 Y4:=SG c35 2005415 [49,0,6,47,2,3,41,42,43,48] [2,3,0,41,42,43,6] (q5L K Y2 Y4) 74 [(0,VP a),(6,VS b c d),(47,VS f g h),(2,VQ i),(3,VQ j),(41,VS k l m),(42,VI n),(43,VI o),(48,VI p),(49,VI q)] w
theorem qrt:qve a b c d e f g h i j k l m n o p w K Y2 Y4=(Y4 (qi.mk 74 [(49,(Value.int .i64 (IntKind.wrap .i64 (p+1)))),(0,(Value.pointer a)),(6,(Value.slice b c d)),(47,(Value.slice e f g)),(2,(Value.pointer (some h))),(3,(Value.pointer (some i))),(41,(Value.slice j k l)),(42,(Value.int .i64 m)),(43,(Value.int .i64 n)),(48,(Value.int .i64 o))] []) w):=kr
theorem qoL:qsU b c d g h i j k l m n o a p q r w K Y2 Y4=(qh c (fun b0=>0<=a/\a<(d:Nat)/\∃ e:Int,w.cell? (b0.add (Int.toNat a*1))=some (.int .u32 e)/\qh b (fun c0=>∃ s:Option Nat,w.cell? (c0.add 3)=some (.map s)/\∃ t:Array Value,(∀ wq,vB w wq->(Instr.lookup 105 (Value.map s) (Value.int .u32 e) false).run P wq=.ok (.agg t) wq)/\q9 P 62 [(Value.agg t)] w (fun d0 e0=>∃ u:Array Value,d0=(.agg u)/\∃ f:Array Value,(∀ wq,(Instr.build 77 #[(0,(Value.int .u32 e)),(1,(Value.agg u))]).run P wq=.ok (.agg f) wq)/\qJ 4 [(Value.agg f)]/\qv (([(Value.agg f)].map fun(v:Value)=>v.cells.toList).flatten.toArray) 77 e0 (fun f0 g0=>∃ (x:OA) (y z:Nat),∃ a0:World,(Builtin.append_ #[75,75] 75 #[(Value.slice p q r),(Value.slice (some (Addr.mk f0 0 none)) 1 1)]).run P g0=.ok (.slice x y z) a0/\qve b x y z c d g h i j k l m n o a a0 K Y2 Y4))))):=kr
def qxu a b c d f g h i j k l w K Y2:=SG c35 31335 [0,2,3,41,42,43] [2,3,0,41,42,43] (qm2 K Y2) 74 [(0,VP a),(2,VQ b),(3,VQ c),(41,VS d f g),(42,VI h),(43,VI i),(6,VS j k l)] w
def qs3 a b c d f g h i w K Y2:=SG c35 1959 [0,2,3,43,41,42] [2,3] (q0q K Y2) 74 [(0,VP a),(2,VQ b),(3,VQ c),(41,VS d f g),(42,VI h),(43,VI i)] w
theorem qpy:qs3 a b c d e f g h w K Y2=(Y2 (qi.mk 74 [(0,(Value.pointer a)),(2,(Value.pointer (some b))),(3,(Value.pointer (some c))),(43,(Value.int .i64 (IntKind.wrap .i64 (h+1)))),(41,(Value.slice d e f)),(42,(Value.int .i64 g))] []) w):=kr
theorem qqQ:qxu e f a g h i j k b c d w K Y2=(∃ (l:OA) (m n:Nat),w.cell? (a.add 3)=some (.slice l m n)/\qJ 1 [(Value.slice b c d)]/\qv (([(Value.slice b c d)].map fun(v:Value)=>v.cells.toList).flatten.toArray) 75 w (fun s t=>∃ (o:OA) (p q:Nat),∃ r:World,(Builtin.append_ #[71,71] 71 #[(Value.slice l m n),(Value.slice (some (Addr.mk s 0 none)) 1 1)]).run P t=.ok (.slice o p q) r/\zW (a.add 3) (Value.slice o p q) r (fun u=>qs3 e f a g h i j k u K Y2))):=kr
theorem qi3:qmj a b c d e n o p f g h i j k l m w K Y2 Y4=(qp (decide (a<m)) (qsU b n o p f g h i j k l m a c d e w K Y2 Y4) (qxu b f g h i j k l c d e w K Y2)):=kr
theorem qoN:qeH e f g b c h i a w K Y2=(qh b (fun l=>0<=a/\a<(c:Nat)/\∃ (j:OA) (d k:Nat),w.cell? (l.add (Int.toNat a*1))=some (.slice j d k)/\qK (qDm K Y2) (qi.mk 74 [(49,(Value.int .i64 0)),(0,(Value.pointer e)),(6,(Value.slice none 0 0)),(47,(Value.slice j d k)),(2,(Value.pointer (some f))),(3,(Value.pointer (some g))),(41,(Value.slice b c h)),(42,(Value.int .i64 i)),(43,(Value.int .i64 a)),(48,(Value.int .i64 ((d:Nat):Int)))] []) w)):=kr
def qsm a b w K:=SG c35 31 [2] [2] (q3s K) 74 [(2,VQ a),(3,VQ b)] w
theorem qpJ:qsm a b w K=(qU 9 b w (fun d=>zT 9 a d w (fun c=>qU 9 a c (fun e=>K (Value.agg e) c)))):=kr
theorem qdw:qnx e a b c f g h d w K Y2=(qp (decide (c<d)) (qeH e a b f g h d c w K Y2) (qsm a b w K)):=kr
theorem qqm:q5A a c d w K=(qh a (fun g=>∃ (e:OA) (b f:Nat),w.cell? (g.add 4)=some (.slice e b f)/\qK (qAx K) (qi.mk 74 [(0,(Value.pointer a)),(2,(Value.pointer (some c))),(3,(Value.pointer (some d))),(43,(Value.int .i64 0)),(41,(Value.slice e b f)),(42,(Value.int .i64 ((b:Nat):Int)))] []) w)):=kr
theorem qq1:qyc a i w K=(qh a (fun j=>qh a (fun k=>qh a (fun l=>qh a (fun c0=>qh a (fun m=>qh a (fun n=>qU 3 j w.drew (fun h=>∃ d:Int,w.drew.cell? (k.add 7)=some (.int .i64 d)/\∃ e:Int,w.drew.cell? (l.add 8)=some (.int .u32 e)/\∃ (o:OA) (p q:Nat),w.drew.cell? (c0.add 5)=some (.slice o p q)/\∃ f:Int,w.drew.cell? (m.add 9)=some (.int .i64 f)/\∃ g:Int,w.drew.cell? (n.add 10)=some (.int .i64 g)/\(q9 P 75 [(Value.slice o p q)] w.drew (fun d0 b=>∃ (r:OA) (s t:Nat),d0=(.slice r s t)/\b.cell? (n.add 10)=some (.int .i64 g)/\b.cell? (m.add 9)=some (.int .i64 f)/\b.cell? (l.add 8)=some (.int .u32 e)/\b.cell? (k.add 7)=some (.int .i64 d)/\Qz 3 j h b/\∃ u:Array Value,(∀ wq,(Instr.build 73 #[(0,(Value.agg h)),(2,(Value.int .i64 d)),(3,(Value.int .u32 e)),(4,(Value.slice r s t)),(5,(Value.int .i64 f)),(6,(Value.int .i64 g))]).run P wq=.ok (.agg u) wq)/\qv (qx P 73) 73 b (fun v e0=>zT 9 (Addr.mk v 0 none) u e0 (fun f0=>q5A a i (Addr.mk v 0 none) f0 K))))/\(qv (qx P 73) 73 w.drew (fun x g0=>q9 P 75 [(Value.slice o p q)] g0 (fun h0 c=>∃ (y:OA) (z a0:Nat),h0=(.slice y z a0)/\c.cell? (n.add 10)=some (.int .i64 g)/\c.cell? (m.add 9)=some (.int .i64 f)/\c.cell? (l.add 8)=some (.int .u32 e)/\c.cell? (k.add 7)=some (.int .i64 d)/\Qz 3 j h c/\∃ b0:Array Value,(∀ wq,(Instr.build 73 #[(0,(Value.agg h)),(2,(Value.int .i64 d)),(3,(Value.int .u32 e)),(4,(Value.slice y z a0)),(5,(Value.int .i64 f)),(6,(Value.int .i64 g))]).run P wq=.ok (.agg b0) wq)/\zT 9 (Addr.mk x 0 none) b0 c (fun i0=>q5A a i (Addr.mk x 0 none) i0 K)))))))))))):=kr
theorem qHK:f35 a w K=(qv (qx P 73) 73 w (fun b g=>q9 P 53 [(Value.pointer a)] g (fun h c=>∃ d:Bool,h=(.bool d)/\qp d (∃ e:Array Value,(∀ wq,(Instr.build 73 #[]).run P wq=.ok (.agg e) wq)/\zT 9 (Addr.mk b 0 none) e c (fun f=>qU 9 (Addr.mk b 0 none) f (fun i=>K (Value.agg i) f))) (qyc a (Addr.mk b 0 none) c K)))):=kr
theorem qGl a w K(h:f35 a w K):q9 P 35 [(Value.pointer a)] w K:=qA c35 Tryz.func35 h
def c41:=qm Tryz.f41
def qN3:=Tryz.f41.results.toList
abbrev q5g K:=qr P qN3 K
def f41 a b c w K:=CS P c41 none [6,7] [6,7] (q5g K) (qz 48 [(VP a),(Value.int .u32 b),(VI c)]) w
def qvA a b c d w K:=SG c41 15 [6,7] [6,7] (q5g K) 48 [(2,VI a),(1,Value.int .u32 b),(0,VP c),(8,VQ d)] w
abbrev qJk K:=kq c41 31 [6,7] [6,7] (q5g K)
def q55 a b c d f w K:=SG c41 125 [10,2,1,0] [6,7] (qJk K) 48 [(35,VB a),(10,Value.int .u32 b),(2,VI c),(1,Value.int .u32 d),(0,VP f)] w
def qv4 a b c d w K:=SG c41 63 [6,7] [6,7] (q5g K) 48 [(10,Value.int .u32 a),(2,VI b),(1,Value.int .u32 c),(0,VP d)] w
theorem qpl:qv4 a b c d w K=(∃ e:Array Value,(∀ wq,(Instr.build 142 #[(0,(Value.int .u32 c)),(1,(Value.int .i64 b))]).run P wq=.ok (.agg e) wq)/\q9 P 80 [(Value.pointer d),(Value.agg e),(Value.int .u32 a)] w (fun g h=>g=(.tuple #[])/\∃ f:Array Value,(∀ wq,(Instr.build 142 #[(0,(Value.int .u32 c)),(1,(Value.int .i64 b))]).run P wq=.ok (.agg f) wq)/\q9 P 81 [(Value.pointer d),(Value.agg f),(Value.int .u32 a)] h (fun i j=>i=(.tuple #[])/\K (Value.tuple #[(Value.bool true),(Value.int .i64 0)]) j))):=kr
theorem q4f:q55 a b c d e w K=(qp a (K (Value.tuple #[(Value.bool false),(Value.int .i64 0)]) w) (qv4 b c d e w K)):=kr
theorem qrh:qvA b c a d w K=(∃ g:Int,w.cell? (d.add 2)=some (.int .u32 g)/\q9 P 21 [(Value.pointer a),(Value.int .u32 g)] w (fun j e=>∃ f:Int,∃ h:Bool,j=(.tuple #[(Value.int .u32 f),(Value.bool h)])/\qp (!h) (q55 true f b c a e K) (qU 5 d e (fun k=>q9 P 79 [(Value.agg k)] e (fun l m=>∃ i:Bool,l=(.bool i)/\q55 (!i) f b c a m K))))):=kr
theorem qGu:f41 a b c w K=(q9 P 78 [(Value.pointer a),(Value.int .u32 b),(Value.int .i64 c)] w (fun h i=>∃ e:Array Value,∃ d:Int,h=(.tuple #[(Value.agg e),(Value.int .i64 d)])/\qv (qx P 62) 62 i (fun f j=>zT 5 (Addr.mk f 0 none) e j (fun g=>qp (d != 0) (K (Value.tuple #[(Value.bool false),(Value.int .i64 d)]) g) (qvA c b a (Addr.mk f 0 none) g K))))):=kr
theorem qGK a b c w K(h:f41 a b c w K):q9 P 41 [(Value.pointer a),(Value.int .u32 b),(Value.int .i64 c)] w K:=qA c41 Tryz.func41 h
def c42:=qm Tryz.f42
def qOo:=Tryz.f42.results.toList
abbrev qu8 K:=qr P qOo K
def f42 a b c w K:=CS P c42 none [6] [6] (qu8 K) (qz 31 [(VP a),(Value.int .u32 b),(VI c)]) w
def quw a b c d w K:=SG c42 15 [6] [6] (qu8 K) 31 [(7,VQ a),(2,VI b),(1,Value.int .u32 c),(0,VP d)] w
theorem qp9:quw d a b c w K=(∃ e:Array Value,(∀ wq,(Instr.build 142 #[(0,(Value.int .u32 b)),(1,(Value.int .i64 a))]).run P wq=.ok (.agg e) wq)/\q9 P 80 [(Value.pointer c),(Value.agg e),(Value.int .u32 0)] w (fun i f=>i=(.tuple #[])/\∃ g:Array Value,(∀ wq,(Instr.build 142 #[(0,(Value.int .u32 b)),(1,(Value.int .i64 a))]).run P wq=.ok (.agg g) wq)/\∃ h:Int,f.cell? (d.add 4)=some (.int .u32 h)/\q9 P 82 [(Value.pointer c),(Value.agg g),(Value.int .u32 h)] f (fun j k=>j=(.tuple #[])/\K (Value.int .i64 0) k))):=kr
theorem qHV:f42 a b c w K=(q9 P 78 [(Value.pointer a),(Value.int .u32 b),(Value.int .i64 c)] w (fun h i=>∃ e:Array Value,∃ d:Int,h=(.tuple #[(Value.agg e),(Value.int .i64 d)])/\qv (qx P 62) 62 i (fun f j=>zT 5 (Addr.mk f 0 none) e j (fun g=>qp (d != 0) (K (Value.int .i64 d) g) (quw (Addr.mk f 0 none) c b a g K))))):=kr
theorem qGs a b c w K(h:f42 a b c w K):q9 P 42 [(Value.pointer a),(Value.int .u32 b),(Value.int .i64 c)] w K:=qA c42 Tryz.func42 h
def c70:=qm Tryz.f70
def qNV:=Tryz.f70.results.toList
abbrev qIf K:=qr P qNV K
def f70 a w K:=CS P c70 none [2] [2] (qIf K) (qz 9 [a]) w
theorem qHZ:f70 d w K=(q9 P 114 [d] w (fun e f=>∃ (a:OA) (b c:Nat),e=(.slice a b c)/\q9 P 61 [(Value.slice a b c)] f (fun g h=>g=(.tuple #[])/\K (Value.slice a b c) h))):=kr
theorem qGV a w K(h:f70 a w K):q9 P 70 [a] w K:=qA c70 Tryz.func70 h
def c71:=qm Tryz.f71
def qPd:=Tryz.f71.results.toList
abbrev qIp K:=qr P qPd K
def f71 a w K:=CS P c71 none [2] [2] (qIp K) (qz 4 [(Value.map a)]) w
theorem qHB:f71 a w K=(qv #[(Value.map a)] 105 w (fun b c=>K (Value.func (.func 115) #[] #[(Value.pointer (some (Addr.mk b 0 none)))]) c)):=kr
theorem qJh a w K(h:f71 a w K):q9 P 71 [(Value.map a)] w K:=qA c71 Tryz.func71 h
def qMJ:=qm Tryz.f114
def qMT:=Tryz.f114.results.toList
abbrev qzE K:=qr P qMT K
def f114 a w K:=CS P qMJ none [2] [2] (qzE K) (qz 5 [a]) w
theorem qAT:f114 a w K=(q9 P 155 [(Value.slice none 0 0),a] w (fun e f=>∃ (b:OA) (c d:Nat),e=(.slice b c d)/\K (Value.slice b c d) f)):=kr
theorem qBX a w K(h:f114 a w K):q9 P 114 [a] w K:=qA qMJ Tryz.func114 h
def qvH:=qm Tryz.f115
def qMs:=Tryz.f115.results.toList
abbrev qmo K:=qr P qMs K
def f115 a b w K:=CS P qvH none [] [] (qmo K) (qz 14 [a,(VP (some b))]) w
abbrev qkp K:=qo 0 (qmo K)
def qw2 K Y0 e w:=zt (fun e w=>CS P (cA qvH 12) none [0,5] [] (qu [0,5] Y0 (qkp K)) e w) e w
abbrev q8e K Y0:=qu [0,5] Y0 (qkp K)
def q2W a b w K Y0:=SG qvH 12 [0,5] [] (q8e K Y0) 14 [(0,a),(5,VQ b)] w
def qjE a b w K Y0:=SG qvH 51 [0,5] [] (q8e K Y0) 14 [(0,a),(5,VQ b)] w
theorem qhJ:qjE a b w K Y0=(∃ (k14 g:Value) (c:World),(Instr.entry (Value.pointer (some b))).run P w=.ok (.tuple #[k14,g]) c/\∃ d:Int,k14=(.int .u32 d)/\yO P a [(Value.int .u32 d)] c (fun h e=>∃ f:Bool,h=(.bool f)/\qp (!f) (K (Value.tuple #[]) e) (Y0 (qi.mk 14 [(0,a),(5,(Value.pointer (some b)))] []) e))):=kr
theorem q0g:q2W b a w K Y0=((∃ c:World,(Instr.next (Value.pointer (some a)) false 0).run P w=.ok (.tuple #[.bool false]) c/\K (Value.tuple #[]) c)\/∃ (k9 e:Value) (d:World),(Instr.next (Value.pointer (some a)) false 0).run P w=.ok (.tuple #[.bool true,k9,e]) d/\qjE b a d K Y0):=kr
theorem qAQ:f115 a b w K=(∃ c:Option Nat,w.cell? b=some (.map c)/\∃ (d:Nat) (e:World),(Instr.range 105 (Value.map c)).run P w=.ok (.pointer (some (Addr.mk d 0 none))) e/\qK (qw2 K) (qi.mk 14 [(0,a),(5,(Value.pointer (some (Addr.mk d 0 none))))] []) e):=kr
theorem qC1 a b w K(h:f115 a b w K):q9 P 115 [a,(Value.pointer (some b))] w K:=qA qvH Tryz.func115 h
def q5S:=qm Tryz.f155
def qum:=Tryz.f155.results.toList
abbrev q73 K:=qr P qum K
def f155 a b c d w K:=CS P q5S none [4] [4] (q73 K) (qz 13 [(VS a b c),d]) w
abbrev qE0 K:=kq q5S 3 [4] [4] (q73 K)
abbrev qlQ K:=qo 0 (qE0 K)
def qcB(a:Addr)(b:OA)(c e l:Nat)(R:LoopState->Option Code->Loop)(post:Option Code->World->Prop)(args:List Value)(W:World):Prop:=args.length=1/\CS P (cA q5S 52) (some l) [2,5] [] (jw P (cA q5S 53) l R post) { zl (qi.mk 13 [(2,(VP (some a))),(4,(VS b c e))] []) [7] args with d:=[] } W
abbrev qtN(l:Nat)(R:LoopState->Option Code->Loop)(post:Option Code->World->Prop):Exit->YT:=jw P (cA q5S 53) l R post
def qaR(a:Addr)(b:OA)(c d:Nat)(e:Int)(w:World)(l:Nat)(R:LoopState->Option Code->Loop)(post:Option Code->World->Prop):Prop:=CS P (cA q5S 52) (some l) [2,5] [] (qtN l R post) (qi.mk 13 [(7,(Value.int .u32 e)),(2,(VP (some a))),(4,(VS b c d))] []) w
def qo0 a b w l R post:=Ys P (cA q5S 53) (some l) [] [] (q1k l R post) (qi.mk 13 [(2,(VP (some a))),(5,(Value.int .u32 b))] []) w
theorem qhk:qo0 a b w l R post=(∃ (c:OA) (d e:Nat),w.cell? a=some (.slice c d e)/\qJ 1 [(Value.int .u32 b)]/\qv (([(Value.int .u32 b)].map fun(v:Value)=>v.cells.toList).flatten.toArray) 24 w (fun k m=>∃ (f:OA) (g h:Nat),∃ i:World,(Builtin.append_ #[22,22] 22 #[(Value.slice c d e),(Value.slice (some (Addr.mk k 0 none)) 1 1)]).run P m=.ok (.slice f g h) i/\zW a (Value.slice f g h) i (fun j=>j.heap[l]?=some (.loop (R .busy none))/\post none (j.putObj l (.loop (R .ready none)))))):=kr
theorem qcz:qaR a c d e b w l R post=(w.heap[l]?=some (.loop (R .ready none))/\qo0 a b (w.putObj l (.loop (R .busy none))) l R post):=kr
theorem q8P:qcB b c d e l R post [(Value.int .u32 a)] w=([(Value.int .u32 a)].length=1/\qaR b c d e a w l R post):=kr
def qcq(a:Addr)(b:OA)(c e:Nat)(d:List Deferred)(w:World)(K:KT):Prop:=(qlQ K) .normal (qi.mk 13 [(2,(VP (some a))),(4,(VS b c e))] d) w
def qoy a d w K:=Ys P (cA q5S 7) none [4] [4] (q73 K) (qi.mk 13 [(2,(VP (some a)))] d) w
theorem qfV:qoy a d w K=(∃ (b:OA) (c e:Nat),w.cell? a=some (.slice b c e)/\zr P qum (qi.mk 13 [(4,(Value.slice b c e)),(12,(Value.slice b c e)),(2,(Value.pointer (some a)))] d) K d w):=kr
theorem q92:qcq a b c e d w K=(qoy a d w K):=kr
theorem qDU:f155 a b c d w K=(qv #[(Value.slice a b c)] 22 w (fun e f=>Q6 P (qlQ K) (qi.mk 13 [(2,(Value.pointer (some (Addr.mk e 0 none)))),(4,(Value.slice none 0 0))] []) f d (qcB (Addr.mk e 0 none) none 0 0))):=kr
theorem qyY a b c d w K(h:f155 a b c d w K):q9 P 155 [(Value.slice a b c),d] w K:=qA q5S Tryz.func155 h
end Go.Fx.Tryz
namespace Go.Fx.Tryz
open Go Go.Fx
set_option linter.all false
open Go.Proofs
open Go.Sort (ltInt pdq bitsLen)
variable {w0 w:World} {H:qE} {K:KT}
set_option maxRecDepth 20000
theorem qdA{v0:Value}{b1 mb clk:Nat}{t1:TypeId}{es:Array MapEntry}{X0:qE}(Fr:List Int->List (Nat × Obj)->Prop)(h:St w0 w X0)(hF0:Fr [] X0)
  (hFm:∀ vis X,Fr vis X->(b1,Cs [.map (some mb)] t1)∈X/\(mb,.map es clk)∈X) (hst:MapKept.Stamped es clk) (hks:∀ e∈es.toList,∃ k:Int,e.key=.int .u32 k)
  (hy:∀ vis k W X it o,vis.length<es.size->Fr vis X->w0.heap.size<=it->St w0 W ((it,o)::X)->yO P v0 [.int .u32 k] W fun r W'=>r=.bool true/\∃ X',Fr (vis++[k]) X'/\St w0 W' ((it,o)::X'))
  (hK:∀ W vis X it o,(es.toList.map (·.key)).Perm (vis.map jS)->Fr vis X->w0.heap.size<=it->St w0 W ((it,o)::X)->K (.tuple [].toArray) W) :
  q9 P 115 [v0,.pointer (some (Addr.mk b1 0 none))] w K:=by
 refine qC1 _ _ _ _ ?_
 rw[qAQ]
 refine⟨some mb,by rw[qw (h.has _ _ (hFm _ _ hF0).1)];rfl,w.heap.size,_,Ye (by kernel_rfl:P.underlying 105=some (.map 24 41)) (h.has _ _ (hFm _ _ hF0).2),?_⟩
 have hit:=h.le
 have h1:=h.alloc (.mapIter (some mb) clk #[] clk)
 generalize hi:w.heap.size=it at hit h1
 refine YB (es:=es) (fun vis seen w'=>∃ ks X,vis.map (·.key)=ks.map jS/\Fr ks X/\St w0 w' ((it,.mapIter (some mb) clk seen clk)::X)) ⟨[],X0,rfl,hF0,h1⟩ ?_ ?_
 ·rintro vis seen w1 hv ⟨ks,X,hk,hF,hw⟩ Y
  show q2W ..
  rw[q0g]
  refine .inl ⟨w1,jc (hw.get (k:=0) rfl) (hw.has _ _ (.tail _ (hFm _ _ hF).2)) hst hv.over,hK w1 ks X it _ ?_ hF hit hw⟩
  rw[<-hk]
  have:=hv.perm.map (·.key)
  rwa [List.append_nil]at this
 ·rintro vis rem seen w1 hr hv ⟨ks,X,hk,hF,hw⟩ Y hY
  show q2W ..
  rw[q0g]
  have hm:=hw.has _ _ (.tail _ (hFm _ _ hF).2)
  obtain⟨e,w2,he,hn,hw2,hk2,hrun⟩:=jg (P:=P) (hw.get (k:=0) rfl) hm hst (hv.more hst hr)
  obtain⟨k,hek⟩:=hks e he
  have h3:St w0 (w2.putObj it (.mapIter (some mb) clk (seen.push e.born) clk)) ((it,.mapIter (some mb) clk (seen.push e.born) clk)::X):=(hw.same hw2 hk2).put (k:=0) rfl _
  refine .inr ⟨_,_,_,hrun,?_⟩
  rw[qhJ]
  refine⟨e.key,e.val,_,ZY (h3.get (k:=0) rfl) (h3.has _ _ (.tail _ (hFm _ _ hF).2)) (by simp) (ZU hst he),k,hek,?_⟩
  have hlt:ks.length<es.size:=by
   have h5:=hv.perm.length_eq
   have h6:=congrArg List.length hk
   have h7:0<rem.length:=List.length_pos_iff.2 hr
   simp at h5 h6
   omega
  refine vY ?_ (hy ks k _ X it _ hlt hF hit h3)
  rintro r W' ⟨rfl,X',hF',h4⟩
  refine⟨true,rfl,?_⟩
  rw[Bool.not_true,qb]
  exact hY e W' he hn ⟨ks++[k],X',by rw[List.map_append,List.map_append,hk];simp[hek],hF',h4⟩
theorem qMF:yu P 115=true:=kr
theorem qcR{KK:Exit->YT}{e:qi}{round:Nat->(LoopState->Option Code->Loop)->(Option Code->World->Prop)->List Value->World->Prop}
  (h:St w0 w H) {b1 mb clk:Nat} {t1:TypeId} {es:Array MapEntry} (hst:MapKept.Stamped es clk) (hks:∀ e∈es.toList,∃ k:Int,e.key=.int .u32 k)
  (I:List Int->List (Nat × Obj)->Prop) (I0:I [] H) (hI:∀ vis H',I vis H'->(b1,Cs [.map (some mb)] t1)∈H'/\(mb,.map es clk)∈H')
  (hround:∀ l l' R post vis k W H' it o,vis.length<es.size->I vis H'->St w0 W ((l,.loop (R .ready none))::(l',.deferred (some []))::(it,o)::H')->w0.heap.size<=l->w0.heap.size<=l'->w0.heap.size<=it->
   (∀ W' H'',I (vis++[k]) H''->St w0 W' ((l,.loop (R .ready none))::(l',.deferred (some []))::(it,o)::H'')->post none W')->round l R post [.int .u32 k] W)
  (hend:∀ W H' l' vis,w0.heap.size<=l'->(es.toList.map (·.key)).Perm (vis.map jS)->I vis H'->St w0 W ((l',.deferred (some []))::H')->KK .normal { e with d:=mk l'::e.d } W) :
  Q6 P KK e w (.func (.func 115) #[] #[.pointer (some (Addr.mk b1 0 none))]) round:=by
 refine⟨qMF,fun R hy=>?_⟩
 have h1:=(h.alloc (.deferred (some []))).alloc (.loop (R .ready none))
 have hsz:(w.alloc (.deferred (some []))).heap.size=w.heap.size+1:=by simp
 rw[hsz]at h1
 have hle:w0.heap.size<=w.heap.size:=h.le
 refine qdA (mb:=mb) (t1:=t1) (fun vis X=>∃ H',I vis H'/\X=(w.heap.size+1,.loop (R .ready none))::(w.heap.size,.deferred (some []))::H') h1 ⟨H,I0,rfl⟩ ?_ hst hks ?_ ?_
 ·rintro vis X ⟨H',hi,rfl⟩
  exact⟨.tail _ (.tail _ (hI vis H' hi).1),.tail _ (.tail _ (hI vis H' hi).2)⟩
 ·rintro vis k W X it o hlt ⟨H',hi,rfl⟩ hit hs
  have hs':St w0 W ((w.heap.size+1,.loop (R .ready none))::(w.heap.size,.deferred (some []))::(it,o)::H'):=hs.perm ((List.Perm.swap _ _ _).trans ((List.Perm.swap _ _ _).cons _))
  refine vY ?_ (hy [.int .u32 k] W (fun j W'=>match j with
   | none=>∃ H'',I (vis++[k]) H''/\St w0 W' ((w.heap.size+1,.loop (R .ready none))::(w.heap.size,.deferred (some []))::(it,o)::H'')
   | some _=>False)
   (hround _ _ R _ vis k W H' it o hlt hi hs' om om hit (fun W' H'' h1 h2=>⟨H'',h1,h2⟩)) (hs'.get (k:=0) rfl))
  rintro v W' ⟨j,rfl,hj⟩
  cases j with
  | none=>
   obtain⟨H'',h2,h3⟩:=hj
   exact⟨rfl,_,⟨H'',h2,rfl⟩,h3.perm (((List.Perm.swap _ _ _).cons _).trans (List.Perm.swap _ _ _))⟩
  | some c=>exact hj.elim
 ·rintro W vis X it o hp ⟨H',hi,rfl⟩ hit hs
  have hs:=hs.tail hit
  refine⟨.ready,none,hs.get (k:=0) rfl,by simp,?_⟩
  exact hend _ H' _ vis hle hp hi ((hs.put (k:=0) rfl _).tail om)
theorem qoV(sa:Option Addr)(sl sc:Nat)(v2:Value)(r:List (Nat × Value))(d0:List Deferred)(w:World)(K:KT) :
  zr P qum (qi.mk 13 ((4,(Value.slice sa sl sc))::(12,v2)::r) d0) K [] w=K (Value.slice sa sl sc) w:=kr
theorem qdW{b1 mb clk:Nat}{t1:TypeId}{es:Array MapEntry}(h:St w0 w H)(hb:(b1,Cs [.map (some mb)] t1)∈H)(hm:(mb,.map es clk)∈H)(hst:MapKept.Stamped es clk)(hks:∀ e∈es.toList,∃ k:Int,e.key=.int .u32 k)(hn:es.size<1000000)
  (hK:∀ w' a c (ks:List Int) Lo,(es.toList.map (·.key)).Perm (ks.map jS)->zx 1 24 (.slice a ks.length c) ks.length (ks.map jS) Lo->qF w0 Lo->St w0 w' (Lo++H)->K (.slice a ks.length c) w') :
  q9 P 114 [.func (.func 115) #[] #[.pointer (some (Addr.mk b1 0 none))]] w K:=by
 refine qBX _ _ _ ?_
 rw[qAT]
 refine qyY _ _ _ _ _ _ ?_
 rw[qDU]
 refine h.newC fun n2 w1 hn2 h1=>?_
 have h1:St w0 w1 ((n2,Cs [.slice none 0 0] 22)::H):=h1
 refine qcR (mb:=mb) (t1:=t1) h1 hst hks (fun vis H'=>vis.length<=es.size/\∃ oa oc Lo,H'=(n2,Cs [.slice oa vis.length oc] 22)::(Lo++H)/\zx 1 24 (.slice oa vis.length oc) vis.length (vis.map jS) Lo/\qF w0 Lo)
  ⟨Nat.zero_le _,none,0,[],rfl,zx.nil 1 24,qF.nil w0⟩ ?_ ?_ ?_
 ·rintro vis H' ⟨_,oa,oc,Lo,rfl,_,_⟩
  exact⟨.tail _ (List.mem_append_right _ hb),.tail _ (List.mem_append_right _ hm)⟩
 ·rintro l l' R post vis k W H' it o hlt ⟨hvl,oa,oc,Lo,rfl,hS,hN⟩ hs hl hl' hit hpost
  rw[q8P]
  refine⟨rfl,?_⟩
  rw[qcz]
  refine⟨hs.get (k:=0) rfl,?_⟩
  have h2:=hs.put (k:=0) rfl (.loop (R .busy none))
  rw[qhk]
  refine⟨oa,vis.length,oc,h2.cell (k:=3) rfl,⟨rfl,trivial⟩,h2.newC fun n13 w3 hn13 h3=>?_⟩
  have h3:St w0 w3 ([(n13,Cs [jS k] 24),(l,.loop (R .busy none)),(l',.deferred (some [])),(it,o),(n2,Cs [.slice oa vis.length oc] 22)]++(Lo++H)):=h3
  obtain⟨ga,cap,w4,L',hr,hS',h4,hN'⟩:=St.append (P:=P) 22 22 24 Tryz.t24 (.int .u32 0) 1 4 Tryz.underlying22 kr rfl rfl rfl rfl om (xs:=vis.map jS)
   (A:=[(n13,Cs [jS k] 24),(l,.loop (R .busy none)),(l',.deferred (some [])),(it,o),(n2,Cs [.slice oa vis.length oc] 22)]) (news:=[jS k]) h3 hS hN (j:=0) rfl rfl (fun u hu=>by rw[List.mem_singleton.1 hu];rfl) (by simp[maxLen];omega) om
  refine⟨_,_,_,w4,hr,?_⟩
  have h4:St w0 w4 ((n13,Cs [jS k] 24)::(l,.loop (R .busy none))::(l',.deferred (some []))::(it,o)::(n2,Cs [.slice oa vis.length oc] 22)::(L'++H)):=h4
  refine h4.st1 (k:=4) rfl (by simp) rfl fun w5 h5=>⟨h5.get (k:=1) rfl,?_⟩
  have h6:=(h5.put (k:=1) rfl (.loop (R .ready none))).tail hn13
  have e1:(vis++[k]).length=vis.length+1:=by simp
  have e2:(vis++[k]).map jS=vis.map jS++[jS k]:=by simp
  refine hpost _ ((n2,Cs [.slice (some ⟨ga,0,none⟩) (vis.length+1) cap] 22)::(L'++H)) ⟨by omega,_,cap,L',by rw[e1],by rw[e1,e2];exact hS',hN'⟩ h6
 ·rintro W H' l' vis hl' hp ⟨_,oa,oc,Lo,rfl,hS,hN⟩ hs
  show qcq ..
  rw[q92,qfV]
  refine⟨oa,vis.length,oc,hs.cell (k:=1) rfl,?_⟩
  refine⟨hs.get (k:=0) rfl,?_⟩
  have h5:=hs.put (k:=0) rfl (.deferred none)
  rw[qoV]
  refine⟨oa,_,oc,rfl,hK _ oa oc vis Lo hp hS hN ?_⟩
  exact(h5.tail hl').tail hn2
theorem qCn(h:St w0 w H){n:Nat}(hn:n<4611686018427387904)(hK:∀ w',St w0 w' H->K (I64 (bitsLen n:Nat)) w'):q9 P 107 [.int .u64 (n:Nat)] w K:=by
 refine ZD (Any.bits_Len (Go.Proofs.SlLaysF0.n15.bits (P:=P) (ρ:=Tryz.sort_ren) { Tryz.sortPow with }) (n:Int) w om om) ?_
 rintro e w' ⟨rfl,rfl⟩
 refine⟨_,rfl,?_⟩
 have:=hK w' h
 rw[Int.toNat_natCast,Go.Proofs.bitLen_eq _ om]
 exact this
theorem qbJ{a:Option Addr}{c:Nat}{ks:List Int}{Lo:qE}(h:St w0 w (Lo++H))(hS:zx 1 24 (.slice a ks.length c) ks.length (ks.map jS) Lo)(hn:ks.length<1000000)
  (hK:∀ w' Lo',zx 1 24 (.slice a ks.length c) ks.length ((ks.mergeSort fun x y=>decide (x<=y)).map jS) Lo'->(qF w0 Lo->qF w0 Lo')->St w0 w' (Lo'++H)->K (.tuple [].toArray) w') :
  q9 P 61 [.slice a ks.length c] w K:=by
 refine qGO _ _ _ _ _ ?_
 rw[qK3]
 have e6:IntKind.wrap .u64 (ks.length:Int)=(ks.length:Int):=by
  simp only[IntKind.wrap,IntKind.bits,IntKind.signed]
  simp
  omega
 rw[e6]
 refine qCn h om fun w1 h1=>⟨_,rfl,?_⟩
 have hbl:bitsLen ks.length<=62:=(Go.Sort.bitsLen_le_iff _ 62).2 om
 rcases hS.2 with⟨e1,e2,e3⟩ | ⟨g,cap,cur,e1,rfl,h3,h4,h5,h6⟩
 ·-- no number
  have hz:ks=[]:=List.eq_nil_of_length_eq_zero e2
  subst hz
  obtain⟨rfl,rfl⟩:a=none/\c=0:=by simpa using e1
  subst e3
  refine qmR _ _ _ _ _ _ _ _ ?_
  rw[qjO,q36,q3M,q1y]
  refine⟨fun m ee w=>m=0/\ee=qi.mk 134 [(2,(Value.int .i64 0)),(1,(Value.int .i64 0)),(0,(Value.slice none 0 0)),(9,(Value.bool true)),(8,(Value.bool true)),(3,(Value.int .i64 (bitsLen 0:Nat)))] []/\St w0 w H,⟨0,rfl,rfl,h1⟩,?_⟩
  rintro m ee w2 ⟨rfl,rfl,h2⟩
  show q1W ..
  rw[JZ,show IntKind.wrap .i64 ((0:Int)-0)=0 by decide,show decide ((0:Int)<=12)=true by decide,qe]
  refine qlE _ _ _ _ _ _ _ ?_
  rw[qo7,q2m,q3y]
  refine⟨fun m ee w=>m=0/\ee=qi.mk 49 [(0,(Value.slice none 0 0)),(6,(Value.int .i64 1)),(1,(Value.int .i64 0)),(2,(Value.int .i64 0))] []/\St w0 w H,⟨0,rfl,rfl,h2⟩,?_⟩
  rintro m ee w3 ⟨rfl,rfl,h3⟩
  show q2e ..
  rw[JL,show decide ((1:Int)<0)=false by decide,qb]
  exact⟨rfl,rfl,hK w3 [] (by simpa using hS) (fun hN=>hN) h3⟩
 ·obtain⟨rfl,rfl⟩:a=some ⟨g,0,none⟩/\c=cap:=by simpa using e1
  have hcur:cur=yc ks.toArray (cur.drop ks.length):=by
   have:cur.take (ks.length*1)=ks.map jS:=h6
   rw[Nat.mul_one]at this
   show cur=ks.toArray.toList.map jS++cur.drop ks.length
   rw[List.toList_toArray,<-this,List.take_append_drop]
  have h1:St w0 w1 ((g,Cs cur 24)::H):=h1
  generalize hz:cur.drop ks.length=z at hcur
  have hzl:z.length=c-ks.length:=by rw[<-hz,List.length_drop,h5];omega
  subst hcur
  have hsz:ks.toArray.size=ks.length:=by simp
  rw[<-hsz]
  rw[<-hsz]at hbl
  refine qvK (a:=0) (b:=ks.toArray.size) (limit:=bitsLen ks.toArray.size) (ks.toArray.size+1) om h1 om om om om (.inl rfl) fun w2 h2=>⟨rfl,?_⟩
  have hs:(pdq ltInt ks.toArray 0 ks.toArray.size (bitsLen ks.toArray.size) true true).toList=ks.mergeSort (fun x y=>decide (x<=y)):=Go.Sort.sortInt ks
  refine hK w2 [(g,Cs (yc (pdq ltInt ks.toArray 0 ks.toArray.size (bitsLen ks.toArray.size) true true) z) 24)] ?_ (fun hN=>by simpa [qF]using hN) h2
  rw[hsz]at hs ⊢
  refine⟨by simp,.inr ⟨g,c,_,rfl,rfl,h3,h4,?_,?_⟩⟩
  ·show(List.map jS _++z).length=_
   rw[hs,List.length_append,List.length_map,List.length_mergeSort,hzl]
   omega
  ·show(List.map jS _++z).take _=_
   rw[hs,List.take_left' (by simp)]
end Go.Fx.Tryz
namespace Go.Fx.Tryz
set_option maxRecDepth 100000
open Go Go.Fx Go.Proofs
def Qb:=qm Tryz.f18
def qOn:=Tryz.f18.results.toList
abbrev zF K:=qr P qOn K
def f18 a b w K:=CS P Qb none [4,5,6] [4,5,6] (zF K) (qz 173 [(VP a),(Value.agg b)]) w
def qwr a b w K:=SC Qb 1 [4,5,6] [4,5,6] (zF K) 173 [(0,VP a),(1,Value.agg b)] w
abbrev qHU K:=kq Qb 1 [4,5,6] [4,5,6] (zF K)
def qxe a b c d e f g h w K:=SC Qb 3 [4,5,6] [4,5,6] (zF K) 173 [(6,VI a),(5,VS b c d),(4,Value.int .u32 e),(3,VQ f),(0,VP g),(1,Value.agg h)] w
abbrev qwx K:=kq Qb 3 [4,5,6] [4,5,6] (zF K)
abbrev qJP K:=kq Qb 6 [5,0,4,6,3] [4,5,6] (qwx K)
def qu0 a b c d f g h w K:=SG Qb 7 [4,5,6] [4,5,6] (zF K) 173 [(5,VS a b c),(0,VP d),(4,Value.int .u32 f),(6,VI g),(3,VQ h)] w
abbrev qG6 K:=kq Qb 7 [4,5,6] [4,5,6] (zF K)
def qvY a b c d e f g h i j k l m n o p q r s t u v x y z a0 b0 w K:=SC Qb 15 [4,5,6] [4,5,6] (zF K) 173 [(8,VI a),(7,VS b c d),(19,VI e),(18,VS f g h),(14,(Value.tuple #[(VS i j k),(VI l)])),(17,(Value.tuple #[(VS m n o),(VI p)])),(16,VS q r s),(15,VQ t),(5,VS u v x),(0,VP y),(4,Value.int .u32 z),(6,VI a0),(3,VQ b0)] w
abbrev qtf K:=kq Qb 15 [4,5,6] [4,5,6] (zF K)
abbrev qKi K:=kq Qb 30 [5,0,4,6,3,7] [4,5,6] (qtf K)
def qtP a b c d f g h i j k w K:=SG Qb 31 [4,5,6] [4,5,6] (zF K) 173 [(5,VS a b c),(0,VP d),(4,Value.int .u32 f),(6,VI g),(3,VQ h),(7,VS i j k)] w
abbrev qek K:=kq Qb 31 [4,5,6] [4,5,6] (zF K)
abbrev qJv K:=kq Qb 62 [5,0,4,6,3] [4,5,6] (qek K)
def q6g a b c d f g h i w K:=SG Qb 125 [5,0,4,6,3] [4,5,6] (qek K) 173 [(29,VB a),(5,VS b c d),(0,VP f),(4,Value.int .u32 g),(6,VI h),(3,VQ i)] w
def qt2 a b c d f g h w K:=SG Qb 63 [4,5,6] [4,5,6] (zF K) 173 [(5,VS a b c),(0,VP d),(4,Value.int .u32 f),(6,VI g),(3,VQ h)] w
abbrev qnM K:=kq Qb 63 [4,5,6] [4,5,6] (zF K)
abbrev qDC K:=kq Qb 126 [5,0,4,6,3] [4,5,6] (qnM K)
def qsA a b c d f g h w K:=SG Qb 127 [4,5,6] [4,5,6] (zF K) 173 [(5,VS a b c),(0,VP d),(4,Value.int .u32 f),(6,VI g),(3,VQ h)] w
abbrev q7f K:=kq Qb 127 [4,5,6] [4,5,6] (zF K)
abbrev qEP K:=kq Qb 254 [5,0,4,6,3] [4,5,6] (q7f K)
def q5a a b c d f g h i w K:=SG Qb 509 [5,0,4,6,3] [4,5,6] (q7f K) 173 [(53,VB a),(5,VS b c d),(0,VP f),(4,Value.int .u32 g),(6,VI h),(3,VQ i)] w
def qcV a b c d f g h w K:=SG Qb 255 [4,5,6] [4,5,6] (zF K) 173 [(5,VS a b c),(0,VP d),(4,Value.int .u32 f),(6,VI g),(3,VQ h)] w
abbrev qkf K:=kq Qb 255 [4,5,6] [4,5,6] (zF K)
abbrev q6B K:=qo 0 (qkf K)
def qvJ K Y10 e w:=zt (fun e w=>CS P (cA Qb 2040) none [5,0,4,6,3] [4,5,6,0,3] (qu [5,0,4,6,3] Y10 (q6B K)) e w) e w
abbrev Jc K Y10:=qu [5,0,4,6,3] Y10 (q6B K)
def q8G a b c d f g h w K Y10:=SG Qb 2040 [5,0,4,6,3] [4,5,6,0,3] (Jc K Y10) 173 [(5,VS a b c),(0,VP d),(4,Value.int .u32 f),(6,VI g),(3,VQ h)] w
abbrev q5K K Y10:=kq Qb 2040 [5,0,4,6,3] [4,5,6,0,3] (Jc K Y10)
abbrev qAr K Y10:=kq Qb 4080 [0,4,6,3,5] [4,5,6,0,3] (q5K K Y10)
def q19 a b c d f g h i w K Y10:=SG Qb 8161 [0,4,6,3,5] [4,5,6,0,3] (q5K K Y10) 173 [(79,VB a),(0,VP b),(4,Value.int .u32 c),(6,VI d),(3,VQ f),(5,VS g h i)] w
def qjN a b c d f g h w K Y10:=SG Qb 4081 [5,0,4,6,3] [4,5,6,0,3] (Jc K Y10) 173 [(0,VP a),(4,Value.int .u32 b),(6,VI c),(3,VQ d),(5,VS f g h)] w
abbrev ZX K Y10:=qo 1 (Jc K Y10)
abbrev qFp K Y10:=kq Qb 8162 [5,0,4,6,3] [4,5,6,0,3] (ZX K Y10)
def q6O a b c d f g h w K Y10:=SG Qb 16325 [5,0,4,6,3] [4,5,6,0,3] (ZX K Y10) 173 [(0,VP a),(4,Value.int .u32 b),(6,VI c),(3,VQ d),(5,VS f g h)] w
abbrev qDh K Y10:=kq Qb 16325 [5,0,4,6,3] [4,5,6,0,3] (ZX K Y10)
def qmi a b c d f g h i j k w K Y10:=SG Qb 32651 [5,0,4,6,3] [4,5,6,0,3] (ZX K Y10) 173 [(0,VP a),(4,Value.int .u32 b),(6,VI c),(3,VQ d),(11,VS f g h),(5,VS i j k)] w
abbrev qB0 K Y10:=kq Qb 32651 [5,0,4,6,3] [4,5,6,0,3] (ZX K Y10)
theorem qf9:qmi c e f g h d i j k l w K Y10=(qh c (fun r=>∃ m:Int,w.cell? (r.add 9)=some (.int .i64 m)/\qh c (fun s=>zW (s.add 9) (Value.int .i64 (IntKind.wrap .i64 (m+((d:Nat):Int)))) w (fun t=>∃ (n:OA) (o p:Nat),∃ q:World,(Builtin.append_ #[22,22] 22 #[(Value.slice j k l),(Value.slice h d i)]).run P t=.ok (.slice n o p) q/\Y10 (qi.mk 173 [(5,(Value.slice n o p)),(0,(Value.pointer c)),(4,(Value.int .u32 e)),(6,(Value.int .i64 f)),(3,(Value.pointer (some g)))] []) q)))):=qB (qG [0,4,6,3,11,5] (qB0 K Y10) kr)
theorem qgB:q6O c d e f g h i w K Y10=(qh c (fun s=>qh c (fun t=>∃ (k:OA) (l u:Nat),w.drew.cell? (s.add 4)=some (.slice k l u)/\∃ j:Int,w.drew.cell? (t.add 7)=some (.int .i64 j)/\qh k (fun v=>0<=j/\j<(l:Nat)/\∃ (m:OA) (n o:Nat),w.drew.cell? (v.add (Int.toNat j*1))=some (.slice m n o)/\q9 P 60 [(Value.pointer c),(Value.slice m n o)] w.drew (fun x y=>∃ (p:OA) (q r:Nat),x=(.slice p q r)/\qmi c d e f p q r g h i y K Y10))))):=qB (qG [0,4,6,3,11,5] (qDh K Y10) kr)
theorem qhZ:qjN c d e f g h i w K Y10=(qh c (fun l=>qh c (fun m=>∃ k:Int,w.drew.cell? (l.add 7)=some (.int .i64 k)/\∃ j:Int,w.drew.cell? m=some (.int .i64 j)/\j≠0/\qh c (fun n=>zW (n.add 7) (Value.int .i64 ((IntKind.wrap .i64 (k+1)).tmod j)) w.drew (fun o=>q6O c d e f g h i o K Y10))))):=qB (Q8 1 [4,5,6,0,3] (ZX K Y10) (qG [0,4,6,3,5] (qFp K Y10) kr))
def q0M a b c d f w K:=SG Qb 511 [4,5,6] [4,5,6] (zF K) 173 [(5,VS a b c),(0,VP d),(3,VQ f)] w
abbrev qCV K:=kq Qb 511 [4,5,6] [4,5,6] (zF K)
def q6N a b c d w K:=SG Qb 4095 [4,5,6] [4,5,6] (zF K) 173 [(5,VS a b c),(0,VP d)] w
abbrev qEX K:=kq Qb 4095 [4,5,6] [4,5,6] (zF K)
def q0x a b c d w K:=SG Qb 8191 [4,5,6] [4,5,6] (zF K) 173 [(5,VS a b c),(0,VP d)] w
abbrev qyQ K:=kq Qb 8191 [4,5,6] [4,5,6] (zF K)
theorem qd6:q0x d e f c w K=(qh c (fun j=>∃ g:Int,w.cell? (j.add 8)=some (.int .u32 g)/\q9 P 63 [(Value.pointer c),(Value.int .u32 g)] w (fun k h=>k=(.tuple #[])/\qh c (fun l=>∃ i:Int,h.cell? (l.add 8)=some (.int .u32 i)/\K (Value.tuple #[(Value.int .u32 i),(Value.slice d e f),(Value.int .i64 0)]) h)))):=qB (qG [5,0] (qyQ K) kr)
theorem qfc:q6N g h i c w K=(qh c (fun m=>qh c (fun n=>qh c (fun x=>qh c (fun y=>qh c (fun e0=>∃ (j:OA) (k o:Nat),w.drew.cell? (m.add 4)=some (.slice j k o)/\∃ d:Int,w.drew.cell? (n.add 7)=some (.int .i64 d)/\∃ (p:OA) (q z:Nat),w.drew.cell? (x.add 4)=some (.slice p q z)/\∃ e:Int,w.drew.cell? (y.add 7)=some (.int .i64 e)/\qh p (fun a0=>0<=e/\e<(q:Nat)/\∃ (r:OA) (s t:Nat),w.drew.cell? (a0.add (Int.toNat e*1))=some (.slice r s t)/\∃ u:Int,w.drew.cell? (e0.add 8)=some (.int .u32 u)/\qJ 1 [(Value.int .u32 u)]/\qv (([(Value.int .u32 u)].map fun(v:Value)=>v.cells.toList).flatten.toArray) 24 w.drew (fun f0 f=>f.cell? (a0.add (Int.toNat e*1))=some (.slice r s t)/\f.cell? (y.add 7)=some (.int .i64 e)/\f.cell? (x.add 4)=some (.slice p q z)/\f.cell? (n.add 7)=some (.int .i64 d)/\f.cell? (m.add 4)=some (.slice j k o)/\∃ (b0:OA) (c0 d0:Nat),∃ l:World,(Builtin.append_ #[22,22] 22 #[(Value.slice r s t),(Value.slice (some (Addr.mk f0 0 none)) 1 1)]).run P f=.ok (.slice b0 c0 d0) l/\l.cell? (n.add 7)=some (.int .i64 d)/\l.cell? (m.add 4)=some (.slice j k o)/\qh j (fun g0=>0<=d/\d<(k:Nat)/\zW (g0.add (Int.toNat d*1)) (Value.slice b0 c0 d0) l (fun h0=>q0x g h i c h0 K)))))))))):=qB (qG [5,0] (qEX K) kr)
theorem qiK:q0M d e f c g w K=(q9 P 61 [(Value.slice d e f)] w (fun r l=>r=(.tuple #[])/\qh c (fun s=>∃ m:Int,l.cell? (s.add 8)=some (.int .u32 m)/\qh c (fun t=>zW (t.add 8) (Value.int .u32 (IntKind.wrap .u32 (m+1))) l (fun h=>qh c (fun n=>qh c (fun o=>∃ i:Option Nat,h.drew.cell? (n.add 3)=some (.map i)/\∃ j:Int,h.drew.cell? (o.add 8)=some (.int .u32 j)/\qU 3 g h.drew (fun u=>q9 P 62 [(Value.agg u)] h.drew (fun v k=>∃ p:Array Value,v=(.agg p)/\k.cell? (o.add 8)=some (.int .u32 j)/\k.cell? (n.add 3)=some (.map i)/\∃ q:World,(Instr.mapUpdate 105 (Value.map i) (Value.int .u32 j) (Value.agg p)).run P k=.ok () q/\q6N d e f c q K))))))))):=qB (qG [5,0,3] (qCV K) kr)
theorem q1B:q19 g a h i c d e f w K Y10=(qp g (qjN a h i c d e f w K Y10) (q0M d e f a c w K)):=qB kr
theorem q81:q8G e f g c h i d w K Y10=(qh c (fun u=>qh c (fun m=>∃ n:Int,w.drew.cell? (u.add 7)=some (.int .i64 n)/\∃ (o:OA) (k p:Nat),w.drew.cell? (d.add 2)=some (.slice o k p)/\∃ l:Int,w.drew.cell? (m.add 1)=some (.int .i64 l)/\q9 P 58 [(Value.pointer c),(Value.int .i64 n)] w.drew (fun v j=>∃ q:Int,v=(.int .i64 q)/\j.cell? (m.add 1)=some (.int .i64 l)/\j.cell? (d.add 2)=some (.slice o k p)/\qp (decide ((IntKind.wrap .i64 (q+((k:Nat):Int))) > l)) (q19 true c h i d e f g j K Y10) (qh c (fun x=>∃ r:Option Nat,j.cell? (x.add 3)=some (.map r)/\∃ s:Int,(∀ wq,vB j wq->(Builtin.len_ #[105] 3 #[(Value.map r)]).run P wq=.ok (.int .i64 s) wq)/\q9 P 59 [(Value.pointer c)] j (fun y z=>∃ t:Int,y=(.int .i64 t)/\q19 (decide (s>=t)) c h i d e f g z K Y10))))))):=qB (qG [0,4,6,3,5] (q5K K Y10) (qG [79,0,4,6,3,5] (qAr K Y10) kr))
theorem qpF:qcV c d e f g h i w K=(qK (qvJ K) (qi.mk 173 [(5,(Value.slice c d e)),(0,(Value.pointer f)),(4,(Value.int .u32 g)),(6,(Value.int .i64 h)),(3,(Value.pointer (some i)))] []) w):=qB (qG [5,0,3] (qkf K) (Q8 0 [4,5,6,0,3] (q6B K) (CSv [4,5,6,0,3] [5,0,4,6,3])))
theorem q48:q5a a c d e f g h i w K=(qp a (K (Value.tuple #[(Value.int .u32 0),(Value.slice none 0 0),(Value.int .i64 2)]) w) (qcV c d e f g h i w K)):=qB kr
theorem qqq:qsA e f g c h i d w K=(qh c (fun m=>∃ (n:OA) (j o:Nat),w.drew.cell? (d.add 2)=some (.slice n j o)/\∃ k:Int,w.drew.cell? (m.add 1)=some (.int .i64 k)/\qp (decide ((((j:Nat):Int):Int) > k)) (q5a true e f g c h i d w.drew K) (qh c (fun p=>∃ l:Int,w.drew.cell? (p.add 8)=some (.int .u32 l)/\q5a (l==2147483647) e f g c h i d w.drew K)))):=qB (qG [5,0,4,6,3] (q7f K) (qG [53,5,0,4,6,3] (qEP K) kr))
theorem qqy:qt2 e f g c h i d w K=(∃ j:Int,w.cell? d=some (.int .u32 j)/\q9 P 21 [(Value.pointer c),(Value.int .u32 j)] w (fun m k=>∃ n:Int,∃ l:Bool,m=(.tuple #[(Value.int .u32 n),(Value.bool l)])/\qp l (K (Value.tuple #[(Value.int .u32 0),(Value.slice none 0 0),(Value.int .i64 5)]) k) (qsA e f g c h i d k K))):=qB (qG [5,0,4,6,3] (qnM K) (qG [5,0,4,6,3,10] (qDC K) kr))
theorem q4K:q6g a c d e f g h i w K=(qp a (K (Value.tuple #[(Value.int .u32 0),(Value.slice none 0 0),(Value.int .i64 1)]) w) (qt2 c d e f g h i w K)):=qB kr
theorem qr1:qtP d e f g h i c j k l w K=(∃ (m:OA) (n o:Nat),w.cell? (c.add 1)=some (.slice m n o)/\q9 P 55 [(Value.slice m n o)] w (fun s p=>∃ q:Bool,s=(.bool q)/\qp (!q) (q6g true d e f g h i c p K) (q9 P 56 [(Value.slice j k l),(Value.func (.func 57) #[] #[])] p (fun t u=>∃ r:Bool,t=(.bool r)/\q6g r d e f g h i c u K)))):=qB (qG [5,0,4,6,3] (qek K) (qG [29,5,0,4,6,3] (qJv K) kr))
theorem q4Q:qvY c d e f n o p q r s t u v x y z a0 b0 c0 d0 g h i j k l m w K=(qp (c != 0) (K (Value.tuple #[(Value.int .u32 0),(Value.slice none 0 0),(Value.int .i64 170)]) w) (qtP g h i j k l m d e f w K)):=Eq.trans (b:=CS P (cA Qb 15) none [4,5,6] [4,5,6] (zF K) (qi.mk 173 [(8,(VI c)),(7,(VS d e f)),(19,(VI n)),(18,(VS o p q)),(14,(Value.tuple #[(VS r s t),(VI u)])),(17,(Value.tuple #[(VS v x y),(VI z)])),(16,(VS a0 b0 c0)),(15,(VP (some d0))),(5,(VS g h i)),(0,(VP j)),(4,(Value.int .u32 k)),(6,(VI l)),(3,(VP (some m)))] []) w) kr (Eq.trans (qZ [5,0,4,6,3,7] (qtf K) kr) (Eq.trans (qZ [21,5,0,4,6,3,7] (qKi K) kr) kr))
theorem qr3:qu0 h i j k l m c w K=(∃ (n:OA) (o p:Nat),w.cell? (c.add 2)=some (.slice n o p)/\q9 P 54 [(Value.slice n o p)] w (fun q r=>∃ (d:OA) (e f:Nat),∃ g:Int,q=(.tuple #[(Value.slice d e f),(Value.int .i64 g)])/\qvY g d e f g d e f d e f g d e f g n o p (c.add 2) h i j k l m c r K)):=qB (qG [5,0,4,6,3,7,8] (qG6 K) kr)
theorem qq7:qxe d e f g h i c j w K=(q9 P 53 [(Value.pointer c)] w (fun m k=>∃ l:Bool,m=(.bool l)/\qp l (K (Value.tuple #[(Value.int .u32 0),(Value.slice none 0 0),(Value.int .i64 5)]) k) (qu0 e f g c h d i k K))):=Eq.trans (b:=CS P (cA Qb 3) none [4,5,6] [4,5,6] (zF K) (qi.mk 173 [(6,(VI d)),(5,(VS e f g)),(4,(Value.int .u32 h)),(3,(VP (some i))),(0,(VP c)),(1,(Value.agg j))] []) w) kr (Eq.trans (qZ [5,0,4,6,3] (qwx K) kr) (Eq.trans (qZ [13,5,0,4,6,3] (qJP K) kr) kr))
theorem qpf:qwr d c w K=(qv c 41 w (fun e f=>qxe 0 none 0 0 0 (Addr.mk e 0 none) d c f K)):=Eq.trans (b:=CS P (cA Qb 1) none [4,5,6] [4,5,6] (zF K) (qi.mk 173 [(0,(VP d)),(1,(Value.agg c))] []) w) kr (Eq.trans (qZ [5,0,4,6,3] (qHU K) kr) kr)
theorem qG2:f18 a b w K=(qwr a b w K):=kr
theorem qH5 a b w K(h:f18 a b w K):q9 P 18 [(Value.pointer a),(Value.agg b)] w K:=qA Qb Tryz.func18 h
def c20:=qm Tryz.f20
def qNo:=Tryz.f20.results.toList
abbrev q68 K:=qr P qNo K
def f20 a b w K:=CS P c20 none [4] [4] (q68 K) (qz 41 [(VP a),(Value.agg b)]) w
def qwn a b c d f w K:=SG c20 7 [4] [4] (q68 K) 41 [(3,VQ a),(4,VS b c d),(0,VP f)] w
abbrev qKa K:=kq c20 15 [4] [4] (q68 K)
abbrev qwI K:=qo 0 (qKa K)
def qAl K Y1 e w:=zt (fun e w=>CS P (cA c20 244) none [5,3,14,4,0] [4,0,5] (qu [5,3,14,4,0] Y1 (qwI K)) e w) e w
abbrev qlH K Y1:=qu [5,3,14,4,0] Y1 (qwI K)
def q7z a b c d f g h i j w K Y1:=SG c20 244 [5,3,14,4,0] [4,0,5] (qlH K Y1) 41 [(5,VS a b c),(3,VQ d),(14,VQ f),(4,VS g h i),(0,VP j)] w
def qyj a b c d w K:=SG c20 31 [4] [4] (q68 K) 41 [(0,VP a),(5,VS b c d)] w
theorem qq0:qyj a c d e w K=(q9 P 60 [(Value.pointer a),(Value.slice c d e)] w (fun j f=>∃ (g:OA) (b h:Nat),j=(.slice g b h)/\qh a (fun k=>∃ i:Int,f.cell? (k.add 10)=some (.int .i64 i)/\qh a (fun l=>zW (l.add 10) (Value.int .i64 (IntKind.wrap .i64 (i+((b:Nat):Int)))) f (fun m=>K (Value.slice g b h) m))))):=kr
def qvT a b c d f g h i j w K Y1:=SG c20 979 [5,3,14,4,0] [4,0,5] (qlH K Y1) 41 [(3,VQ a),(14,VQ b),(4,VS c d f),(0,VP g),(5,VS h i j)] w
theorem qrv:qvT a b c d e f g h i w K Y1=(∃ (k38 k:Value) (l:World),(Instr.entry (Value.pointer (some b))).run P w=.ok (.tuple #[k38,k]) l/\∃ j:Int,k38=(.int .u32 j)/\∃ m:Array Value,k=(.agg m)/\qv (qx P 41) 41 l (fun n a0=>zT 3 (Addr.mk n 0 none) m a0 (fun o=>∃ (p:OA) (q r:Nat),o.cell? ((Addr.mk n 0 none).add 1)=some (.slice p q r)/\q9 P 65 [(Value.slice p q r),(Value.func (.func 66) #[] #[(Value.pointer (some a))])] o (fun b0 s=>∃ t:Bool,b0=(.bool t)/\qp t (qJ 1 [(Value.int .u32 j)]/\qv (([(Value.int .u32 j)].map fun(v:Value)=>v.cells.toList).flatten.toArray) 24 s (fun c0 d0=>∃ (u:OA) (x y:Nat),∃ z:World,(Builtin.append_ #[22,22] 22 #[(Value.slice g h i),(Value.slice (some (Addr.mk c0 0 none)) 1 1)]).run P d0=.ok (.slice u x y) z/\Y1 (qi.mk 41 [(5,(Value.slice u x y)),(3,(Value.pointer (some a))),(14,(Value.pointer (some b))),(4,(Value.slice c d e)),(0,(Value.pointer f))] []) z)) (Y1 (qi.mk 41 [(5,(Value.slice g h i)),(3,(Value.pointer (some a))),(14,(Value.pointer (some b))),(4,(Value.slice c d e)),(0,(Value.pointer f))] []) s))))):=kr
theorem q2f:q7z b c d f a g h i e w K Y1=((∃ j:World,(Instr.next (Value.pointer (some a)) false 0).run P w=.ok (.tuple #[.bool false]) j/\qyj e b c d j K)\/∃ (k21 l:Value) (k:World),(Instr.next (Value.pointer (some a)) false 0).run P w=.ok (.tuple #[.bool true,k21,l]) k/\qvT f a g h i e b c d k K Y1):=kr
theorem qoX:qwn b c d e a w K=(qh a (fun i=>∃ f:Option Nat,w.cell? (i.add 3)=some (.map f)/\∃ (g:Nat) (h:World),(Instr.range 105 (Value.map f)).run P w=.ok (.pointer (some (Addr.mk g 0 none))) h/\qK (qAl K) (qi.mk 41 [(5,(Value.slice none 0 0)),(3,(Value.pointer (some b))),(14,(Value.pointer (some (Addr.mk g 0 none)))),(4,(Value.slice c d e)),(0,(Value.pointer a))] []) h)):=kr
theorem qKn:f20 a b w K=(qv b 36 w (fun e f=>q9 P 53 [(Value.pointer a)] f (fun g c=>∃ d:Bool,g=(.bool d)/\qp d (K (Value.slice none 0 0) c) (qwn (Addr.mk e 0 none) none 0 0 a c K)))):=kr
theorem qHO a b w K(h:f20 a b w K):q9 P 20 [(Value.pointer a),(Value.agg b)] w K:=qA c20 Tryz.func20 h
def c21:=qm Tryz.f21
def qMZ:=Tryz.f21.results.toList
abbrev quV K:=qr P qMZ K
def f21 a b w K:=CS P c21 none [4,5] [4,5] (quV K) (qz 19 [(VP a),(Value.int .u32 b)]) w
def qwh a b w K:=SG c21 7 [4,5] [4,5] (quV K) 19 [(1,Value.int .u32 a),(0,VP b)] w
theorem qr2:qwh b c w K=(q9 P 68 [(Value.pointer c),(Value.int .u32 b)] w (fun d e=>∃ a:Int,∃ f:Int,d=(.tuple #[(Value.int .u32 a),(Value.int .i64 f)])/\K (Value.tuple #[(Value.int .u32 a),(Value.bool (a != 0))]) e)):=kr
theorem qHd:f21 a b w K=(q9 P 53 [(Value.pointer a)] w (fun e c=>∃ d:Bool,e=(.bool d)/\qp d (K (Value.tuple #[(Value.int .u32 0),(Value.bool false)]) c) (qwh b a c K))):=kr
theorem qH8 a b w K(h:f21 a b w K):q9 P 21 [(Value.pointer a),(Value.int .u32 b)] w K:=qA c21 Tryz.func21 h
def c22:=qm Tryz.f22
def qO9:=Tryz.f22.results.toList
abbrev qsj K:=qr P qO9 K
def f22 a b w K:=CS P c22 none [4] [4] (qsj K) (qz 16 [(VP a),(Value.int .u32 b)]) w
def qxE a b w K:=SG c22 7 [4] [4] (qsj K) 16 [(1,Value.int .u32 a),(0,VP b)] w
theorem qqS:qxE a b w K=(q9 P 68 [(Value.pointer b),(Value.int .u32 a)] w (fun d e=>∃ f:Int,∃ c:Int,d=(.tuple #[(Value.int .u32 f),(Value.int .i64 c)])/\K (Value.int .i64 c) e)):=kr
theorem qIs:f22 a b w K=(q9 P 53 [(Value.pointer a)] w (fun e c=>∃ d:Bool,e=(.bool d)/\qp d (K (Value.int .i64 0) c) (qxE b a c K))):=kr
theorem qIN a b w K(h:f22 a b w K):q9 P 22 [(Value.pointer a),(Value.int .u32 b)] w K:=qA c22 Tryz.func22 h
def c23:=qm Tryz.f23
def qN4:=Tryz.f23.results.toList
abbrev Yu K:=qr P qN4 K
def f23 a w K:=CS P c23 none [2] [2] (Yu K) (qz 56 [(VP a)]) w
def qxf a b w K:=SG c23 7 [2] [2] (Yu K) 56 [(0,VP a),(2,VQ b)] w
def qyq a b c w K:=SG c23 15 [2] [2] (Yu K) 56 [(3,VQ a),(0,VP b),(2,VQ c)] w
abbrev qIQ K:=kq c23 15 [2] [2] (Yu K)
abbrev qt5 K:=qo 0 (qIQ K)
def qEm K Y2 e w:=zt (fun e w=>CS P (cA c23 244) none [29,3,0,2,28] [2,3,0] (qu [29,3,0,2,28] Y2 (qt5 K)) e w) e w
abbrev q61 K Y2:=qu [29,3,0,2,28] Y2 (qt5 K)
def qjR a b c d f w K Y2:=SG c23 244 [29,3,0,2,28] [2,3,0] (q61 K Y2) 56 [(29,VI a),(3,VQ b),(0,VP c),(2,VQ d),(28,VI f)] w
def qwt a b c d f w K Y2:=SG c23 979 [29,3,0,2,28] [2,3,0] (q61 K Y2) 56 [(3,VQ a),(0,VP b),(2,VQ c),(28,VI d),(29,VI f)] w
def qtm a b c d f w K Y2:=SG c23 1959 [29,3,0,2,28] [2,3,0] (q61 K Y2) 56 [(3,VQ a),(0,VP b),(2,VQ c),(28,VI d),(29,VI f)] w
theorem qrY:qtm a b c d e w K Y2=(Y2 (qi.mk 56 [(29,(Value.int .i64 (IntKind.wrap .i64 (e+1)))),(3,(Value.pointer (some a))),(0,(Value.pointer b)),(2,(Value.pointer (some c))),(28,(Value.int .i64 d))] []) w):=kr
theorem qr7:qwt a b e f c w K Y2=(∃ d:Int,w.drew.cell? (a.add 1)=some (.int .i64 d)/\q9 P 58 [(Value.pointer b),(Value.int .i64 c)] w.drew (fun i g=>∃ h:Int,i=(.int .i64 h)/\g.cell? (a.add 1)=some (.int .i64 d)/\zW (a.add 1) (Value.int .i64 (IntKind.wrap .i64 (d+h))) g (fun j=>qtm a b e f c j K Y2))):=kr
def qxU a b c w K:=SG c23 31 [2] [2] (Yu K) 56 [(3,VQ a),(2,VQ b),(0,VP c)] w
abbrev qzp K:=kq c23 31 [2] [2] (Yu K)
abbrev qln K:=qo 2 (qzp K)
def qB3 K Y6 e w:=zt (fun e w=>CS P (cA c23 500) none [3,44,2] [2,3] (qu [3,44,2] Y6 (qln K)) e w) e w
abbrev qng K Y6:=qu [3,44,2] Y6 (qln K)
def q6S a b c w K Y6:=SG c23 500 [3,44,2] [2,3] (qng K Y6) 56 [(3,VQ a),(44,VQ b),(2,VQ c)] w
def qsw a b w K:=SG c23 63 [2] [2] (Yu K) 56 [(2,VQ a),(3,VQ b)] w
theorem qrV:qsw a b w K=(qU 5 b w (fun d=>zT 5 a d w (fun c=>qU 5 a c (fun e=>K (Value.agg e) c)))):=kr
def qtq a b c w K Y6:=SG c23 2003 [3,44,2] [2,3] (qng K Y6) 56 [(3,VQ a),(44,VQ b),(2,VQ c)] w
theorem qqK:qtq a c d w K Y6=(∃ (k70 e:Value) (b:World),(Instr.entry (Value.pointer (some c))).run P w=.ok (.tuple #[k70,e]) b/\∃ f:Option Nat,e=(.map f)/\∃ g:Int,b.cell? (a.add 2)=some (.int .i64 g)/\∃ h:Int,(∀ wq,vB b wq->(Builtin.len_ #[124] 3 #[(Value.map f)]).run P wq=.ok (.int .i64 h) wq)/\zW (a.add 2) (Value.int .i64 (IntKind.wrap .i64 (g+h))) b (fun i=>Y6 (qi.mk 56 [(3,(Value.pointer (some a))),(44,(Value.pointer (some c))),(2,(Value.pointer (some d)))] []) i)):=kr
theorem q1T:q6S b a c w K Y6=((∃ d:World,(Instr.next (Value.pointer (some a)) false 0).run P w=.ok (.tuple #[.bool false]) d/\qsw c b d K)\/∃ (k59 f:Value) (e:World),(Instr.next (Value.pointer (some a)) false 0).run P w=.ok (.tuple #[.bool true,k59,f]) e/\qtq b a c e K Y6):=kr
theorem qqG:qxU a b c w K=(qh c (fun g=>∃ d:Option Nat,w.cell? (g.add 6)=some (.map d)/\∃ (e:Nat) (f:World),(Instr.range 107 (Value.map d)).run P w=.ok (.pointer (some (Addr.mk e 0 none))) f/\qK (qB3 K) (qi.mk 56 [(3,(Value.pointer (some a))),(44,(Value.pointer (some (Addr.mk e 0 none)))),(2,(Value.pointer (some b)))] []) f)):=kr
theorem qi4:qjR a b c d e w K Y2=(qp (decide (a<e)) (qwt b c d e a w K Y2) (qxU b d c w K)):=kr
theorem qrJ:qyq b a c w K=(qh a (fun e=>∃ (f:OA) (d g:Nat),w.cell? (e.add 4)=some (.slice f d g)/\qK (qEm K) (qi.mk 56 [(29,(Value.int .i64 0)),(3,(Value.pointer (some b))),(0,(Value.pointer a)),(2,(Value.pointer (some c))),(28,(Value.int .i64 ((d:Nat):Int)))] []) w)):=kr
theorem qpw:qxf a b w K=(qh a (fun i=>qh a (fun j=>qh a (fun k=>∃ c:Option Nat,w.drew.cell? (i.add 3)=some (.map c)/\∃ d:Int,(∀ wq,vB w.drew wq->(Builtin.len_ #[105] 3 #[(Value.map c)]).run P wq=.ok (.int .i64 d) wq)/\∃ e:Int,w.drew.cell? (j.add 9)=some (.int .i64 e)/\∃ f:Int,w.drew.cell? (k.add 10)=some (.int .i64 f)/\∃ g:Array Value,(∀ wq,(Instr.build 47 #[(0,(Value.int .i64 d)),(3,(Value.int .i64 e)),(4,(Value.int .i64 f))]).run P wq=.ok (.agg g) wq)/\qv (qx P 47) 47 w.drew (fun h l=>zT 5 (Addr.mk h 0 none) g l (fun m=>qyq (Addr.mk h 0 none) a b m K)))))):=kr
theorem qJ7:f23 a w K=(qv (qx P 47) 47 w (fun b g=>q9 P 53 [(Value.pointer a)] g (fun h c=>∃ d:Bool,h=(.bool d)/\qp d (∃ e:Array Value,(∀ wq,(Instr.build 47 #[]).run P wq=.ok (.agg e) wq)/\zT 5 (Addr.mk b 0 none) e c (fun f=>qU 5 (Addr.mk b 0 none) f (fun i=>K (Value.agg i) f))) (qxf a (Addr.mk b 0 none) c K)))):=kr
theorem qH4 a w K(h:f23 a w K):q9 P 23 [(Value.pointer a)] w K:=qA c23 Tryz.func23 h
def c27:=qm Tryz.f27
def qOL:=Tryz.f27.results.toList
abbrev qsG K:=qr P qOL K
def f27 a w K:=CS P c27 none [2] [2] (qsG K) (qz 11 [(VP a)]) w
def qsT a w K:=SG c27 7 [2] [2] (qsG K) 11 [(0,VP a)] w
theorem qqC:qsT a w K=(qh a (fun g=>∃ b:Option Nat,w.cell? (g.add 3)=some (.map b)/\q9 P 71 [(Value.map b)] w (fun h i=>∃ c:Value,h=c/\q9 P 70 [c] i (fun j k=>∃ (d:OA) (e f:Nat),j=(.slice d e f)/\K (Value.slice d e f) k)))):=kr
theorem qG0:f27 a w K=(q9 P 53 [(Value.pointer a)] w (fun d b=>∃ c:Bool,d=(.bool c)/\qp c (K (Value.slice none 0 0) b) (qsT a b K))):=kr
theorem qI1 a w K(h:f27 a w K):q9 P 27 [(Value.pointer a)] w K:=qA c27 Tryz.func27 h
end Go.Fx.Tryz
namespace Go.Fx.Ch
def EX.zero:EX:=⟨0,0,0,0,0⟩
def zD(s:qd)(id slot:Int):EX × Int:=match lk s.items id with
 | none=>(EX.zero,211)
 | some _=>match(qC s.items id).find? fun e=>e.slot==slot with
  | none=>(EX.zero,1)
  | some x=>(x,0)
end Go.Fx.Ch
namespace Go.Fx.Tryz
open Go Go.Fx Go.Fx.Ch
open Go.Proofs
set_option linter.all false
set_option maxRecDepth 20000
variable {w0 w:World} {H G:qE} {K:KT} {s:qd} {L:qQ} {q:LB}
theorem q7C(hL:L.Ok w0 q s){c:Nat}(hc:c<s.rows.length):∃ sa sc,(L.rv.map (·.1))[c]?=some (.slice sa s.rows[c].length sc)/\∀ w',St w0 w' (L.bl q s++H)->vn w' 1 (.slice sa s.rows[c].length sc) s.rows[c].length (s.rows[c].map U):=by
 obtain⟨a,v,b,e0,hal,hv,hset⟩:=hL.rows.split (List.getElem?_eq_getElem hc)
 obtain⟨sa,sc,hsv⟩:=hv.form
 refine⟨sa,sc,?_,fun w' h'=>?_⟩
 ·rw[e0,List.map_append,List.getElem?_append_right (by simp;omega)]
  simp[hal,hsv]
 ·rw[<-hsv]
  refine hv.row fun u hu=>h'.has _ _ (List.mem_append_left _ (.tail _ (.tail _ (.tail _ (.tail _ (.tail _ (List.mem_append_left _ ?_)))))))
  rw[e0]
  simp only[List.map_append,List.map_cons,List.flatten_append,List.flatten_cons,List.mem_append]
  exact .inr (.inl hu)
def qT(items:List (Int × TR))(l:List Int):Int:=(l.map fun id=>((qj items id).code.length:Int)).sum
theorem yV{items:List (Int × TR)}(h:∀ id,(qj items id).code.length<1000000):∀ l:List Int,0<=qT items l/\qT items l<=l.length*1000000
 | []=>by simp[qT]
 | x::l=>by
  obtain⟨h1,h2⟩:=yV h l
  have:=h x
  unfold qT at *
  simp only[List.map_cons,List.sum_cons,List.length_cons]
  omega
theorem qQ.Ok.codeLen(hL:L.Ok w0 q s)(h:St w0 w (L.bl q s++H))(id:Int):(qj s.items id).code.length<1000000:=by
 obtain⟨v,hv,_⟩:=hL.its.look (w:=w) (h.get (k:=2) rfl) id
 obtain⟨⟨sv,cv,_,_,hB⟩,_,_⟩:=hv
 exact hB.len
theorem q4k(h:St w0 w (L.bl q s++H))(hL:L.Ok w0 q s){c:Nat}(hc:c<s.rows.length)(hr:s.rows[c].length<1000000000)
  (hK:∀ w',St w0 w' (L.bl q s++H)->K (J (zw s c)) w'):q9 P 58 [.pointer (some ⟨q.cb,0,none⟩),J c] w K:=by
 refine qFS _ _ _ _ ?_
 rw[qKe]
 obtain⟨sa,sc,hrv,hrow⟩:=q7C (H:=H) hL hc
 refine⟨some ⟨q.rb,0,none⟩,s.rows.length,s.rows.length,by rw[qa];exact h.cell (k:=1) rfl,by omega,by omega,sa,s.rows[c].length,sc,?_,?_⟩
 ·rw[qa,Int.toNat_natCast,Nat.mul_one,Nat.zero_add]
  rw[h.cell (k:=4) rfl];exact hrv
 have hfs:zw s c=qT s.items s.rows[c]:=by unfold zw qT;rw[List.getElem?_eq_getElem hc];rfl
 rw[hfs]at hK
 generalize s.rows[c]=r at *
 have hcode:=hL.codeLen h
 refine⟨fun m e' w'=>∃ j:Nat,j<=r.length/\m=r.length-j/\e'=qi.mk 32 [(16,J j),(0,.pointer (some ⟨q.cb,0,none⟩)),(5,J (qT s.items (r.take j))),(14,.slice sa r.length sc),(4,J 0),(15,J r.length)] []/\St w0 w' (L.bl q s++H),⟨_,0,by omega,rfl,rfl,h⟩,?_⟩
 rintro m e' w' ⟨j,hj,rfl,rfl,hs⟩
 show qjo ..
 rw[qhH,qg]
 refine⟨fun hlt=>?_,fun hge=>?_⟩
 ·have hlt:j<r.length:=by have:=of_decide_eq_true hlt;omega
  rw[qs0]
  obtain⟨ad,cp,hac,_⟩:=(hrow w' hs).ldA hlt
  injection hac with hac _ _
  subst hac
  obtain⟨v,hv,hlk,_⟩:=hL.its.look (w:=w') (hs.get (k:=2) rfl) r[j]
  obtain⟨⟨sv,cv,rfl,hS,hB⟩,_,_⟩:=hv
  obtain⟨ca,cc,rfl⟩:=((hB.bytes (w0:=w0) (H:=L.bl q s++H) fun u hu=>List.mem_append_left _ (L.G_mem q s u hu)).row w' hs).form
  refine⟨by omega,by omega,r[j],by rw[Int.toNat_natCast];exact j8 (hrow w' hs) hlt,some q.ib,by rw[qa];exact hs.cell (k:=1) rfl,_,hlk,ca,(qj s.items r[j]).code.length,cc,rfl,?_⟩
  rw[qrc]
  have hb:=yV hcode (r.take j)
  have hb2:=yV hcode (r.take (j+1))
  have hst:qT s.items (r.take (j+1))=qT s.items (r.take j)+((qj s.items r[j]).code.length:Nat):=by
   rw[zC r hlt]
   unfold qT
   rw[List.map_append,List.sum_append]
   show _+(_+0)=_
   rw[Int.add_zero]
  have hl1:(r.take j).length<=r.length:=by rw[List.length_take];omega
  have hl2:(r.take (j+1)).length<=r.length:=by rw[List.length_take];omega
  refine⟨r.length-(j+1),by omega,j+1,by omega,rfl,?_,hs⟩
  rw[hst,qc (x:=(j:Int)+1) om om,qc om om];rfl
 ·have:j=r.length:=by have:=of_decide_eq_false hge;omega
  subst this
  rw[List.take_length,qqu]
  exact hK w' hs
theorem Qr(h:St w0 w (L.bl q s++H))(hK:K (.bool false) w):q9 P 53 [.pointer (some ⟨q.cb,0,none⟩)] w K:=by
 refine qAk (slots:=((2 ^ s.k:Nat):Int)) (fun b hb=>by cases hb;rw[qa];exact h.cell (k:=1) rfl) ?_
 have:(((2 ^ s.k:Nat):Int)==0)=false:=by
  have:0<2 ^ s.k:=Nat.pow_pos (by decide)
  generalize 2 ^ s.k=x at *
  simp;omega
 rw[this];exact hK
theorem VO(h:St w0 w (L.bl q s++H))(hL:L.Ok w0 q s)(hg:zA H){at_:Int}(h0:0<=at_)(h1:at_<4294967296)
  (hK:∀ w',St w0 w' (L.bl q s++H)->K (.tuple [U (zE s at_).1,.bool ((zE s at_).1 != 0)].toArray) w'):q9 P 21 [.pointer (some ⟨q.cb,0,none⟩),U at_] w K:=by
 refine qH8 _ _ _ _ ?_
 rw[qHd]
 refine Qr h ⟨_,rfl,?_⟩
 simp only[qb]
 rw[qr2]
 exact qme h (hL.known hg) (fun u hu=>List.mem_append_left _ (L.G_mem q s u hu)) h0 h1 fun w' h'=>⟨_,_,rfl,hK w' h'⟩
theorem q52(h:St w0 w (L.bl q s++H))(hL:L.Ok w0 q s)(hg:zA H){at_:Int}(h0:0<=at_)(h1:at_<4294967296)
  (hK:∀ w',St w0 w' (L.bl q s++H)->K (J (zE s at_).2) w'):q9 P 22 [.pointer (some ⟨q.cb,0,none⟩),U at_] w K:=by
 refine qIN _ _ _ _ ?_
 rw[qIs]
 refine Qr h ⟨_,rfl,?_⟩
 simp only[qb]
 rw[qqS]
 exact qme h (hL.known hg) (fun u hu=>List.mem_append_left _ (L.G_mem q s u hu)) h0 h1 fun w' h'=>⟨_,_,rfl,hK w' h'⟩
theorem qEc(wq:World):(Instr.build 41 ([]:List (Nat × Value)).toArray).run P wq=.ok (.agg #[U 0,.slice none 0 0,.slice none 0 0]) wq:=kr
theorem qna(wq:World):(Instr.build 62 ([]:List (Nat × Value)).toArray).run P wq=.ok (.agg #[J 0,J 0,U 0,J 0,U 0]) wq:=kr
theorem quc(h:St w0 w (L.bl q s++H))(hL:L.Ok w0 q s){id:Int}
  (hN:lk s.items id=none->∀ w',St w0 w' (L.bl q s++H)->K (.tuple [.agg #[U 0,.slice none 0 0,.slice none 0 0],J 211].toArray) w')
  (hK:∀ t,lk s.items id=some t->∀ w' sv' cv' L1 M,zx 2 36 sv' t.sp.length (t.sp.map QN).flatten L1->qF w0 L1->zx 1 5 cv' t.code.length (t.code.map B) M->qF w0 M->St w0 w' (M++(L1++(L.bl q s++H)))->K (.tuple [.agg (ya t.at_ sv' cv').toArray,J 0].toArray) w') :
  q9 P 28 [.pointer (some ⟨q.cb,0,none⟩),U id] w K:=by
 refine qHG _ _ _ _ ?_
 rw[qJ1,jo]
 refine h.newC fun n2 w3 hn2 h3=>?_
 have h3':St w0 w3 (L.bl q s++((n2,Cs [U 0,.slice none 0 0,.slice none 0 0] 41)::H)):=h3.perm (qn fun c=>by simp only[List.map_append,List.map_cons,List.sum_append,List.sum_cons];omega)
 refine Qr h3' ⟨_,rfl,?_⟩
 simp only[qb]
 rw[qpY]
 obtain⟨v,hv,_,hlk⟩:=hL.its.look (w:=w3) (h3'.get (k:=2) rfl) id
 obtain⟨⟨sv,cv,rfl,hS,hB⟩,_,_⟩:=hv
 have h4:St w0 w3 ((n2,Cs [U 0,.slice none 0 0,.slice none 0 0] 41)::(L.bl q s++H)):=h3
 obtain⟨sa,sc,e1⟩:=((hS.spans (w0:=w0) (H:=L.bl q s++H) fun u hu=>List.mem_append_left _ (L.G_mem q s u hu)).row w h).form
 obtain⟨ca,cc,e2⟩:=((hB.bytes (w0:=w0) (H:=L.bl q s++H) fun u hu=>List.mem_append_left _ (L.G_mem q s u hu)).row w h).form
 subst e1;subst e2
 refine⟨some q.ib,by rw[qa];exact h4.cell (k:=2) rfl,_,_,hlk,?_⟩
 rw[jo]
 refine h4.newC fun n17 w18 hn17 h18=>h18.stA (k:=0) rfl rfl (by simp) (by simp[ya,Value.oneCell']) fun w19 h19=>?_
 have h19:St w0 w19 ((n17,Cs (ya (qj s.items id).at_ (.slice sa (qj s.items id).sp.length sc) (.slice ca (qj s.items id).code.length cc)) 41)::(n2,Cs [U 0,.slice none 0 0,.slice none 0 0] 41)::(L.bl q s++H)):=h19
 cases hi:lk s.items id with
 | none=>
  simp only[Option.isSome_none,Bool.not_false,qe]
  refine⟨_,qEc,h19.stA (k:=1) rfl rfl (by simp) (by simp[Value.oneCell']) fun w21 h21=>h21.ldA (k:=1) rfl (by simp[zy]) ?_⟩
  exact hN hi w21 ((h21.tail hn17).tail hn2)
 | some t=>
  simp only[Option.isSome_some,Bool.not_true,qb]
  rw[qpp]
  have hio:qj s.items id=t:=by unfold qj;rw[hi];rfl
  rw[hio]at h19 hS hB
  refine h19.ldA (k:=0) rfl (by simp[ya]) ?_
  have up:∀ u∈L.G,u∈((n17,Cs (ya t.at_ (.slice sa t.sp.length sc) (.slice ca t.code.length cc)) 41)::(n2,Cs [U 0,.slice none 0 0,.slice none 0 0] 41)::(L.bl q s++H)):=fun u hu=>.tail _ (.tail _ (List.mem_append_left _ (L.G_mem q s u hu)))
  refine JB h19 (hS.spans up) (hB.bytes up) fun w27 sv' cv' L1 M h1 h2 h3 h4 h27=>⟨_,rfl,?_⟩
  obtain⟨sa',sc',e1⟩:=h1.form
  obtain⟨ca',cc',e2⟩:=h3.form
  subst e1;subst e2
  have h28:St w0 w27 ((n17,Cs (ya t.at_ (.slice sa t.sp.length sc) (.slice ca t.code.length cc)) 41)::(n2,Cs [U 0,.slice none 0 0,.slice none 0 0] 41)::(M++(L1++(L.bl q s++H)))):=h27.perm (qn fun c=>by simp only[List.map_append,List.map_cons,List.sum_append,List.sum_cons];omega)
  refine h28.stA (k:=1) rfl rfl (by simp) (by simp[ya,Value.oneCell']) fun w29 h29=>h29.ldA (k:=1) rfl (by simp[zy]) ?_
  exact hK t hi w29 _ _ L1 M h1 h2 h3 h4 ((h29.tail hn17).tail hn2)
theorem qps{l:List EX}{p:EX->Bool}:(q2o p l<0/\l.find? p=none)\/∃ (i:Nat) (hi:i<l.length),q2o p l=i/\l.find? p=some l[i]:=by
 unfold q2o
 cases h:l.findIdx? p with
 | none=>
  refine .inl ⟨by decide,?_⟩
  exact List.find?_eq_none.2 fun x hx=>by simpa using List.findIdx?_eq_none_iff.1 h x hx
 | some i=>
  obtain⟨hi,hp,hb⟩:=List.findIdx?_eq_some_iff_getElem.1 h
  refine .inr ⟨i,hi,rfl,?_⟩
  rw[List.find?_eq_some_iff_getElem]
  exact⟨hp,i,hi,rfl,fun j hj=>by simpa using hb j hj⟩
theorem qka(h:St w0 w (L.bl q s++H))(hL:L.Ok w0 q s)(hg:zA H){id slot:Int}
  (hK:∀ w',St w0 w' (L.bl q s++H)->K (.tuple [.agg (Xc (zD s id slot).1).toArray,J (zD s id slot).2].toArray) w'):q9 P 78 [.pointer (some ⟨q.cb,0,none⟩),U id,J slot] w K:=by
 refine qHp _ _ _ _ _ ?_
 rw[qIZ,Vh]
 refine h.newC fun n3 w4 hn3 h4=>h4.newC fun n5 w6 hn5 h6=>?_
 have h6:St w0 w6 ((n5,Cs (Xc EX.zero) 62)::(n3,Cs [J slot] 3)::(L.bl q s++H)):=h6
 have h6':St w0 w6 (L.bl q s++((n5,Cs (Xc EX.zero) 62)::(n3,Cs [J slot] 3)::H)):=h6.perm (qn fun c=>by simp only[List.map_append,List.map_cons,List.sum_append,List.sum_cons];omega)
 refine Qr h6' ⟨_,rfl,?_⟩
 simp only[qb]
 rw[qqL]
 obtain⟨v,hv,_,hlk⟩:=hL.its.look (w:=w6) (h6'.get (k:=2) rfl) id
 obtain⟨⟨sv,cv,rfl,hS,hB⟩,_,_⟩:=hv
 obtain⟨sa,sc,e1⟩:=((hS.spans (w0:=w0) (H:=L.bl q s++H) fun u hu=>List.mem_append_left _ (L.G_mem q s u hu)).row w h).form
 obtain⟨ca,cc,e2⟩:=((hB.bytes (w0:=w0) (H:=L.bl q s++H) fun u hu=>List.mem_append_left _ (L.G_mem q s u hu)).row w h).form
 subst e1;subst e2
 refine⟨some q.ib,by rw[qa];exact h6.cell (k:=3) rfl,_,_,hlk,?_⟩
 rw[jo]
 refine h6.newC fun n21 w22 hn21 h22=>h22.stA (k:=0) rfl rfl (by simp) (by simp[ya,Value.oneCell']) fun w23 h23=>?_
 have h23:=h23.tail hn21
 have h23:St w0 w23 ((n5,Cs (Xc EX.zero) 62)::(n3,Cs [J slot] 3)::(L.bl q s++H)):=h23
 have out:∀ {w2:World} {x:EX} {e:Int} {vs:Array Value},vs=(Xc x).toArray->St w0 w2 ((n5,Cs (Xc EX.zero) 62)::(n3,Cs [J slot] 3)::(L.bl q s++H))->zD s id slot=(x,e)->
   zT 5 (Addr.mk n5 0 none) vs w2 (fun w25=>qU 5 (Addr.mk n5 0 none) w25 (fun cs26=>K (.tuple [.agg cs26,J e].toArray) w25)):=fun {w2 x e vs} hv hs he=>by
  subst hv
  refine hs.stA (k:=0) rfl rfl (by simp[Xc]) (by simp[Xc,Value.oneCell']) fun w25 h25=>h25.ldA (k:=0) rfl (by simp[zy,Xc]) ?_
  rw[he]at hK
  exact hK w25 ((h25.tail hn5).tail hn3)
 cases hi:lk s.items id with
 | none=>
  simp only[Option.isSome_none,Bool.not_false,qe]
  exact⟨_,qna,out (x:=EX.zero) rfl h23 (by unfold zD;rw[hi])⟩
 | some t=>
  simp only[Option.isSome_some,Bool.not_true,qb]
  rw[qpo]
  have hg2:zA ((n5,Cs (Xc EX.zero) 62)::(n3,Cs [J slot] 3)::H):=hg.mono fun u hu=>.tail _ (.tail _ hu)
  have h24:St w0 w23 (L.bl q s++((n5,Cs (Xc EX.zero) 62)::(n3,Cs [J slot] 3)::H)):=h23.perm (qn fun c=>by simp only[List.map_append,List.map_cons,List.sum_append,List.sum_cons];omega)
  refine JQ h24 hL hg2 id fun w32 a c N hb h32 hN hSl=>⟨_,_,_,rfl,?_⟩
  have hmem:(n3,Cs [J slot] 3)∈N++(L.bl q s++((n5,Cs (Xc EX.zero) 62)::(n3,Cs [J slot] 3)::H)):=List.mem_append_right _ (List.mem_append_right _ (.tail _ (.head _)))
  refine JV (l:=qC s.items id) h32 (fun w' h'=>hSl.row fun u hu=>h'.has _ _ (List.mem_append_left _ hu)) om (qAM (t:=3) hmem) fun w35 h35=>⟨_,rfl,?_⟩
  have h36:St w0 w35 (N++((n5,Cs (Xc EX.zero) 62)::(n3,Cs [J slot] 3)::(L.bl q s++H))):=h35.perm (qn fun c=>by simp only[List.map_append,List.map_cons,List.sum_append,List.sum_cons];omega)
  have h37:=h36.sub hN
  rcases qps (l:=qC s.items id) (p:=fun e=>e.slot==slot)with⟨hlt,hf⟩ | ⟨j,hj,hidx,hf⟩
  ·rw[decide_eq_true hlt]
   simp only[qe]
   exact⟨_,qna,out (x:=EX.zero) rfl h37 (by unfold zD;rw[hi];simp only[hf])⟩
  ·rw[hidx,show decide (((j:Nat):Int)<0)=false from decide_eq_false om]
   simp only[qb]
   rw[qpa]
   obtain⟨ad,cp,hac,hld⟩:=(hSl.row (w:=w35) fun u hu=>h35.has _ _ (List.mem_append_left _ hu)).ldA hj
   injection hac with hac _ _
   subst hac
   refine⟨by omega,by omega,?_⟩
   rw[Int.toNat_natCast]
   refine hld _ ?_
   rw[v7 Xc 5 qgs _ hj]
   exact out (x:=(qC s.items id)[j]) rfl h37 (by unfold zD;rw[hi];simp only[hf])
end Go.Fx.Tryz
namespace Go.Fx.Ch
set_option linter.all false
abbrev j9(x:Int):Prop:=0<=x/\x<4294967296
theorem Jb:j9 0:=⟨by decide,by decide⟩
def qoU(bs:List Int):Prop:=∀ b∈bs,0<=b/\b<256
theorem qoU.drop{bs:List Int}(h:qoU bs)(n:Nat):qoU (bs.drop n):=fun b hb=>h b (List.mem_of_mem_drop hb)
theorem qMI{bs:List Int}(h:qoU bs)(s:Rd):j9 (rd bs s 4).1:=by
 unfold rd
 split
 ·exact Jb
 ·have hl:=Tryz.q3n ((bs.drop s.1).take 4) fun b hb=>h b (List.mem_of_mem_drop (List.mem_of_mem_take hb))
  have h4:((bs.drop s.1).take 4).length<=4:=by rw[List.length_take];omega
  have:(256:Int) ^ ((bs.drop s.1).take 4).length<=256 ^ 4:=by
   generalize ((bs.drop s.1).take 4).length=m at h4
   match m,h4 with
   | 0,_ | 1,_ | 2,_ | 3,_ | 4,_=>decide
  exact⟨hl.1,by have:(256:Int) ^ 4=4294967296:=by decide
                omega⟩
theorem qjw(x:HI)(i:Nat)(v:Int):(q45 x i v).i=x.i/\(q45 x i v).chain=x.chain:=by unfold q45;split<;>exact⟨rfl,rfl⟩
theorem q62{fs:Nat}{bs:List Int}{s:HI × Rd}:∀ i,(decI fs bs i s).1.i=s.1.i/\(decI fs bs i s).1.chain=s.1.chain
 | 0=>⟨rfl,rfl⟩
 | i+1=>by
  have ih:=q62 (fs:=fs) (bs:=bs) (s:=s) i
  show(decS fs bs i (decI fs bs i s)).1.i=_/\(decS fs bs i (decI fs bs i s)).1.chain=_
  unfold decS
  split
  ·exact⟨(qjw _ _ _).1.trans ih.1,(qjw _ _ _).2.trans ih.2⟩
  ·exact ih
theorem qlv(x:HI)(i:Nat)(v:Int):(q2H x i v).i=x.i/\(q2H x i v).chain=x.chain:=by unfold q2H;split<;>exact⟨rfl,rfl⟩
theorem qbO{bs:List Int}{s:HI × Rd}:∀ i,(decV1 bs i s).1.i=s.1.i/\(decV1 bs i s).1.chain=s.1.chain
 | 0=>⟨rfl,rfl⟩
 | i+1=>by
  have ih:=qbO (bs:=bs) (s:=s) i
  exact⟨(qlv _ _ _).1.trans ih.1,(qlv _ _ _).2.trans ih.2⟩
theorem qmu{fs:Nat}{bs:List Int}{s:HI × Rd}:(decV fs bs s).1.i=s.1.i/\(decV fs bs s).1.chain=s.1.chain:=by
 unfold decV;split
 ·exact qbO _
 ·exact⟨rfl,rfl⟩
theorem qw7{bs:List Int}(hb:qoU bs){x:HI}{n:Nat}(h:decode bs=some (x,n)):j9 x.i/\j9 x.chain:=by
 unfold decode at h
 dsimp only at h
 split at h
 ·cases h
 ·split at h
  ·cases h
  ·simp only[Option.some.injEq,Prod.mk.injEq]at h
   obtain⟨rfl,rfl⟩:=h
   rw[qmu.1,qmu.2]
   have h0:∀ (o:Int) (s:Rd),j9 (decI (zi o).1 bs 8 ({ op:=o },s)).1.i/\j9 (decI (zi o).1 bs 8 ({ op:=o },s)).1.chain:=fun o s=>by
    rw[(q62 8).1,(q62 8).2]
    exact⟨Jb,Jb⟩
   generalize hy:decI (zi (rd bs (0,false) 1).1).1 bs 8 ({ op:=(rd bs (0,false) 1).1 },(rd bs (0,false) 1).2)=y
   have hy0:=h0 (rd bs (0,false) 1).1 (rd bs (0,false) 1).2
   rw[hy]at hy0
   have ha:j9 (decA (zi (rd bs (0,false) 1).1).1 bs y).1.i/\j9 (decA (zi (rd bs (0,false) 1).1).1 bs y).1.chain:=by
    unfold decA;split
    ·exact⟨qMI hb _,hy0.2⟩
    ·exact hy0
   generalize decA (zi (rd bs (0,false) 1).1).1 bs y=z at ha
   unfold decC;split
   ·exact⟨ha.1,qMI hb _⟩
   ·exact ha
theorem qwP{bs:List Int}{l:List (HI × Nat)}(ha:jm bs=some l):Run bs 0 l:=by
 unfold jm at ha
 split at ha
 ·cases ha
 ·obtain⟨r,hr,hh⟩:=q1K _ _ _ _ ha (Nat.zero_le _)
  simp at hr;subst hr;exact hh
theorem q3U{bs:List Int}{l:List EX}(h:zg bs=some l){e:EX}(he:e∈l):∃ (al:List (HI × Nat)) (i:Nat) (p:HI × Nat) (n:Nat),jm bs=some al/\al[i]?=some p/\(p.1.op=39\/p.1.op=40)/\
  decode (bs.drop p.2)=some (p.1,n)/\p.2+n<=bs.length/\e=⟨p.2,((p.2+n:Nat):Int)-4,p.1.i,p.1.k,p.1.chain⟩:=by
 unfold zg at h
 cases ha:jm bs with
 | none=>rw[ha]at h;cases h
 | some al=>
  rw[ha]at h
  simp only[Option.map_some,Option.some.injEq]at h
  subst h
  unfold Jz at he
  obtain⟨i,_,hi⟩:=List.mem_filterMap.1 he
  unfold vh at hi
  split at hi
  ·cases hi
  ·rename_i p hp
   split at hi
   ·cases hi
   ·rename_i hop
    simp only[Option.some.injEq]at hi
    subst hi
    obtain⟨n,e1,e2,e3⟩:=(qwP ha).at hp
    exact⟨al,i,p,n,rfl,hp,by simp at hop;omega,e1,e3,by rw[e2]⟩
theorem qD3{bs:List Int}(hb:qoU bs){l:List EX}(h:zg bs=some l){e:EX}(he:e∈l):j9 e.to/\j9 e.chain:=by
 obtain⟨al,i,p,n,_,_,_,hd,_,rfl⟩:=q3U h he
 exact qw7 (hb.drop _) hd
end Go.Fx.Ch
namespace Go.Fx.Ch
open Go.Fx.Tryz
def zJ(s:qd)(id slot:Int):qd × Bool × Int:=if(zD s id slot).2≠0 then(s,false,(zD s id slot).2)
 else if((zE s (zD s id slot).1.to).1=0\/vK (zD s id slot).1=false)then(s,false,0)
 else({ s with items:=zf s.items (id,slot) (zE s (zD s id slot).1.to).1,hold:=q01 s.hold (id,slot) (zE s (zD s id slot).1.to).1 },true,0)
def zq(s:qd)(id slot:Int):qd × Int:=if(zD s id slot).2≠0 then(s,(zD s id slot).2)
 else({ s with items:=zf s.items (id,slot) 0,hold:=zd s.hold (id,slot) (zD s id slot).1.chain },0)
theorem qwG{t:List Int}(h:∀ x∈t,j9 x)(i:Nat):j9 (qk t i):=by
 unfold qk
 cases hi:t[i]? with
 | none=>exact Jb
 | some x=>exact h x (List.mem_of_getElem? hi)
theorem qaL{items:List (Int × TR)}{t:List Int}(h:∀ x∈t,j9 x){k:Nat}{at_:Int}{frm:Nat}:∀ f n,j9 (vG items t k at_ frm f n).1
 | 0,_=>Jb
 | f+1,n=>by
  unfold vG
  split
  ·exact Jb
  ·split
   ·exact qwG h _
   ·exact qaL h f (n+1)
end Go.Fx.Ch
namespace Go.Fx.Tryz
open Go Go.Fx Go.Fx.Ch
open Go.Proofs
set_option linter.all false
set_option maxRecDepth 20000
variable {w0 w:World} {H G:qE} {K:KT} {s:qd} {L:qQ} {q:LB}
theorem qQ.Ok.exitW(hL:L.Ok w0 q s)(h:St w0 w (L.bl q s++H)){id slot:Int}(he:(zD s id slot).2=0):j9 (zD s id slot).1.to/\j9 (zD s id slot).1.chain/\(zD s id slot).1∈qC s.items id/\(zD s id slot).1.slot=slot:=by
 obtain⟨v,hv,_⟩:=hL.its.look (w:=w) (h.get (k:=2) rfl) id
 obtain⟨⟨sv,cv,_,_,hB⟩,_,_⟩:=hv
 have hmem:(zD s id slot).1∈qC s.items id/\(zD s id slot).1.slot=slot:=by
  unfold zD at he ⊢
  split at he
  ·cases he
  ·split at he
   ·cases he
   ·rename_i x hx
    exact⟨List.mem_of_find?_eq_some hx,by simpa using List.find?_some hx⟩
 refine⟨?_,?_,hmem⟩
 all_goals
  have hm:=hmem.1
  unfold qC at hm
  cases hx:zg (qj s.items id).code with
  | none=>rw[hx]at hm;simp at hm
  | some l=>
   rw[hx]at hm
   have:=qD3 hB.byte hx hm
   first | exact this.1 | exact this.2
theorem YS(a b:Int)(wq:World):(Instr.build 142 [(0,U a),(1,J b)].toArray).run P wq=.ok (vN (a,b)) wq:=kr
theorem Vl(h:St w0 w (L.bl q s++H))(hL:L.Ok w0 q s)(hg:zA H)(ht:∀ x∈s.table,j9 x){id slot:Int}
  (hK:∀ (w':World) (L':qQ),L'.Ok w0 q (zJ s id slot).1->St w0 w' (L'.bl q (zJ s id slot).1++H)->K (.tuple [.bool (zJ s id slot).2.1,J (zJ s id slot).2.2].toArray) w'):q9 P 41 [.pointer (some ⟨q.cb,0,none⟩),U id,J slot] w K:=by
 refine qGK _ _ _ _ _ ?_
 rw[qGu,Vh]
 refine qka h hL hg fun w4 h4=>⟨_,_,rfl,h4.newC fun n7 w8 hn7 h8=>h8.stA (k:=0) rfl rfl (by simp) (by simp[Xc,Value.oneCell']) fun w9 h9=>?_⟩
 have h9:St w0 w9 ((n7,Cs (Xc (zD s id slot).1) 62)::(L.bl q s++H)):=h9
 have hW:=hL.exitW h (id:=id) (slot:=slot)
 unfold zJ at hK
 generalize zD s id slot=xe at *
 obtain⟨x,e⟩:=xe
 simp only at hK h9 hW
 rw[qg]
 refine⟨fun he=>?_,fun he=>?_⟩
 ·have he:e≠0:=by simpa using he
  rw[if_pos he]at hK
  exact hK w9 L hL (h9.tail hn7)
 have he:e=0:=by simpa using he
 rw[if_neg (by simp[he])]at hK
 obtain⟨hto,_,_,_⟩:=hW he
 rw[qrh]
 refine⟨x.to,by rw[qa];exact h9.cell (k:=0) rfl,?_⟩
 have hg2:zA ((n7,Cs (Xc x) 62)::H):=hg.mono fun u hu=>.tail _ hu
 have back:∀ {w2:World} {L2:qQ} {s2:qd},St w0 w2 (L2.bl q s2++((n7,Cs (Xc x) 62)::H))->St w0 w2 (L2.bl q s2++H):=fun {w2 L2 s2} h2=>by
  have h3:St w0 w2 ((n7,Cs (Xc x) 62)::(L2.bl q s2++H)):=h2.perm (qn fun c=>by simp only[List.map_append,List.map_cons,List.sum_append,List.sum_cons];omega)
  exact h3.tail hn7
 have h10:St w0 w9 (L.bl q s++((n7,Cs (Xc x) 62)::H)):=h9.perm (qn fun c=>by simp only[List.map_append,List.map_cons,List.sum_append,List.sum_cons];omega)
 refine VO h10 hL hg2 hto.1 hto.2 fun w16 h16=>⟨_,_,rfl,?_⟩
 have hlW:j9 (zE s x.to).1:=qaL ht _ _
 generalize (zE s x.to).1=to at *
 have no:(to=0\/vK x=false)->∀ w2,St w0 w2 (L.bl q s++((n7,Cs (Xc x) 62)::H))->q55 true to slot id (some ⟨q.cb,0,none⟩) w2 K:=fun hc w2 h2=>by
  rw[q4f,qe]
  rw[if_pos hc]at hK
  exact hK w2 L hL (back h2)
 rw[qg]
 refine⟨fun hz=>?_,fun hz=>?_⟩
 ·exact no (.inl (by simpa using hz)) w16 h16
 have hz:to≠0:=by simpa using hz
 have h17:St w0 w16 ((n7,Cs (Xc x) 62)::(L.bl q s++H)):=h16.perm (qn fun c=>by simp only[List.map_append,List.map_cons,List.sum_append,List.sum_cons];omega)
 refine h17.ldA (k:=0) rfl (by simp[Xc]) ?_
 refine qiz (e:=x) h16 fun w36 h36=>⟨_,rfl,?_⟩
 cases hch:vK x with
 | false=>exact no (.inr hch) w36 h36
 | true=>
  rw[q4f]
  simp only[Bool.not_true,qb]
  rw[qpl,if_neg (by simp[hz,hch])]at *
  refine⟨_,YS id slot,?_⟩
  refine YH h36 hL hg2 hlW.1 hlW.2 fun w30 L1 hL1 h30=>⟨rfl,_,YS id slot,?_⟩
  refine qCm h30 hL1 fun w33 L2 hL2 h33=>⟨rfl,?_⟩
  exact hK w33 L2 hL2 (back h33)
theorem qgA(h:St w0 w (L.bl q s++H))(hL:L.Ok w0 q s)(hg:zA H){id slot:Int}
  (hK:∀ (w':World) (L':qQ),L'.Ok w0 q (zq s id slot).1->St w0 w' (L'.bl q (zq s id slot).1++H)->K (J (zq s id slot).2) w'):q9 P 42 [.pointer (some ⟨q.cb,0,none⟩),U id,J slot] w K:=by
 refine qGs _ _ _ _ _ ?_
 rw[qHV,Vh]
 refine qka h hL hg fun w4 h4=>⟨_,_,rfl,h4.newC fun n7 w8 hn7 h8=>h8.stA (k:=0) rfl rfl (by simp) (by simp[Xc,Value.oneCell']) fun w9 h9=>?_⟩
 have h9:St w0 w9 ((n7,Cs (Xc (zD s id slot).1) 62)::(L.bl q s++H)):=h9
 unfold zq at hK
 generalize zD s id slot=xe at *
 obtain⟨x,e⟩:=xe
 simp only at hK h9
 rw[qg]
 refine⟨fun he=>?_,fun he=>?_⟩
 ·have he:e≠0:=by simpa using he
  rw[if_pos he]at hK
  exact hK w9 L hL (h9.tail hn7)
 have he:e=0:=by simpa using he
 rw[if_neg (by simp[he])]at hK
 rw[qp9]
 have hg2:zA ((n7,Cs (Xc x) 62)::H):=hg.mono fun u hu=>.tail _ hu
 have h10:St w0 w9 (L.bl q s++((n7,Cs (Xc x) 62)::H)):=h9.perm (qn fun c=>by simp only[List.map_append,List.map_cons,List.sum_append,List.sum_cons];omega)
 refine⟨_,YS id slot,?_⟩
 refine YH h10 hL hg2 (by decide) (by decide) fun w16 L1 hL1 h16=>⟨rfl,_,YS id slot,x.chain,?_,?_⟩
 ·have hm:(n7,Cs (Xc x) 62)∈(L1.bl q { s with items:=zf s.items (id,slot) 0 }++((n7,Cs (Xc x) 62)::H)):=List.mem_append_right _ (.head _)
  rw[qa,qw (h16.has _ _ hm)];rfl
 refine YA h16 hL1 fun w20 L2 hL2 h20=>⟨rfl,?_⟩
 have h3:St w0 w20 ((n7,Cs (Xc x) 62)::(L2.bl q { s with items:=zf s.items (id,slot) 0,hold:=zd s.hold (id,slot) x.chain }++H)):=St.perm (H:=L2.bl q { s with items:=zf s.items (id,slot) 0,hold:=zd s.hold (id,slot) x.chain }++((n7,Cs (Xc x) 62)::H)) h20 (qn fun c=>by simp only[List.map_append,List.map_cons,List.sum_append,List.sum_cons];omega)
 exact hK w20 L2 hL2 (h3.tail hn7)
theorem q5O:qxF w0:=fun w H N K ov l hl hS hN h hK=>by
 obtain⟨a,c,e⟩:=hS.form
 subst e
 exact qbJ h hS hl fun w' N' h1 h2 h3=>hK w' N' h1 (h2 hN) h3
def vF(s:qd):List Int:=zL (s.items.map (·.1))
theorem zV{a b:List Int}(h:a.Perm b):zL a=zL b:=by
 have h1:(zL a).Perm (zL b):=(List.mergeSort_perm a _).trans (h.trans (List.mergeSort_perm b _).symm)
 have hp:∀ l:List Int,(zL l).Pairwise fun x y=>decide (x<=y)=true:=fun l=>List.pairwise_mergeSort (fun x y z hx hy=>by simp at *;omega) (fun x y=>by simp;omega) l
 exact h1.eq_of_pairwise (fun x y _ _ hx hy=>by simp at hx hy;omega) (hp a) (hp b)
theorem yP.keys{R:Value->TR->Prop}:∀ {m:List (Int × Value)} {l:List (Int × TR)},yP R m l->m.map (·.1)=l.map (·.1)
 | [],[],_=>rfl
 | _::_,_::_,h=>by simp[h.1,yP.keys h.2.2]
theorem qFh(h:St w0 w (L.bl q s++H))(hL:L.Ok w0 q s)(hn:s.items.length<1000000)
  (hK:∀ w' ov N,zx 1 24 ov (vF s).length ((vF s).map U) N->qF w0 N->St w0 w' (N++(L.bl q s++H))->K ov w'):q9 P 27 [.pointer (some ⟨q.cb,0,none⟩)] w K:=by
 refine qI1 _ _ _ ?_
 rw[qG0]
 refine Qr h ⟨_,rfl,?_⟩
 simp only[qb]
 rw[qqC]
 refine⟨some q.ib,by rw[qa];exact h.cell (k:=1) rfl,?_⟩
 refine qJh _ _ _ ?_
 rw[qHB]
 refine h.newC fun n1 w2 hn1 h2=>⟨_,rfl,?_⟩
 have h2:St w0 w2 ((n1,Cs [.map (some q.ib)] 105)::(L.bl q s++H)):=h2
 refine qGV _ _ _ ?_
 rw[qHZ]
 obtain⟨m,hm,hlike⟩:=hL.its
 have hks:∀ e∈L.ies.toList,∃ k:Int,e.key=.int .u32 k:=fun e he=>by
  obtain⟨p,_,hp,_⟩:=hm.pair' he
  exact⟨p.1,hp⟩
 refine qdW (mb:=q.ib) (t1:=105) h2 (.head _) (.tail _ (.tail _ (.tail _ (.head _)))) hm.st hks (by rw[hm.size,hlike.length];omega) fun w' a c ks N hp hS hN h3=>⟨_,_,_,rfl,?_⟩
 have hperm:ks.Perm (s.items.map (·.1)):=by
  have h4:(L.ies.toList.map (·.key)).Perm ((m.map (·.1)).map jS):=by
   have:=hm.perm.map (·.1)
   rw[List.map_map,List.map_map]at this
   rw[List.map_map]
   exact this
  have h5:=hp.symm.trans h4
  have:=vJ (f:=jS) (fun a b e=>by injection e) h5
  rw[<-yP.keys hlike]
  exact this
 have hle:ks.length=(vF s).length:=by
  rw[hperm.length_eq]
  unfold vF
  rw[yM]
 have hsl:ks.length<1000000:=by rw[hle];unfold vF;rw[yM,List.length_map];omega
 refine qbJ h3 hS hsl fun w5 N' h6 h7 h8=>⟨rfl,?_⟩
 have hso:ks.mergeSort (fun x y=>decide (x<=y))=vF s:=zV hperm
 rw[hso,hle]at h6
 have h9:St w0 w5 ((n1,Cs [.map (some q.ib)] 105)::(N'++(L.bl q s++H))):=h8.perm (qn fun c=>by simp only[List.map_append,List.map_cons,List.sum_append,List.sum_cons];omega)
 have:=hK w5 _ N' h6 (h7 hN) (h9.tail hn1)
 rw[hle]
 exact⟨_,_,_,rfl,this⟩
end Go.Fx.Tryz
namespace Go.Fx.Tryz
open Go Go.Fx Go.Fx.Ch
open Go.Proofs
set_option linter.all false
set_option maxRecDepth 20000
variable {w0 w:World} {H X:qE} {K:KT} {s:qd} {L:qQ} {q:LB}
theorem q9A(z:Value)(hz:z.cells=#[z])(n:Nat):madeCells z.cells n=(List.replicate n z).toArray:=by
 apply Array.ext
 ·simp[madeCells]
 ·intro i h1 h2
  simp[madeCells,hz,Nat.mod_one]
theorem qO2{sl:Nat}(hs:sl<=65536){Q:Option Addr->Nat->Nat->World->Prop}(h:St w0 w X)
  (hQ:∀ g w',w0.heap.size<=g->St w0 w' ((g,Cs (List.replicate sl (U 0)) 24)::X)->Q (some ⟨g,0,none⟩) sl sl w') :
  ∃ (a:Option Addr) (l c:Nat),∃ w':World,(Instr.makeSlice 22 (.int .i64 (sl:Nat)) (.int .i64 (sl:Nat))).run P w=.ok (.slice a l c) w'/\Q a l c w':=by
 have hr:=run_make (P:=P) w 22 24 Tryz.t24 (U 0) Tryz.underlying22 kr rfl .i64 .i64 sl sl om om (by show((4:Nat):Int)*_<=_;omega) om
 simp only[Int.toNat_natCast]at hr
 rw[show Tryz.t24.size=1 from rfl,Nat.mul_one,q9A _ rfl]at hr
 exact⟨_,_,_,_,hr,hQ _ _ h.le (h.alloc _)⟩
theorem qMe{sec:Nat}(hs:sec<=16){Q:Option Addr->Nat->Nat->World->Prop}(h:St w0 w X)
  (hQ:∀ g w',w0.heap.size<=g->St w0 w' ((g,Cs (List.replicate sec (.slice none 0 0)) 22)::X)->Q (some ⟨g,0,none⟩) sec sec w') :
  ∃ (a:Option Addr) (l c:Nat),∃ w':World,(Instr.makeSlice 106 (.int .i64 (sec:Nat)) (.int .i64 (sec:Nat))).run P w=.ok (.slice a l c) w'/\Q a l c w':=by
 have hr:=run_make (P:=P) w 106 22 Tryz.t22 (.slice none 0 0) Tryz.underlying106 kr rfl .i64 .i64 sec sec om om (by show((24:Nat):Int)*_<=_;omega) om
 simp only[Int.toNat_natCast]at hr
 rw[show Tryz.t22.size=1 from rfl,Nat.mul_one,q9A _ rfl]at hr
 exact⟨_,_,_,_,hr,hQ _ _ h.le (h.alloc _)⟩
abbrev zB(sec len sl:Int):List Value:=[J sec,J len,J sl]
theorem qMR{n1:Nat}{sec len sl:Int}(h:St w0 w X)(hm:(n1,Cs (zB sec len sl) 27)∈X):w.cell? (Addr.mk n1 0 none)=some (J sec):=by rw[qw (h.has _ _ hm)];rfl
theorem qMM{n1:Nat}{sec len sl:Int}(h:St w0 w X)(hm:(n1,Cs (zB sec len sl) 27)∈X):w.cell? ((Addr.mk n1 0 none).add 2)=some (J sl):=by rw[qa,qw (h.has _ _ hm)];rfl
theorem qLD{n1:Nat}{sec len sl:Int}(h:St w0 w X)(hm:(n1,Cs (zB sec len sl) 27)∈X):Qz 3 (Addr.mk n1 0 none) #[J sec,J len,J sl] w:=fun i hi=>by
 rw[qa,qw (h.has _ _ hm),Nat.zero_add]
 match i,hi with
 | 0,_ | 1,_ | 2,_=>rfl
theorem qsB(sec len sl:Int)(ib hb rb tb n m:Nat)(wq:World):(Instr.build 109 [(0,(Value.agg #[J sec,J len,J sl])),(1,(Value.map (some ib))),(2,(Value.slice (some (Addr.mk rb 0 none)) n n)),(3,(Value.slice (some (Addr.mk tb 0 none)) m m)),(4,(Value.map (some hb)))].toArray).run P wq =
  .ok (.agg #[J sec,J len,J sl,.map (some ib),.slice (some ⟨rb,0,none⟩) n n,.slice (some ⟨tb,0,none⟩) m m,.map (some hb),J 0,U 0,J 0,J 0]) wq:=kr
theorem jY.empty:∀ n:Nat,jY (List.replicate n []) (List.replicate n (.slice none 0 0,[]))
 | 0=>trivial
 | n+1=>⟨zx.nil 1 24,jY.empty n⟩
theorem YE{α:Type}:∀ n:Nat,((List.replicate n ((Value.slice none 0 0),([]:List α))).map (·.2)).flatten=[]
 | 0=>rfl
 | n+1=>by rw[List.replicate_succ,List.map_cons,List.flatten_cons,YE n];rfl
theorem JH{sec k:Nat}{len:Int}(h0:1<=sec)(h16:sec<=16)(hk4:4<=k)(hk16:k<=16)
  (hK:∀ (w':World) (q:LB) (L:qQ),L.Ok w0 q (vO sec len k)->St w0 w' (L.bl q (vO sec len k)++H)->K (.pointer (some ⟨q.cb,0,none⟩)) w')
  {n1 ib hb rb tb:Nat} (h1:w0.heap.size<=n1) (h2:w0.heap.size<=ib) (h3:w0.heap.size<=hb) (h4:w0.heap.size<=rb) (h5:w0.heap.size<=tb) (h:St w0 w X)
  (hp:X.Perm ((n1,Cs (zB sec len (2 ^ k:Nat)) 27)::(tb,Cs (List.replicate (2 ^ k) (U 0)) 24)::(ib,.map #[] 0)::(hb,.map #[] 0)::(rb,Cs (List.replicate sec (.slice none 0 0)) 22)::H)) :
  ∃ cs14:Array Value,(∀ wq,(Instr.build 109 [(0,(Value.agg #[J sec,J len,J (2 ^ k:Nat)])),(1,(Value.map (some ib))),(2,(Value.slice (some (Addr.mk rb 0 none)) sec sec)),(3,(Value.slice (some (Addr.mk tb 0 none)) (2 ^ k) (2 ^ k))),(4,(Value.map (some hb)))].toArray).run P wq=.ok (Value.agg cs14) wq)/\qv cs14 109 w (fun n15 w16=>zG (Addr.mk n15 0 none) w16 K):=by
 refine⟨_,fun wq=>qsB sec len (2 ^ k:Nat) ib hb rb tb sec (2 ^ k) wq,?_⟩
 have h':=(h.perm hp).tail h1
 refine h'.newC fun n15 w16 hn15 h16'=>?_
 rw[qqh]
 refine hK w16 ⟨n15,ib,hb,rb,tb⟩ ⟨#[],0,#[],0,[],List.replicate sec (.slice none 0 0,[]),[]⟩ ⟨hn15,h2,h3,h4,h5,?_,⟨[],MapIs.empty,trivial⟩,MapIs.empty,rfl,by simp,jY.empty sec,hk4,hk16,?_,?_,?_⟩ ?_
 ·unfold qQ.rest;rw[YE];simp[qF]
 ·simp[vO]
 ·simp[vO];omega
 ·simp[vO];omega
 ·have e:CCs (vO sec len k) ib hb rb tb=[J sec,J len,J (2 ^ k:Nat),.map (some ib),.slice (some ⟨rb,0,none⟩) sec sec,.slice (some ⟨tb,0,none⟩) (2 ^ k) (2 ^ k),.map (some hb),J 0,U 0,J 0,J 0]:=by simp[CCs,vO]
  have e2:((vO sec len k).table.map U)=List.replicate (2 ^ k) (U 0):=by simp[vO]
  unfold qQ.bl qQ.b4 qQ.rest
  dsimp only
  rw[YE,e,e2,List.map_replicate]
  have h17:St w0 w16 ((n15,Cs [J sec,J len,J (2 ^ k:Nat),.map (some ib),.slice (some ⟨rb,0,none⟩) sec sec,.slice (some ⟨tb,0,none⟩) (2 ^ k) (2 ^ k),.map (some hb),J 0,U 0,J 0,J 0] 109)::(tb,Cs (List.replicate (2 ^ k) (U 0)) 24)::(ib,.map #[] 0)::(hb,.map #[] 0)::(rb,Cs (List.replicate sec (.slice none 0 0)) 22)::H):=h16'
  exact h17.perm (qn fun c=>by simp only[List.map_nil,List.append_nil,List.nil_append,List.map_cons,List.cons_append,List.sum_cons];omega)
theorem qw1{sec k:Nat}{len:Int}(h:St w0 w H)(h0:1<=sec)(h16:sec<=16)(hk4:4<=k)(hk16:k<=16)
  (hK:∀ (w':World) (q:LB) (L:qQ),L.Ok w0 q (vO sec len k)->St w0 w' (L.bl q (vO sec len k)++H)->K (.pointer (some ⟨q.cb,0,none⟩)) w'):q9 P 52 [.agg #[J sec,J len,J (2 ^ k:Nat)]] w K:=by
 refine qIk _ _ _ ?_
 rw[qIi]
 refine h.newC fun n1 w2 hn1 h2=>?_
 have h2:St w0 w2 ((n1,Cs (zB sec len (2 ^ k:Nat)) 27)::H):=h2
 have h3:=h2.drew
 refine h3.ldA (k:=0) rfl (by simp) ⟨_,h3.cell (k:=0) rfl,_,by rw[qa];exact h3.cell (k:=0) rfl,?_⟩
 have fin:=@JH w0
 have hsl:2 ^ k<=65536:=(zo hk4 hk16).2
 repeat' first
  | exact St.newO (by assumption) fun n w hn h=>by
    refine JH h0 h16 hk4 hk16 hK (n1:=n1) ?_ ?_ ?_ ?_ ?_ h (qn fun c=>by simp only[List.map_cons,List.sum_cons];omega)<;>assumption
  | exact JH h0 h16 hk4 hk16 hK (n1:=n1) (by assumption) (by assumption) (by assumption) (by assumption) (by assumption) (by assumption) (qn fun c=>by simp only[List.map_cons,List.sum_cons];omega)
  | refine St.newO (by assumption) fun n w hn h=>?_
  | refine qO2 hsl (by assumption) fun g w hg h=>?_
  | refine qMe h16 (by assumption) fun g w hg h=>?_
  | refine⟨qMR (sec:=sec) (len:=len) (sl:=(2 ^ k:Nat)) (by assumption) (by simp),?_⟩
  | refine⟨qMM (sec:=sec) (len:=len) (sl:=(2 ^ k:Nat)) (by assumption) (by simp),?_⟩
  | refine⟨qLD (sec:=sec) (len:=len) (sl:=(2 ^ k:Nat)) (by assumption) (by simp),?_⟩
  | refine⟨?_,?_⟩
theorem qi2{sec len slots:Int}(h:St w0 w H)
  (hF:zj sec len slots=false->∀ w',St w0 w' H->K (.tuple [.pointer none,J 1].toArray) w')
  (hK:∀ (n k:Nat),sec=n->slots=(2 ^ k:Nat)->1<=n->n<=16->4<=k->k<=16->256<=len->len<=1048576->zj sec len slots=true->∀ (w':World) (q:LB) (L:qQ),L.Ok w0 q (vO n len k)->St w0 w' (L.bl q (vO n len k)++H)->K (.tuple [.pointer (some ⟨q.cb,0,none⟩),J 0].toArray) w'):q9 P 16 [.agg #[J sec,J len,J slots]] w K:=by
 refine qJj _ _ _ ?_
 rw[qHn]
 refine h.newC fun n1 w2 hn1 h2=>?_
 have h2:St w0 w2 ((n1,Cs (zB sec len slots) 27)::H):=h2
 refine h2.ldA (k:=0) rfl (by simp) ?_
 refine qrS h2 fun w5 h5=>⟨_,rfl,?_⟩
 cases hc:zj sec len slots with
 | false=>
  simp only[Bool.not_false,qe]
  exact hF hc w5 (h5.tail hn1)
 | true=>
  simp only[Bool.not_true,qb]
  rw[qp4]
  refine h5.ldA (k:=0) rfl (by simp) ?_
  have hc2:=hc
  unfold zj at hc2
  simp only[Bool.and_eq_true,decide_eq_true_eq]at hc2
  obtain⟨n,rfl⟩:=Int.eq_ofNat_of_zero_le (show(0:Int)<=sec by omega)
  obtain⟨k,hk,hsl⟩:∃ k,k∈[4,5,6,7,8,9,10,11,12,13,14,15,16]/\slots=2 ^ k:=by
   have:=hc2.2
   simpa using this
  have hk2:4<=k/\k<=16:=by
   simp only[List.mem_cons,List.not_mem_nil,or_false]at hk
   omega
  have hsl2:slots=(2 ^ k:Nat):=by rw[hsl,Int.natCast_pow];rfl
  subst hsl2
  refine qw1 h5 om om hk2.1 hk2.2 fun w10 q L hL h10=>⟨_,rfl,?_⟩
  have h11:St w0 w10 ((n1,Cs (zB (n:Int) len (2 ^ k:Nat)) 27)::(L.bl q (vO n len k)++H)):=h10.perm (qn fun c=>by simp only[List.map_append,List.map_cons,List.sum_append,List.sum_cons];omega)
  exact hK n k rfl rfl om om hk2.1 hk2.2 om om hc w10 q L hL (h11.tail hn1)
end Go.Fx.Tryz
namespace Go.Fx.Ch
structure Fit (s:qd):Prop where
 rows:∀ r∈s.rows,r.length<1000000
 ev0:0<=s.ev
 ev1:s.ev<1099511627776
 items:s.items.length<1000000
 table:∀ x∈s.table,j9 x
def EvR(n:Nat):Nat->Nat->qd->Prop
 | 0,g,s=>Fit s/\g<1000000/\jr s n=false
 | m+1,g,s=>Fit s/\g<1000000/\(jr s n=true->∀ s2,zp (qy s) (zO (qy s)) s2->EvR n m (g+(zO (qy s)).length) { s2 with ev:=s2.ev+(zO (qy s)).length })
theorem EvR.fit{n m g:Nat}{s:qd}(h:EvR n m g s):Fit s/\g<1000000:=by
 cases m with
 | zero=>exact⟨h.1,h.2.1⟩
 | succ m=>exact⟨h.1,h.2.1⟩
theorem zp.conf{s s':qd}{l:List Int}(h:zp s l s'):s'.len=s.len/\s'.k=s.k/\s'.cur=s.cur/\s'.given=s.given/\s'.ev=s.ev/\s'.dr=s.dr/\s'.rows.length=s.rows.length:=by
 induction h with
 | nil=>exact⟨rfl,rfl,rfl,rfl,rfl,rfl,rfl⟩
 | @cons s s' id l order ho _ ih=>
  have hf:∀ (l:List (Int × Int)) (s:qd),(qO id l s).len=s.len/\(qO id l s).k=s.k/\(qO id l s).cur=s.cur/\(qO id l s).given=s.given/\(qO id l s).ev=s.ev/\(qO id l s).dr=s.dr/\(qO id l s).rows=s.rows:=by
   intro l
   induction l with
   | nil=>exact fun s=>⟨rfl,rfl,rfl,rfl,rfl,rfl,rfl⟩
   | cons p l ih=>exact fun s=>ih _
  have hd:∀ (l:List EX) (s:qd),(qM id l s).len=s.len/\(qM id l s).k=s.k/\(qM id l s).cur=s.cur/\(qM id l s).given=s.given/\(qM id l s).ev=s.ev/\(qM id l s).dr=s.dr/\(qM id l s).rows=s.rows:=by
   intro l
   induction l with
   | nil=>exact fun s=>⟨rfl,rfl,rfl,rfl,rfl,rfl,rfl⟩
   | cons p l ih=>
    intro s
    unfold qM
    split
    ·exact ih _
    ·exact ih _
  obtain⟨a1,a2,a3,a4,a5,a6,a7⟩:=hf order s
  obtain⟨b1,b2,b3,b4,b5,b6,b7⟩:=hd (qC (qO id order s).items id) (qO id order s)
  obtain⟨c1,c2,c3,c4,c5,c6,c7⟩:=ih
  refine⟨c1.trans (b1.trans a1),c2.trans (b2.trans a2),c3.trans (b3.trans a3),c4.trans (b4.trans a4),c5.trans (b5.trans a5),c6.trans (b6.trans a6),?_⟩
  rw[c7]
  show(List.map _ (qM id _ _).rows).length=_
  rw[List.length_map,b7,a7]
end Go.Fx.Ch
namespace Go.Fx.Tryz
open Go Go.Fx Go.Fx.Ch
open Go.Proofs
set_option linter.all false
set_option maxRecDepth 20000
variable {w0 w:World} {H X:qE} {K:KT} {s:qd} {L:qQ} {q:LB}
theorem qQ.Ok.setCur(hL:L.Ok w0 q s){c:Nat}(hc:c<s.rows.length):L.Ok w0 q { s with cur:=c }:=
 ⟨hL.nc,hL.ni,hL.nh,hL.nr,hL.nt,hL.new,hL.its,hL.hm,hL.hs,hL.inn,hL.rows,hL.k4,hL.k16,hL.tl,hL.rl,hc⟩
theorem qQ.Ok.setEv(hL:L.Ok w0 q s)(e:Int):L.Ok w0 q { s with ev:=e }:=
 ⟨hL.nc,hL.ni,hL.nh,hL.nr,hL.nt,hL.new,hL.its,hL.hm,hL.hs,hL.inn,hL.rows,hL.k4,hL.k16,hL.tl,hL.rl,hL.cur⟩
theorem qQ.Ok.setDr(hL:L.Ok w0 q s)(e:Int):L.Ok w0 q { s with dr:=e }:=
 ⟨hL.nc,hL.ni,hL.nh,hL.nr,hL.nt,hL.new,hL.its,hL.hm,hL.hs,hL.inn,hL.rows,hL.k4,hL.k16,hL.tl,hL.rl,hL.cur⟩
theorem qC3(h:St w0 w (L.bl q s++H))(hL:L.Ok w0 q s)(hK:K (J (vj s:Nat)) w):q9 P 59 [.pointer (some ⟨q.cb,0,none⟩)] w K:=by
 have hp:=zo hL.k4 hL.k16
 refine qtH (slots:=((2 ^ s.k:Nat):Int)) (by rw[qa];exact h.cell (k:=1) rfl) om om ?_
 have e:((2 ^ s.k:Nat):Int) / 4*3=((vj s:Nat):Int):=by unfold vj;omega
 rw[e];exact hK
theorem qoZ{n4:Nat}{t:List Value}{x1 x2:Int}{ga:Option Addr}{gc:Nat}{gone:List Int}{N:qE}{Y:YT}
  (hg:zA H) (hn4:w0.heap.size<=n4) (hL:L.Ok w0 q (qy s)) (hrow:∀ r∈s.rows,r.length<1000000) (hev0:0<=s.ev) (hev1:s.ev<1099511627776) (hgl:gone.length<1000000)
  (hS:zx 1 24 (.slice ga gone.length gc) gone.length (gone.map U) N) (hN:qF w0 N)
  (h:St w0 w (L.bl q (qy s)++(N++((n4,Cs t 41)::H))))
  (hY:∀ (w':World) (L':qQ) (s2:qd) (ga':Option Addr) (gc':Nat) (N':qE),zp (qy s) (zO (qy s)) s2->L'.Ok w0 q { s2 with ev:=s2.ev+(zO (qy s)).length }->
   zx 1 24 (.slice ga' (gone++zO (qy s)).length gc') (gone++zO (qy s)).length ((gone++zO (qy s)).map U) N'->qF w0 N'->
   St w0 w' (L'.bl q { s2 with ev:=s2.ev+(zO (qy s)).length }++(N'++((n4,Cs t 41)::H)))->
   Y (qi.mk 173 [(5,.slice ga' (gone++zO (qy s)).length gc'),(0,.pointer (some ⟨q.cb,0,none⟩)),(4,U x1),(6,J x2),(3,.pointer (some (Addr.mk n4 0 none)))] []) w') :
  q6O (some ⟨q.cb,0,none⟩) x1 x2 (Addr.mk n4 0 none) ga gone.length gc w K Y:=by
 rw[qgB]
 have hc:(qy s).cur<(qy s).rows.length:=hL.cur
 obtain⟨sa,sc,hrv,hrw⟩:=q7C (H:=N++((n4,Cs t 41)::H)) hL hc
 have hg2:zA (N++((n4,Cs t 41)::H)):=hg.mono fun u hu=>List.mem_append_right _ (.tail _ hu)
 refine⟨some ⟨q.rb,0,none⟩,(qy s).rows.length,(qy s).rows.length,by rw[qa];exact h.cell (k:=1) rfl,(qy s).cur,by rw[qa];exact h.cell (k:=1) rfl,by omega,by omega,sa,(qy s).rows[(qy s).cur].length,sc,?_,?_⟩
 ·rw[qa,Int.toNat_natCast,Nat.mul_one,Nat.zero_add]
  rw[h.drew.cell (k:=4) rfl];exact hrv
 have hrs:zO (qy s)=zL (qy s).rows[(qy s).cur]:=by unfold zO;rw[List.getElem?_eq_getElem hc];rfl
 have hlr:(qy s).rows[(qy s).cur].length<1000000:=hrow _ (List.getElem_mem hc)
 have hlr2:(zO (qy s)).length<1000000:=by rw[hrs,yM];exact hlr
 refine Js q5O h.drew hL hg2 hrw hlr fun w127 L' s2 ov' M hF hL' hSl hMN h127=>?_
 rw[<-hrs]at hF hSl
 obtain⟨la,lc,e⟩:=hSl.form
 subst e
 refine⟨_,_,_,rfl,?_⟩
 rw[qf9]
 have h128:St w0 w127 (L'.bl q s2++(M++(N++((n4,Cs t 41)::H)))):=h127.perm (qn fun c=>by simp only[List.map_append,List.map_cons,List.sum_append,List.sum_cons];omega)
 have hconf:=hF.conf
 have he2:s2.ev=s.ev:=hconf.2.2.2.2.1
 refine⟨s2.ev,by rw[qa];exact h128.cell (k:=1) rfl,?_⟩
 show zW ((Addr.mk q.cb 0 none).add 9) _ _ _
 rw[qa,qc om om]
 refine h128.st1 (k:=1) rfl (by simp[CCs]) rfl fun w138 h138=>?_
 have hL2:=hL'.setEv (s2.ev+(zO (qy s)).length)
 have h139:St w0 w138 (L'.bl q { s2 with ev:=s2.ev+(zO (qy s)).length }++(M++(N++((n4,Cs t 41)::H)))):=h138
 have h140:St w0 w138 ([]++(N++(M++(L'.bl q { s2 with ev:=s2.ev+(zO (qy s)).length }++((n4,Cs t 41)::H))))):=h139.perm (qn fun c=>by simp only[List.nil_append,List.map_append,List.map_cons,List.sum_append,List.sum_cons];omega)
 obtain⟨v',w',N',hr,hS2,h141,hN2⟩:=St.appendN (P:=P) 22 22 24 Tryz.t24 (U 0) 1 4 Tryz.underlying22 kr rfl rfl rfl rfl om h140 hS hN hSl (fun u hu=>h140.has _ _ (List.mem_append_right [] (List.mem_append_right N (List.mem_append_left _ hu)))) (qFI _) (by simp[maxLen];omega) om
 have hle:(gone++zO (qy s)).length=gone.length+(zO (qy s)).length:=List.length_append
 rw[<-hle,<-List.map_append]at hS2
 obtain⟨a',c',e⟩:=hS2.form
 subst e
 refine⟨_,_,_,w',hr,?_⟩
 have h142:St w0 w' (M++(L'.bl q { s2 with ev:=s2.ev+(zO (qy s)).length }++(N'++((n4,Cs t 41)::H)))):=h141.perm (qn fun c=>by simp only[List.nil_append,List.map_append,List.map_cons,List.sum_append,List.sum_cons];omega)
 exact hY w' L' s2 a' c' N' hF hL2 hS2 hN2 (h142.sub hMN)
end Go.Fx.Tryz
namespace Go.Fx.Ch
open Go.Fx.Tryz
def yv(s:qd)(t:TR):Int:=match zg t.code with
 | none=>170
 | some l=>if y6 t.sp=false\/(l.any fun e=>e.chain != 0)=true then 1 else if(zE s t.at_).1≠0 then 5 else if(t.code.length:Int) > s.len\/s.given=2147483647 then 2 else 0
theorem yg.conf{n:Nat}{s s':qd}{g:List Int}(h:yg n s g s'):s'.len=s.len/\s'.k=s.k/\s'.given=s.given/\s'.dr=s.dr/\s'.rows.length=s.rows.length:=by
 induction h with
 | done=>exact⟨rfl,rfl,rfl,rfl,rfl⟩
 | step _ hF _ ih=>
  obtain⟨a1,a2,a3,a4,a5⟩:=ih
  obtain⟨b1,b2,b3,b4,b5,b6,b7⟩:=hF.conf
  exact⟨a1.trans b1,a2.trans b2,a3.trans b4,a4.trans b6,a5.trans b7⟩
end Go.Fx.Ch
namespace Go.Fx.Tryz
open Go Go.Fx Go.Fx.Ch
open Go.Proofs
set_option linter.all false
set_option maxRecDepth 20000
variable {w0 w:World} {H X:qE} {K:KT} {s:qd} {L:qQ} {q:LB}
theorem qQ.Ok.setGiven(hL:L.Ok w0 q s)(e:Int):L.Ok w0 q { s with given:=e }:=
 ⟨hL.nc,hL.ni,hL.nh,hL.nr,hL.nt,hL.new,hL.its,hL.hm,hL.hs,hL.inn,hL.rows,hL.k4,hL.k16,hL.tl,hL.rl,hL.cur⟩
theorem qE9{ga:Option Addr}{gn gc:Nat}(hg:zA H)(hL:L.Ok w0 q s)(h:St w0 w (L.bl q s++H))
  (hK:∀ (w':World) (L':qQ),L'.Ok w0 q { s with table:=v8 s s.given }->St w0 w' (L'.bl q { s with table:=v8 s s.given }++H)->K (.tuple [U s.given,.slice ga gn gc,J 0].toArray) w') :
  q0x ga gn gc (some ⟨q.cb,0,none⟩) w K:=by
 rw[qd6]
 refine⟨s.given,by rw[qa];exact h.cell (k:=1) rfl,?_⟩
 have h1:St w0 w ((q.tb,Cs (s.table.map U) 24)::(L.b4 q s++H)):=h
 refine qqX (G:=L.G) h1 (hL.knownC hg) (fun u hu=>List.mem_append_left _ (.tail _ (.tail _ (.tail _ (.tail _ (List.mem_append_right _ (List.mem_append_right _ hu))))))) fun w' h'=>⟨rfl,?_⟩
 have h2:St w0 w' (L.bl q { s with table:=v8 s s.given }++H):=h'
 refine⟨s.given,by rw[qa];exact h2.cell (k:=1) rfl,?_⟩
 have hlen:(v8 s s.given).length=2 ^ s.k:=by unfold v8;rw[YP];exact hL.tl
 exact hK w' L ⟨hL.nc,hL.ni,hL.nh,hL.nr,hL.nt,hL.new,hL.its,hL.hm,hL.hs,hL.inn,hL.rows,hL.k4,hL.k16,hlen,hL.rl,hL.cur⟩ h2
theorem qEV{ga:Option Addr}{gn gc:Nat}(hg:zA H)(hL:L.Ok w0 q s)(hr:(s.rows[s.cur]'hL.cur).length<1000000)(h:St w0 w (L.bl q s++H))
  (hK:∀ (w':World) (L':qQ),L'.Ok w0 q { s with rows:=s.rows.modify s.cur fun r=>r++[s.given] }->St w0 w' (L'.bl q { s with rows:=s.rows.modify s.cur fun r=>r++[s.given] }++H)->q0x ga gn gc (some ⟨q.cb,0,none⟩) w' K) :
  q6N ga gn gc (some ⟨q.cb,0,none⟩) w K:=by
 rw[qfc]
 have hc:=hL.cur
 obtain⟨a,v,b,e0,hal,hv,hset⟩:=hL.rows.split (List.getElem?_eq_getElem hc)
 generalize hrr:s.rows[s.cur]=r at *
 obtain⟨sa,sc,hsv⟩:=hv.form
 have hrv:(L.rv.map (·.1))[s.cur]?=some (.slice sa r.length sc):=by
  rw[e0,List.map_append,List.getElem?_append_right (by simp;omega)]
  simp[hal,hsv]
 have h1:=h.drew
 have cR:∀ {w2:World} {Z:qE},St w0 w2 (L.bl q s++Z)->w2.cell? ((Addr.mk q.rb 0 none).add (Int.toNat (s.cur:Int)*1))=some (.slice sa r.length sc):=fun {w2 Z} h2=>by
  rw[qa,Int.toNat_natCast,Nat.mul_one,Nat.zero_add,h2.cell (k:=4) rfl];exact hrv
 refine⟨some ⟨q.rb,0,none⟩,s.rows.length,s.rows.length,by rw[qa];exact h1.cell (k:=1) rfl,s.cur,by rw[qa];exact h1.cell (k:=1) rfl,some ⟨q.rb,0,none⟩,s.rows.length,s.rows.length,by rw[qa];exact h1.cell (k:=1) rfl,s.cur,by rw[qa];exact h1.cell (k:=1) rfl,by omega,by omega,sa,r.length,sc,cR h1,s.given,by rw[qa];exact h1.cell (k:=1) rfl,⟨rfl,trivial⟩,?_⟩
 refine h1.newC fun n176 w174 hn176 h174=>?_
 have h174:St w0 w174 ((n176,Cs [U s.given] 24)::(L.bl q s++H)):=h174
 have h175:St w0 w174 (L.bl q s++((n176,Cs [U s.given] 24)::H)):=h174.perm (qn fun c=>by simp only[List.map_append,List.map_cons,List.sum_append,List.sum_cons];omega)
 refine⟨cR h175,by rw[qa];exact h175.cell (k:=1) rfl,by rw[qa];exact h175.cell (k:=1) rfl,by rw[qa];exact h175.cell (k:=1) rfl,by rw[qa];exact h175.cell (k:=1) rfl,?_⟩
 have hnew:qF w0 (L.rv.map (·.2)).flatten:=qF.left hL.new
 rw[e0]at hnew
 simp only[List.map_append,List.map_cons,List.flatten_append,List.flatten_cons]at hnew
 have h176:St w0 w174 ([(n176,Cs [U s.given] 24)]++(v.2++(({ L with rv:=a++(v.1,[])::b }:qQ).bl q s++H))):=by
  have:=h174.perm (qQ.takeR (A:=[(n176,Cs [U s.given] 24)]) e0)
  exact this.perm (qn fun c=>by simp only[List.nil_append,List.map_append,List.map_cons,List.map_nil,List.sum_append,List.sum_cons,List.sum_nil];omega)
 obtain⟨g,cap,w178,X,hrun,hX,h178,hXN⟩:=St.append (P:=P) 22 22 24 Tryz.t24 (U 0) 1 4 Tryz.underlying22 kr rfl rfl rfl rfl om (A:=[(n176,Cs [U s.given] 24)]) (news:=[U s.given]) h176 hv (qF.left (qF.right hnew)) (j:=0) rfl rfl (fun u hu=>by rw[List.mem_singleton.1 hu];rfl) (by simp[maxLen];omega) om
 rw[hsv]at hrun
 have h179:St w0 w178 (({ L with rv:=a++(v.1,[])::b }:qQ).bl q s++(X++((n176,Cs [U s.given] 24)::H))):=h178.perm (qn fun c=>by simp only[List.nil_append,List.map_append,List.map_cons,List.map_nil,List.sum_append,List.sum_cons,List.sum_nil];omega)
 refine⟨_,_,_,w178,hrun,by rw[qa];exact h179.cell (k:=1) rfl,by rw[qa];exact h179.cell (k:=1) rfl,by omega,by omega,?_⟩
 show zW ((Addr.mk q.rb 0 none).add _) _ _ _
 rw[qa,Int.toNat_natCast,Nat.mul_one,Nat.zero_add]
 refine h179.st1 (k:=4) rfl (by simp;omega) rfl fun w180 h180=>?_
 have hse:((a++(v.1,([]:qE))::b).map (·.1)).set s.cur (.slice (some ⟨g,0,none⟩) (r.length+1) cap)=(a++(.slice (some ⟨g,0,none⟩) (r.length+1) cap,([]:qE))::b).map (·.1):=by
  rw[List.map_append,List.set_append_right _ _ (by simp;omega)]
  simp[hal]
 have h258:St w0 w180 (({ L with rv:=a++(.slice (some ⟨g,0,none⟩) (r.length+1) cap,[])::b }:qQ).bl q s++(X++((n176,Cs [U s.given] 24)::H))):=by
  have h257:St w0 w180 (((q.tb,Cs (s.table.map U) 24)::(q.cb,Cs (CCs s q.ib q.hb q.rb q.tb) 109)::(q.ib,.map L.ies L.iclk)::(q.hb,.map L.hes L.hclk)::(q.rb,Cs (((a++(v.1,([]:qE))::b).map (·.1)).set s.cur (.slice (some ⟨g,0,none⟩) (r.length+1) cap)) 22)::({ L with rv:=a++(v.1,[])::b }:qQ).rest)++(X++((n176,Cs [U s.given] 24)::H))):=h180
  rw[hse]at h257
  refine h257.perm (qn fun c=>?_)
  simp only[qQ.bl,qQ.b4,qQ.rest,List.cons_append,List.nil_append,List.map_append,List.map_cons,List.flatten_append,List.flatten_cons,List.sum_append,List.sum_cons]
 have h259:St w0 w180 (X++([(n176,Cs [U s.given] 24)]++(({ L with rv:=a++(.slice (some ⟨g,0,none⟩) (r.length+1) cap,[])::b }:qQ).bl q s++H))):=h258.perm (qn fun c=>by simp only[List.nil_append,List.map_append,List.map_cons,List.map_nil,List.sum_append,List.sum_cons,List.sum_nil];omega)
 have h260:=(h259.perm qQ.giveR).tail hn176
 have hrows:=hset (r++[s.given]) (.slice (some ⟨g,0,none⟩) (r.length+1) cap,X) (by simpa using hX)
 have hmod:s.rows.set s.cur (r++[s.given])=s.rows.modify s.cur fun r=>r++[s.given]:=by
  apply List.ext_getElem?
  intro j
  rw[List.getElem?_set,List.getElem?_modify]
  by_cases hj:s.cur=j
  ·subst hj
   rw[if_pos rfl,if_pos hc,List.getElem?_eq_getElem hc,hrr]
   simp
  ·rw[if_neg hj]
   simp[hj]
 rw[hmod]at hrows
 have hml:(s.rows.modify s.cur fun r=>r++[s.given]).length=s.rows.length:=List.length_modify ..
 have hok:=hL.setR hrows hml (by
  simp only[List.map_append,List.map_cons,List.flatten_append,List.flatten_cons]
  exact qF.append (qF.left hnew) (qF.append hXN (qF.right (qF.right hnew))))
 refine hK w180 _ hok ?_
 rw[qQ.bl_rows hml]
 exact h260
theorem qyE{n4:Nat}{t:TR}{sv cv:Value}{ga:Option Addr}{gc:Nat}{gone:List Int}{N:qE}(hg:zA H)(hn4:w0.heap.size<=n4)(hS:jZ w0 H sv t.sp)(hB:yl w0 H cv t.code)(ha0:0<=t.at_)(ha1:t.at_<4294967296)
  (hL:L.Ok w0 q s) (hfit:Fit s) (hgl:gone.length<1000000) (hgv0:0<=s.given) (hgv1:s.given<2147483647) (hSl:zx 1 24 (.slice ga gone.length gc) gone.length (gone.map U) N) (hN:qF w0 N)
  (h:St w0 w (L.bl q s++(N++((n4,Cs (ya t.at_ sv cv) 41)::H))))
  (hK:∀ (w':World) (L':qQ) (N':qE),L'.Ok w0 q (zR s t)->zx 1 24 (.slice ga gone.length gc) gone.length ((zL gone).map U) N'->qF w0 N'->St w0 w' (N'++(L'.bl q (zR s t)++H))->K (.tuple [U (s.given+1),.slice ga gone.length gc,J 0].toArray) w') :
  q0M ga gone.length gc (some ⟨q.cb,0,none⟩) (Addr.mk n4 0 none) w K:=by
 rw[qiK]
 have h1:St w0 w (N++(L.bl q s++((n4,Cs (ya t.at_ sv cv) 41)::H))):=h.perm (qn fun c=>by simp only[List.map_append,List.map_cons,List.sum_append,List.sum_cons];omega)
 refine q5O _ _ _ _ _ gone hgl hSl hN h1 fun w145 N' hS' hN' h145=>⟨rfl,?_⟩
 have h146:St w0 w145 (L.bl q s++(N'++((n4,Cs (ya t.at_ sv cv) 41)::H))):=h145.perm (qn fun c=>by simp only[List.map_append,List.map_cons,List.sum_append,List.sum_cons];omega)
 refine⟨s.given,by rw[qa];exact h146.cell (k:=1) rfl,?_⟩
 show zW ((Addr.mk q.cb 0 none).add 8) _ _ _
 rw[qa,Zw om om]
 refine h146.st1 (k:=1) rfl (by simp[CCs]) rfl fun w149 h149=>?_
 have hL1:=hL.setGiven (s.given+1)
 have h150:St w0 w149 (L.bl q { s with given:=s.given+1 }++(N'++((n4,Cs (ya t.at_ sv cv) 41)::H))):=h149
 have h151:=h150.drew
 have hm4:(n4,Cs (ya t.at_ sv cv) 41)∈(L.bl q { s with given:=s.given+1 }++(N'++((n4,Cs (ya t.at_ sv cv) 41)::H))):=List.mem_append_right _ (List.mem_append_right _ (.head _))
 refine⟨some q.ib,by rw[qa];exact h151.cell (k:=1) rfl,s.given+1,by rw[qa];exact h151.cell (k:=1) rfl,q2V (h151.has _ _ hm4) (by simp[ya]) ?_⟩
 have hsub:∀ {w2:World},St w0 w2 (L.bl q { s with given:=s.given+1 }++(N'++((n4,Cs (ya t.at_ sv cv) 41)::H)))->St w0 w2 H:=fun h2=>(((h2.sub hL1.newB).sub hN').tail hn4)
 refine JB (l:=t.sp) (bs:=t.code) h151 ⟨fun w' h'=>hS.row w' (hsub h'),hS.len⟩ ⟨fun w' h'=>hB.row w' (hsub h'),hB.byte,hB.len,hB.cap⟩ fun w156 sv' cv' A M hSA hAN hSM hMN h156=>⟨_,rfl,?_⟩
 have h157:=qQ.addG (N:=M) (A:=A) (L:=L) (q:=q) (s:={ s with given:=s.given+1 }) h156
 have h158:=qQ.addG (N:=A) (A:=[]) (L:={ L with G:=M++L.G }) (q:=q) (s:={ s with given:=s.given+1 }) h157
 have hL2:=(hL1.addG hMN).addG hAN
 have h159:St w0 w156 (({ L with G:=A++(M++L.G) }:qQ).bl q { s with given:=s.given+1 }++(N'++((n4,Cs (ya t.at_ sv cv) 41)::H))):=h158
 have hv:q0m (A++(M++L.G)) (.agg (ya t.at_ sv' cv').toArray) t:=⟨⟨_,_,rfl,(Qw.of hSA hS.len).mono fun u hu=>List.mem_append_left _ hu,(jv.of hSM hB.byte hB.len).mono fun u hu=>List.mem_append_right _ (List.mem_append_left _ hu)⟩,ha0,ha1⟩
 obtain⟨es',clk',hr,hit⟩:=hL2.its.update hv (h159.get (k:=2) rfl) (s.given+1)
 refine⟨by rw[qa];exact h159.cell (k:=1) rfl,by rw[qa];exact h159.cell (k:=1) rfl,_,hr,?_⟩
 have h160:=h159.put (k:=2) rfl (.map es' clk')
 have hL3:=hL2.items hit
 have hg2:zA (N'++((n4,Cs (ya t.at_ sv cv) 41)::H)):=hg.mono fun u hu=>List.mem_append_right _ (.tail _ hu)
 refine qEV (s:={ s with given:=s.given+1,items:=pt s.items (s.given+1) t }) hg2 hL3 (hfit.rows _ (List.getElem_mem _)) h160 fun w180 L4 hL4 h180=>?_
 refine qE9 hg2 hL4 h180 fun w186 L5 hL5 h186=>?_
 have h187:St w0 w186 ((n4,Cs (ya t.at_ sv cv) 41)::(N'++(L5.bl q (zR s t)++H))):=St.perm (H:=L5.bl q (zR s t)++(N'++((n4,Cs (ya t.at_ sv cv) 41)::H))) h186 (qn fun c=>by simp only[List.map_append,List.map_cons,List.sum_append,List.sum_cons];omega)
 exact hK w186 L5 N' hL5 hS' hN' (h187.tail hn4)
theorem qIJ{n4:Nat}{t:TR}{sv cv:Value}(hg:zA H)(hn4:w0.heap.size<=n4)(hS:jZ w0 H sv t.sp)(hB:yl w0 H cv t.code)(ha0:0<=t.at_)(ha1:t.at_<4294967296)
  (hL:L.Ok w0 q s) {m:Nat} (hE:EvR t.code.length m 0 s) (hgv0:0<=s.given) (hgv1:s.given<2147483647)
  (h:St w0 w (L.bl q s++((n4,Cs (ya t.at_ sv cv) 41)::H)))
  (hK:∀ (w':World) (L':qQ) (gone:List Int) (s1:qd) (ov:Value) (N:qE),yg t.code.length s gone s1->L'.Ok w0 q (zR s1 t)->zx 1 24 ov gone.length ((zL gone).map U) N->qF w0 N->St w0 w' (N++(L'.bl q (zR s1 t)++H))->K (.tuple [U (s1.given+1),ov,J 0].toArray) w') :
  qcV none 0 0 (some ⟨q.cb,0,none⟩) 0 0 (Addr.mk n4 0 none) w K:=by
 obtain⟨ca,cc,e⟩:=(hB.row w ((h.sub hL.newB).tail hn4)).form
 subst e
 rw[qpF]
 refine⟨fun m e w=>∃ (L':qQ) (s':qd) (gone:List Int) (ga:Option Addr) (gc:Nat) (N:qE),e=qi.mk 173 [(5,.slice ga gone.length gc),(0,.pointer (some ⟨q.cb,0,none⟩)),(4,U 0),(6,J 0),(3,.pointer (some (Addr.mk n4 0 none)))] []/\
  EvR t.code.length m gone.length s'/\zx 1 24 (.slice ga gone.length gc) gone.length (gone.map U) N/\qF w0 N/\L'.Ok w0 q s'/\St w0 w (L'.bl q s'++(N++((n4,Cs (ya t.at_ sv (.slice ca t.code.length cc)) 41)::H)))/\∀ g s1,yg t.code.length s' g s1->yg t.code.length s (gone++g) s1,
  ⟨m,L,s,[],none,0,[],rfl,hE,zx.nil 1 24,qF.nil _,hL,h,fun g s1 h=>h⟩,?_⟩
 rintro m e w1 ⟨L',s',gone,ga,gc,N,rfl,hE,hSl,hN,hL',hs,hev⟩
 show q8G ..
 rw[q81]
 obtain⟨hfit,hgl⟩:=hE.fit
 have hcl:=hB.len
 have hm4:∀ {w2:World},St w0 w2 (L'.bl q s'++(N++((n4,Cs (ya t.at_ sv (.slice ca t.code.length cc)) 41)::H)))->w2.cell? ((Addr.mk n4 0 none).add 2)=some (.slice ca t.code.length cc):=fun {w2} h2=>by
  have:(n4,Cs (ya t.at_ sv (.slice ca t.code.length cc)) 41)∈(L'.bl q s'++(N++((n4,Cs (ya t.at_ sv (.slice ca t.code.length cc)) 41)::H))):=List.mem_append_right _ (List.mem_append_right _ (.head _))
  rw[qa,qw (h2.has _ _ this)];rfl
 have h1:=hs.drew
 have hc:=hL'.cur
 refine⟨s'.cur,by rw[qa];exact h1.cell (k:=1) rfl,ca,t.code.length,cc,hm4 h1,s'.len,by rw[qa];exact h1.cell (k:=1) rfl,?_⟩
 refine q4k h1 hL' hc (by have:=hfit.rows _ (List.getElem_mem hc);omega) fun w96 h96=>⟨_,rfl,by rw[qa];exact h96.cell (k:=1) rfl,hm4 h96,?_⟩
 have hfb:=yV (hL'.codeLen h96) s'.rows[s'.cur]
 have hfs:zw s' s'.cur=qT s'.items s'.rows[s'.cur]:=by unfold zw qT;rw[List.getElem?_eq_getElem hc];rfl
 have hrl:=hfit.rows _ (List.getElem_mem hc)
 rw[qc om om]
 have hlast:∀ s1:qd,yg t.code.length s gone s1->s1.given=s.given:=fun s1 h=>h.conf.2.2.1
 have yes:∀ w2,jr s' t.code.length=true->St w0 w2 (L'.bl q s'++(N++((n4,Cs (ya t.at_ sv (.slice ca t.code.length cc)) 41)::H)))->
   q19 true (some ⟨q.cb,0,none⟩) 0 0 (Addr.mk n4 0 none) ga gone.length gc w2 K (fun e' w'=>∃ m',m'<m/\∃ (L':qQ) (s':qd) (gone:List Int) (ga:Option Addr) (gc:Nat) (N:qE),e'=qi.mk 173 [(5,.slice ga gone.length gc),(0,.pointer (some ⟨q.cb,0,none⟩)),(4,U 0),(6,J 0),(3,.pointer (some (Addr.mk n4 0 none)))] []/\
    EvR t.code.length m' gone.length s'/\zx 1 24 (.slice ga gone.length gc) gone.length (gone.map U) N/\qF w0 N/\L'.Ok w0 q s'/\St w0 w' (L'.bl q s'++(N++((n4,Cs (ya t.at_ sv (.slice ca t.code.length cc)) 41)::H)))/\∀ g s1,yg t.code.length s' g s1->yg t.code.length s (gone++g) s1):=by
  intro w2 hfull h2
  rw[q1B,qe,qhZ]
  have h3:=h2.drew
  have hmod:(s'.cur+1) % s'.rows.length<s'.rows.length:=Nat.mod_lt _ om
  have hrlen:=hL'.rl
  refine⟨s'.cur,by rw[qa];exact h3.cell (k:=1) rfl,s'.rows.length,h3.cell (k:=1) rfl,by omega,?_⟩
  show zW ((Addr.mk q.cb 0 none).add 7) _ _ _
  rw[qa,qc om om]
  have htm:((s'.cur:Int)+1).tmod (s'.rows.length:Int)=(((s'.cur+1) % s'.rows.length:Nat):Int):=by
   rw[Int.tmod_eq_emod_of_nonneg om,Int.natCast_emod];rfl
  rw[htm]
  refine h3.st1 (k:=1) rfl (by simp[CCs]) rfl fun w114 h114=>?_
  have h115:St w0 w114 (L'.bl q (qy s')++(N++((n4,Cs (ya t.at_ sv (.slice ca t.code.length cc)) 41)::H))):=h114
  cases m with
  | zero=>
   have:=hE.2.2
   rw[this]at hfull;cases hfull
  | succ m=>
   refine qoZ hg hn4 (hL'.setCur hmod) hfit.rows hfit.ev0 hfit.ev1 hgl hSl hN h115 fun w' L2 s2 ga' gc' N' hF hL2 hS2 hN2 hs2=>?_
   refine⟨m,Nat.lt_succ_self m,L2,_,gone++zO (qy s'),ga',gc',N',rfl,?_,hS2,hN2,hL2,hs2,fun g s1 hg=>?_⟩
   ·rw[List.length_append];exact hE.2.2 hfull s2 hF
   ·rw[List.append_assoc]
    exact hev _ _ (.step hfull hF hg)
 have no:∀ w2,jr s' t.code.length=false->St w0 w2 (L'.bl q s'++(N++((n4,Cs (ya t.at_ sv (.slice ca t.code.length cc)) 41)::H)))->q0M ga gone.length gc (some ⟨q.cb,0,none⟩) (Addr.mk n4 0 none) w2 K:=by
  intro w2 hfull h2
  have hEv:=hev [] s' (.done hfull)
  rw[List.append_nil]at hEv
  have hgv:=hlast s' hEv
  refine qyE hg hn4 hS hB ha0 ha1 hL' hfit hgl om om hSl hN h2 fun w' L2 N' hok hS' hN' hs'=>?_
  exact hK w' L2 gone s' _ N' hEv hok hS' hN' hs'
 rw[qg]
 refine⟨fun hb=>?_,fun hb=>?_⟩
 ·refine yes w96 ?_ h96
  unfold jr
  rw[hb];rfl
 ·refine⟨some q.ib,by rw[qa];exact h96.cell (k:=1) rfl,s'.items.length,fun wq hx=>hL'.its.len (Jv hx (h96.get (k:=2) rfl)),?_⟩
  refine qC3 h96 hL' ⟨_,rfl,?_⟩
  have hdd:decide ((s'.items.length:Int)>=(vj s':Nat))=decide (vj s'<=s'.items.length):=by
   by_cases hx:vj s'<=s'.items.length
   ·rw[decide_eq_true hx,decide_eq_true om]
   ·rw[decide_eq_false hx,decide_eq_false om]
  rw[hdd]
  have hfe:jr s' t.code.length=decide (vj s'<=s'.items.length):=by
   unfold jr
   rw[hb];rfl
  cases hd:decide (vj s'<=s'.items.length)with
  | true=>rw[hd]at hfe;exact yes w96 hfe h96
  | false=>
   rw[hd]at hfe
   rw[q1B,qb]
   exact no w96 hfe h96
theorem qiS{t:TR}{sv cv:Value}(h:St w0 w (L.bl q s++H))(hL:L.Ok w0 q s)(hg:zA H)(hS:jZ w0 H sv t.sp)(hB:yl w0 H cv t.code)(ha:j9 t.at_)(hgv0:0<=s.given)(hgv1:s.given<=2147483647)
  (hE:yv s t=0->∃ m,EvR t.code.length m 0 s)
  (hF:yv s t≠0->∀ w',St w0 w' (L.bl q s++H)->K (.tuple [U 0,.slice none 0 0,J (yv s t)].toArray) w')
  (hK:yv s t=0->∀ (w':World) (L':qQ) (gone:List Int) (s1:qd) (ov:Value) (N:qE),yg t.code.length s gone s1->L'.Ok w0 q (zR s1 t)->zx 1 24 ov gone.length ((zL gone).map U) N->qF w0 N->St w0 w' (N++(L'.bl q (zR s1 t)++H))->K (.tuple [U (s1.given+1),ov,J 0].toArray) w') :
  q9 P 18 [.pointer (some ⟨q.cb,0,none⟩),.agg (ya t.at_ sv cv).toArray] w K:=by
 refine qH5 _ _ _ _ ?_
 obtain⟨sa,sc,e1⟩:=(hS.row w (h.sub hL.newB)).form
 obtain⟨ca,cc,e2⟩:=(hB.row w (h.sub hL.newB)).form
 subst e1;subst e2
 rw[qG2,qpf]
 refine h.newC fun n4 w5 hn4 h5=>?_
 have h5:St w0 w5 ((n4,Cs (ya t.at_ (.slice sa t.sp.length sc) (.slice ca t.code.length cc)) 41)::(L.bl q s++H)):=h5
 have h6:St w0 w5 (L.bl q s++((n4,Cs (ya t.at_ (.slice sa t.sp.length sc) (.slice ca t.code.length cc)) 41)::H)):=h5.perm (qn fun c=>by simp only[List.map_append,List.map_cons,List.sum_append,List.sum_cons];omega)
 have back:∀ {w2:World},St w0 w2 (L.bl q s++((n4,Cs (ya t.at_ (.slice sa t.sp.length sc) (.slice ca t.code.length cc)) 41)::H))->St w0 w2 ((n4,Cs (ya t.at_ (.slice sa t.sp.length sc) (.slice ca t.code.length cc)) 41)::(L.bl q s++H)):=fun {w2} h2=>h2.perm (qn fun c=>by simp only[List.map_append,List.map_cons,List.sum_append,List.sum_cons];omega)
 have hg2:zA ((n4,Cs (ya t.at_ (.slice sa t.sp.length sc) (.slice ca t.code.length cc)) 41)::H):=hg.mono fun u hu=>.tail _ hu
 have hS2:jZ w0 (L.bl q s++((n4,Cs (ya t.at_ (.slice sa t.sp.length sc) (.slice ca t.code.length cc)) 41)::H)) (.slice sa t.sp.length sc) t.sp:=⟨fun w' h'=>hS.row w' ((h'.sub hL.newB).tail hn4),hS.len⟩
 have hB2:yl w0 (L.bl q s++((n4,Cs (ya t.at_ (.slice sa t.sp.length sc) (.slice ca t.code.length cc)) 41)::H)) (.slice ca t.code.length cc) t.code:=⟨fun w' h'=>hB.row w' ((h'.sub hL.newB).tail hn4),hB.byte,hB.len,hB.cap⟩
 have fail:∀ {e:Int} {w2:World},yv s t=e->e≠0->St w0 w2 (L.bl q s++((n4,Cs (ya t.at_ (.slice sa t.sp.length sc) (.slice ca t.code.length cc)) 41)::H))->K (.tuple [U 0,.slice none 0 0,J e].toArray) w2:=fun {e w2} he hne h2=>by
  subst he
  exact hF hne w2 ((back h2).tail hn4)
 rw[qq7]
 refine Qr h6 ⟨_,rfl,?_⟩
 simp only[qb]
 rw[qr3]
 refine⟨ca,t.code.length,cc,by rw[qa];exact h5.cell (k:=0) rfl,?_⟩
 obtain⟨⟨gcs,gt,hg1,hgt⟩,hbits⟩:=hg2
 refine q3z h6 hB2 (List.mem_append_right _ hg1) hgt (fun w22 h22 hn=>⟨_,_,_,_,rfl,?_⟩) fun w22 xa xc N l hl hll h22 hN hSl=>⟨_,_,_,_,rfl,?_⟩
 ·rw[q4Q]
  simp only[show((170:Int) != 0)=true from rfl,qe]
  exact fail (by unfold yv;rw[hn]) (by decide) h22
 rw[q4Q]
 simp only[show((0:Int) != 0)=false from rfl,qb]
 rw[qr1]
 have hpe:yv s t=if y6 t.sp=false\/(l.any fun e=>e.chain != 0)=true then 1 else if(zE s t.at_).1≠0 then 5 else if(t.code.length:Int) > s.len\/s.given=2147483647 then 2 else 0:=by unfold yv;rw[hl]
 have hm4:∀ {w2:World} {Z:qE},St w0 w2 (Z++(L.bl q s++((n4,Cs (ya t.at_ (.slice sa t.sp.length sc) (.slice ca t.code.length cc)) 41)::H)))->w2.heap[n4]?=some (Cs (ya t.at_ (.slice sa t.sp.length sc) (.slice ca t.code.length cc)) 41):=fun {w2 Z} h2=>
  h2.has _ _ (List.mem_append_right _ (List.mem_append_right _ (.head _)))
 refine⟨sa,t.sp.length,sc,by rw[qa,qw (hm4 h22)];rfl,?_⟩
 refine qbv (l:=t.sp) h22 ⟨fun w' h'=>hS2.row w' (h'.sub hN),hS.len⟩ fun w48 h48=>⟨_,rfl,?_⟩
 have s5t:∀ {w2:World},(y6 t.sp=false\/(l.any fun e=>e.chain != 0)=true)->St w0 w2 (N++(L.bl q s++((n4,Cs (ya t.at_ (.slice sa t.sp.length sc) (.slice ca t.code.length cc)) 41)::H)))->q6g true none 0 0 (some ⟨q.cb,0,none⟩) 0 0 (Addr.mk n4 0 none) w2 K:=fun {w2} hc h2=>by
  rw[q4K,qe]
  exact fail (by rw[hpe,if_pos hc]) (by decide) (h2.sub hN)
 rw[qg]
 refine⟨fun hb=>s5t (.inl (by simpa using hb)) h48,fun hb=>?_⟩
 have hsp:y6 t.sp=true:=by simpa using hb
 have hcl:=hB.len
 refine Ym (l:=l) h48 (fun w' h'=>hSl.row fun u hu=>h'.has _ _ (List.mem_append_left _ hu)) om qIb fun w198 h198=>⟨_,rfl,?_⟩
 cases hch:(l.any fun e=>e.chain != 0)with
 | true=>exact s5t (.inr hch) h198
 | false=>
  have hno:¬ (y6 t.sp=false\/(l.any fun e=>e.chain != 0)=true):=by rw[hsp,hch];simp
  rw[if_neg hno]at hpe
  rw[q4K,qb,qqy]
  have h199:=h198.sub hN
  refine⟨t.at_,(back h199).cell (k:=0) rfl,?_⟩
  refine VO h199 hL (hg.mono fun u hu=>.tail _ hu) ha.1 ha.2 fun w63 h63=>⟨_,_,rfl,?_⟩
  rw[qg]
  refine⟨fun hx=>?_,fun hx=>?_⟩
  ·have hx:(zE s t.at_).1≠0:=by simpa using hx
   exact fail (by rw[hpe,if_pos hx]) (by decide) h63
  have hx:(zE s t.at_).1=0:=by simpa using hx
  rw[if_neg (by simp[hx])]at hpe
  rw[qqq]
  have h64:=h63.drew
  refine⟨ca,t.code.length,cc,by rw[qa];exact(back h64).cell (k:=0) rfl,s.len,by rw[qa];exact h64.cell (k:=1) rfl,?_⟩
  have s8t:∀ {w2:World},((t.code.length:Int) > s.len\/s.given=2147483647)->St w0 w2 (L.bl q s++((n4,Cs (ya t.at_ (.slice sa t.sp.length sc) (.slice ca t.code.length cc)) 41)::H))->q5a true none 0 0 (some ⟨q.cb,0,none⟩) 0 0 (Addr.mk n4 0 none) w2 K:=fun {w2} hc h2=>by
   rw[q48,qe]
   exact fail (by rw[hpe,if_pos hc]) (by decide) h2
  rw[qg]
  refine⟨fun hlt=>s8t (.inl (by simpa using hlt)) h64,fun hlt=>?_⟩
  have hlt:¬ (t.code.length:Int) > s.len:=by simpa using hlt
  refine⟨s.given,by rw[qa];exact h64.cell (k:=1) rfl,?_⟩
  cases hgv:(s.given==2147483647)with
  | true=>exact s8t (.inr (by simpa using hgv)) h64
  | false=>
   have hgv:s.given≠2147483647:=by simpa using hgv
   have hp0:yv s t=0:=by rw[hpe,if_neg (fun hc=>hc.elim hlt hgv)]
   rw[q48,qb]
   obtain⟨m,hE⟩:=hE hp0
   exact qIJ hg hn4 hS hB ha.1 ha.2 hL hE hgv0 om h64 (hK hp0)
end Go.Fx.Tryz
namespace Go.Fx.Ch
open Go.Fx.Tryz
set_option linter.all false
def ins(x:Int):List Int->List Int
 | []=>[x]
 | y::l=>if x<=y then x::y::l else y::ins x l
def q2b:List Int->List Int
 | []=>[]
 | x::l=>ins x (q2b l)
theorem q3i(x:Int):∀ l,(ins x l).Perm (x::l)
 | []=>.refl _
 | y::l=>by
  unfold ins
  split
  ·exact .refl _
  ·exact((q3i x l).cons y).trans (List.Perm.swap _ _ _)
theorem q3R:∀ l,(q2b l).Perm l
 | []=>.refl _
 | x::l=>(q3i x _).trans ((q3R l).cons x)
theorem q1U(x:Int):∀ l:List Int,l.Pairwise (·<=·)->(ins x l).Pairwise (·<=·)
 | [],_=>by simp[ins]
 | y::l,h=>by
  unfold ins
  have h1:=List.pairwise_cons.1 h
  split
  ·rename_i hxy
   refine List.pairwise_cons.2 ⟨fun z hz=>?_,h⟩
   rcases List.mem_cons.1 hz with rfl | hz
   ·exact hxy
   ·have:=h1.1 z hz;omega
  ·rename_i hxy
   refine List.pairwise_cons.2 ⟨fun z hz=>?_,q1U x l h1.2⟩
   rcases List.mem_cons.1 ((q3i x l).mem_iff.1 hz)with rfl | hz
   ·omega
   ·exact h1.1 z hz
theorem Vy:∀ l:List Int,(q2b l).Pairwise (·<=·)
 | []=>List.Pairwise.nil
 | x::l=>q1U x _ (Vy l)
theorem Zx(l:List Int):zL l=q2b l:=by
 have h1:(zL l).Perm (q2b l):=(List.mergeSort_perm l _).trans (q3R l).symm
 have hp:(zL l).Pairwise fun x y=>decide (x<=y)=true:=List.pairwise_mergeSort (fun x y z hx hy=>by simp at *;omega) (fun x y=>by simp;omega) l
 exact h1.eq_of_pairwise (fun x y _ _ hx hy=>by simp at hx hy;omega) hp ((Vy l).imp fun h=>by simpa using h)
def Qm:qd->List Int->qd
 | s,[]=>s
 | s,id::l=>Qm (forget1 ((lk s.hold id).getD []) s id) l
def qwf:qd->List Int->Bool
 | _,[]=>true
 | s,id::l=>decide (((lk s.hold id).getD []).length<=1)&&qwf (forget1 ((lk s.hold id).getD []) s id) l
theorem zp.det{s s':qd}{l:List Int}(h:zp s l s'):qwf s l=true->s'=Qm s l:=by
 induction h with
 | nil=>exact fun _=>rfl
 | @cons s s' id l order ho _ ih=>
  intro hd
  simp only[qwf,Bool.and_eq_true,decide_eq_true_eq]at hd
  have ho':order=(lk s.hold id).getD []:=by
   generalize (lk s.hold id).getD []=m at *
   match m,ho,hd.1 with
   | [],ho,_=>exact List.Perm.eq_nil ho
   | [x],ho,_=>exact List.perm_singleton.1 ho
  subst ho'
  exact ih hd.2
def q6j(s:qd):List Int:=q2b ((s.rows[s.cur]?).getD [])
theorem qkk(s:qd):zO s=q6j s:=Zx _
def qaM(s:qd):Bool:=(s.rows.all fun r=>decide (r.length<1000000))&&decide (0<=s.ev)&&decide (s.ev<1099511627776)&&decide (s.items.length<1000000)&&s.table.all fun x=>decide (0<=x)&&decide (x<4294967296)
theorem jV{s:qd}(h:qaM s=true):Fit s:=by
 simp only[qaM,Bool.and_eq_true,List.all_eq_true,decide_eq_true_eq]at h
 exact⟨h.1.1.1.1,h.1.1.1.2,h.1.1.2,h.1.2,h.2⟩
def evD(n:Nat):Nat->qd->Option (List Int × qd)
 | 0,s=>if qaM s&&!(jr s n)then some ([],s)else none
 | m+1,s=>if qaM s then if jr s n then(if qwf (qy s) (q6j (qy s))then
   (evD n m { Qm (qy s) (q6j (qy s))with ev:=(Qm (qy s) (q6j (qy s))).ev+(q6j (qy s)).length }).map fun r=>(q6j (qy s)++r.1,r.2)else none)else some ([],s)else none
theorem qbi{n:Nat}:∀ (m:Nat) (s:qd) (r:List Int × qd),evD n m s=some r->(∀ g,g+r.1.length<1000000->EvR n m g s)/\∀ g s1,yg n s g s1->g=r.1/\s1=r.2
 | 0,s,r,h=>by
  unfold evD at h
  split at h
  ·rename_i hc
   simp only[Bool.and_eq_true,Bool.not_eq_true']at hc
   cases h
   refine⟨fun g hg=>⟨jV hc.1,by simpa using hg,hc.2⟩,fun g s1 he=>?_⟩
   cases he with
   | done=>exact⟨rfl,rfl⟩
   | step hf=>rw[hc.2]at hf;cases hf
  ·cases h
 | m+1,s,r,h=>by
  unfold evD at h
  split at h
  ·rename_i hfit
   split at h
   ·rename_i hfull
    split at h
    ·rename_i hdet
     cases hv:evD n m { Qm (qy s) (q6j (qy s))with ev:=(Qm (qy s) (q6j (qy s))).ev+(q6j (qy s)).length }with
     | none=>rw[hv]at h;cases h
     | some r'=>
      rw[hv]at h
      simp only[Option.map_some,Option.some.injEq]at h
      subst h
      obtain⟨i1,i2⟩:=qbi m _ _ hv
      refine⟨fun g hg=>⟨jV hfit,by simp only[List.length_append]at hg;omega,fun _ s2 hF=>?_⟩,fun g s1 he=>?_⟩
      ·rw[qkk]at hF ⊢
       rw[hF.det hdet]
       exact i1 _ (by simp only[List.length_append]at hg;omega)
      ·cases he with
       | done hf=>rw[hfull]at hf;cases hf
       | step _ hF he2=>
        rw[qkk]at hF he2 ⊢
        rw[hF.det hdet]at he2
        obtain⟨e1,e2⟩:=i2 _ _ he2
        exact⟨by rw[e1],e2⟩
    ·cases h
   ·rename_i hfull
    have hfull:jr s n=false:=by simpa using hfull
    cases h
    refine⟨fun g hg=>⟨jV hfit,by simpa using hg,fun hf=>by rw[hfull]at hf;cases hf⟩,fun g s1 he=>?_⟩
    cases he with
    | done=>exact⟨rfl,rfl⟩
    | step hf=>rw[hfull]at hf;cases hf
  ·cases h
end Go.Fx.Ch
namespace Go.Fx
open Go
variable {P:Program}
theorem qiN{B:(YT)->YT}{e0:qi}{w1:World}{es:Array MapEntry}(J:List MapEntry->Array Nat->YT)(h0:J [] #[] e0 w1)
  (hover:∀ vis seen e w,Vis es vis [] seen->J vis seen e w->∀ Y,B Y e w)
  (hmore:∀ vis rem seen e w,rem≠[]->Vis es vis rem seen->J vis seen e w->∀ Y:YT,(∀ x e' w',x∈es.toList->x.born ∉ seen.toList->J (vis++[x]) (seen.push x.born) e' w'->Y e' w')->B Y e w):qK B e0 w1:=by
 refine⟨fun n e w=>∃ vis rem seen,n=rem.length/\Vis es vis rem seen/\J vis seen e w,⟨_,[],_,_,rfl,Vis.start es,h0⟩,?_⟩
 rintro n e w ⟨vis,rem,seen,rfl,hv,hj⟩
 by_cases hr:rem=[]
 ·subst hr;exact hover vis seen e w hv hj _
 ·refine hmore vis rem seen e w hr hv hj _ fun x e' w' hx hn hj'=>?_
  obtain⟨rem',hl,hv'⟩:=hv.step hx hn
  exact⟨rem'.length,by omega,_,rem',_,rfl,hv',hj'⟩
end Go.Fx
namespace Go.Fx.Tryz
open Go Go.Fx Go.Fx.Ch
open Go.Proofs
set_option linter.all false
set_option maxRecDepth 20000
variable {w0 w:World} {H X G:qE} {K:KT} {s:qd} {L:qQ} {q:LB}
theorem q83{K:Type}{enc:K->Value}(hinj:∀ a b,enc a=enc b->a=b){es:Array MapEntry}{clk:Nat}{m:List (K × Value)}(h:MapIs enc es clk m){vis:List MapEntry}{seen:Array Nat}(hv:Vis es vis [] seen){ks:List K}(ho:vis.map (·.key)=ks.map enc):ks.Perm (m.map (·.1)):=by
 have h1:(vis.map (·.key)).Perm (es.toList.map (·.key)):=by
  have:=hv.perm
  rw[List.append_nil]at this
  exact(this.map _).symm
 rw[ho]at h1
 have h2:(es.toList.map (·.key)).Perm ((m.map (·.1)).map enc):=by
  have:=h.perm.map (·.1)
  rw[List.map_map,List.map_map]at this
  rw[List.map_map]
  exact this
 exact vJ hinj (h1.trans h2)
theorem qk9{es:Array MapEntry}{vis rem:List MapEntry}{seen:Array Nat}(hv:Vis es vis rem seen):vis.length+rem.length=es.size:=by
 have:=hv.perm.length_eq
 rw[List.length_append]at this
 simpa using this.symm
theorem zY.entry{es:Array MapEntry}{clk:Nat}{items:List (Int × TR)}(h:zY G es clk items){e:MapEntry}(he:e∈es.toList):∃ id:Int,e.key=U id/\q0m G e.val (qj items id)/\(lk items id).isSome=true:=by
 obtain⟨m,h1,h2⟩:=h
 obtain⟨p,hp,hk,hv⟩:=h1.pair' he
 refine⟨p.1,hk,?_⟩
 have hl:jB m p.1=some p.2:=(q3C h1.nodup).2 hp
 rcases h2.lk p.1 with⟨e1,_⟩ | ⟨v,t,e1,e2,e3⟩
 ·rw[vu,e1]at hl;cases hl
 ·rw[vu,e1]at hl
  cases hl
  rw[hv,e2]
  unfold qj
  rw[e2]
  exact⟨e3,rfl⟩
def vR(s:qd)(r:SP)(id:Int):Bool:=(qj s.items id).sp.any (q3f r)
def jX(s:qd)(r:SP):List Int:=zL ((s.items.map (·.1)).filter (vR s r))
theorem qlF{r:SP}(h:St w0 w (L.bl q s++H))(hL:L.Ok w0 q s)(hg:zA H)(hn:s.items.length<1000000)(hd0:0<=s.dr)(hd1:s.dr<1099511627776)
  (hK:∀ (w':World) (L':qQ) (s':qd) (ov:Value) (N:qE),zp s (jX s r) s'->L'.Ok w0 q { s' with dr:=s'.dr+(jX s r).length }->zx 1 24 ov (jX s r).length ((jX s r).map U) N->qF w0 N->
   St w0 w' (N++(L'.bl q { s' with dr:=s'.dr+(jX s r).length }++H))->K ov w') :
  q9 P 20 [.pointer (some ⟨q.cb,0,none⟩),.agg (QN r).toArray] w K:=by
 refine qHO _ _ _ _ ?_
 rw[qKn]
 refine h.newC fun n2 w3 hn2 h3=>?_
 have h3:St w0 w3 ((n2,Cs (QN r) 36)::(L.bl q s++H)):=h3
 have h4:St w0 w3 (L.bl q s++((n2,Cs (QN r) 36)::H)):=h3.perm (qn fun c=>by simp only[List.map_append,List.map_cons,List.sum_append,List.sum_cons];omega)
 refine Qr h4 ⟨_,rfl,?_⟩
 simp only[qb]
 rw[qoX]
 refine⟨some q.ib,by rw[qa];exact h4.cell (k:=1) rfl,_,_,Ye (by kernel_rfl:P.underlying 105=some (.map 24 41)) (h4.get (k:=2) rfl),?_⟩
 have hit:=h4.le
 have h5:=h4.alloc (.mapIter (some q.ib) L.iclk #[] L.iclk)
 generalize w3.heap.size=it at hit h5
 obtain⟨m,hm,hlike⟩:=hL.its
 have hsz:L.ies.size=s.items.length:=by rw[hm.size,hlike.length]
 have hkeys:m.map (·.1)=s.items.map (·.1):=yP.keys hlike
 refine qiN (es:=L.ies) (fun vis seen e w'=>∃ (ks:List Int) (ga:Option Addr) (gc:Nat) (N:qE),vis.map (·.key)=ks.map qBv/\e=qi.mk 41 [(5,.slice ga (ks.filter (vR s r)).length gc),(3,.pointer (some (Addr.mk n2 0 none))),(14,.pointer (some (Addr.mk it 0 none))),(4,.slice none 0 0),(0,.pointer (some ⟨q.cb,0,none⟩))] []/\
  zx 1 24 (.slice ga (ks.filter (vR s r)).length gc) (ks.filter (vR s r)).length ((ks.filter (vR s r)).map U) N/\qF w0 N/\St w0 w' ((it,.mapIter (some q.ib) L.iclk seen L.iclk)::(L.bl q s++(N++((n2,Cs (QN r) 36)::H)))))
  ⟨[],none,0,[],rfl,rfl,zx.nil 1 24,qF.nil _,h5⟩ ?_ ?_
 ·rintro vis seen e w1 hv ⟨ks,ga,gc,N,hks,rfl,hS,hN,hs⟩ Y
  show q7z ..
  rw[q2f]
  refine .inl ⟨w1,jc (hs.get (k:=0) rfl) (hs.get (k:=3) rfl) hm.st hv.over,?_⟩
  rw[qq0]
  have hperm:ks.Perm (s.items.map (·.1)):=by rw[<-hkeys];exact q83 (fun a b h=>by injection h) hm hv hks
  have hso:zL (ks.filter (vR s r))=jX s r:=zV (hperm.filter _)
  have hfl:(ks.filter (vR s r)).length<1000000:=by
   have h1:=List.length_filter_le (vR s r) ks
   have h2:=hperm.length_eq
   rw[List.length_map]at h2
   omega
  have hs1:=hs.tail hit
  have hg2:zA (N++((n2,Cs (QN r) 36)::H)):=hg.mono fun u hu=>List.mem_append_right _ (.tail _ hu)
  refine Js q5O hs1 hL hg2 (fun w' h'=>hS.row fun u hu=>h'.has _ _ (List.mem_append_right _ (List.mem_append_left _ hu))) hfl fun w26 L' s' ov M hF hL' hSl hM h26=>?_
  rw[hso]at hF hSl
  obtain⟨la,lc,e⟩:=hSl.form
  subst e
  have hdl:(jX s r).length<1000000:=by rw[<-hso,yM];exact hfl
  have hdr:s'.dr=s.dr:=hF.conf.2.2.2.2.2.1
  have h27:St w0 w26 (L'.bl q s'++(M++(N++((n2,Cs (QN r) 36)::H)))):=h26.perm (qn fun c=>by simp only[List.map_append,List.map_cons,List.sum_append,List.sum_cons];omega)
  refine⟨_,_,_,rfl,s'.dr,by rw[qa];exact h27.cell (k:=1) rfl,?_⟩
  show zW ((Addr.mk q.cb 0 none).add 10) _ _ _
  rw[qa,qc om om]
  refine h27.st1 (k:=1) rfl (by simp[CCs]) rfl fun w31 h31=>?_
  have h32:St w0 w31 (L'.bl q { s' with dr:=s'.dr+(jX s r).length }++(M++(N++((n2,Cs (QN r) 36)::H)))):=h31
  have h33:St w0 w31 (N++((n2,Cs (QN r) 36)::(M++(L'.bl q { s' with dr:=s'.dr+(jX s r).length }++H)))):=h32.perm (qn fun c=>by simp only[List.map_append,List.map_cons,List.sum_append,List.sum_cons];omega)
  exact hK w31 L' s' _ M hF (hL'.setDr _) hSl hM ((h33.sub hN).tail hn2)
 ·rintro vis rem seen e w1 hr hv ⟨ks,ga,gc,N,hks,rfl,hS,hN,hs⟩ Y hY
  show q7z ..
  rw[q2f]
  obtain⟨x,w2,he,hnb,hw2,hk2,hrun⟩:=jg (P:=P) (hs.get (k:=0) rfl) (hs.get (k:=3) rfl) hm.st (hv.more hm.st hr)
  have h3:St w0 (w2.putObj it (.mapIter (some q.ib) L.iclk (seen.push x.born) L.iclk)) ((it,.mapIter (some q.ib) L.iclk (seen.push x.born) L.iclk)::(L.bl q s++(N++((n2,Cs (QN r) 36)::H)))):=(hs.same hw2 hk2).put (k:=0) rfl _
  obtain⟨id,hek,hv',_⟩:=hL.its.entry he
  obtain⟨⟨sv,cv,hva,hSp,hBp⟩,_,_⟩:=hv'
  refine .inr ⟨_,_,_,hrun,?_⟩
  rw[qrv]
  refine⟨x.key,x.val,_,ZY (h3.get (k:=0) rfl) (h3.get (k:=3) rfl) (by simp) (ZU hm.st he),id,hek,_,hva,?_⟩
  generalize hti:qj s.items id=t at *
  obtain⟨sa,sc,e1⟩:=((hSp.spans (w0:=w0) (H:=L.bl q s++H) fun u hu=>List.mem_append_left _ (L.G_mem q s u hu)).row w h).form
  obtain⟨ca,cc,e2⟩:=((hBp.bytes (w0:=w0) (H:=L.bl q s++H) fun u hu=>List.mem_append_left _ (L.G_mem q s u hu)).row w h).form
  subst e1;subst e2
  rw[jo]
  refine h3.newC fun n42 w43 hn42 h43=>h43.stA (k:=0) rfl rfl (by simp) (by simp[ya,Value.oneCell']) fun w44 h44=>?_
  have h44:St w0 w44 ((n42,Cs (ya t.at_ (.slice sa t.sp.length sc) (.slice ca t.code.length cc)) 41)::(it,.mapIter (some q.ib) L.iclk (seen.push x.born) L.iclk)::(L.bl q s++(N++((n2,Cs (QN r) 36)::H)))):=h44
  refine⟨sa,t.sp.length,sc,by rw[qa];exact h44.cell (k:=0) rfl,?_⟩
  have hm2:(n2,Cs (QN r) 36)∈((n42,Cs (ya t.at_ (.slice sa t.sp.length sc) (.slice ca t.code.length cc)) 41)::(it,.mapIter (some q.ib) L.iclk (seen.push x.born) L.iclk)::(L.bl q s++(N++((n2,Cs (QN r) 36)::H)))):=.tail _ (.tail _ (List.mem_append_right _ (List.mem_append_right _ (.head _))))
  refine Yj (l:=t.sp) h44 (hSp.spans fun u hu=>.tail _ (.tail _ (List.mem_append_left _ (L.G_mem q s u hu)))) (qGM (t:=36) hm2) fun w47 h47=>⟨_,rfl,?_⟩
  have h48:=h47.tail hn42
  have hkl:ks.length+1<=s.items.length:=by
   have h1:=qk9 hv
   have h2:=congrArg List.length hks
   have h5:0<rem.length:=List.length_pos_iff.2 hr
   rw[List.length_map,List.length_map]at h2
   omega
  have hfk:(ks.filter (vR s r)).length<=ks.length:=List.length_filter_le _ _
  have hmb:t.sp.any (fun e=>q3f r e)=vR s r id:=by unfold vR;rw[hti]
  rw[hmb,qg]
  refine⟨fun hb=>?_,fun hb=>?_⟩
  ·refine⟨⟨rfl,trivial⟩,h48.newC fun n52 w50 hn52 h50=>?_⟩
   have h51:St w0 w50 ([(n52,Cs [U id] 24)]++(N++((it,.mapIter (some q.ib) L.iclk (seen.push x.born) L.iclk)::(L.bl q s++((n2,Cs (QN r) 36)::H))))):=by
    have h50:St w0 w50 ((n52,Cs [U id] 24)::(it,.mapIter (some q.ib) L.iclk (seen.push x.born) L.iclk)::(L.bl q s++(N++((n2,Cs (QN r) 36)::H)))):=h50
    exact h50.perm (qn fun c=>by simp only[List.map_append,List.map_cons,List.map_nil,List.sum_append,List.sum_cons,List.sum_nil];omega)
   obtain⟨g,cap,w54,N',hrun2,hX,h54,hXN⟩:=St.append (P:=P) 22 22 24 Tryz.t24 (U 0) 1 4 Tryz.underlying22 kr rfl rfl rfl rfl om (A:=[(n52,Cs [U id] 24)]) (news:=[U id]) h51 hS hN (j:=0) rfl rfl (fun u hu=>by rw[List.mem_singleton.1 hu];rfl) (by simp[maxLen];omega) om
   refine⟨_,_,_,w54,hrun2,?_⟩
   have hfe:(ks++[id]).filter (vR s r)=ks.filter (vR s r)++[id]:=by rw[List.filter_append,List.filter_cons,if_pos hb,List.filter_nil]
   have hfel:((ks++[id]).filter (vR s r)).length=(ks.filter (vR s r)).length+1:=by rw[hfe];simp
   refine hY x _ w54 he hnb ⟨ks++[id],some ⟨g,0,none⟩,cap,N',by rw[List.map_append,hks];simp[hek],by rw[hfel],by rw[hfel,hfe,List.map_append];exact hX,hXN,?_⟩
   have h55:St w0 w54 ((n52,Cs [U id] 24)::(it,.mapIter (some q.ib) L.iclk (seen.push x.born) L.iclk)::(L.bl q s++(N'++((n2,Cs (QN r) 36)::H)))):=h54.perm (qn fun c=>by simp only[List.map_append,List.map_cons,List.map_nil,List.sum_append,List.sum_cons,List.sum_nil];omega)
   exact h55.tail hn52
  ·have hfe:(ks++[id]).filter (vR s r)=ks.filter (vR s r):=by rw[List.filter_append,List.filter_cons,if_neg (by rw[hb];decide),List.filter_nil,List.append_nil]
   exact hY x _ w47 he hnb ⟨ks++[id],ga,gc,N,by rw[List.map_append,hks];simp[hek],by rw[hfe],by rw[hfe];exact hS,hN,h48⟩
theorem qvZ(h:St w0 w (L.bl q s++H))(hL:L.Ok w0 q s)(hg:zA H)(hn:s.items.length<1000000)(hd0:0<=s.dr)(hd1:s.dr<1099511627776)
  (hK:∀ (w':World) (L':qQ) (s':qd),zp s (vF s) s'->L'.Ok w0 q { s' with dr:=s'.dr+(vF s).length }->St w0 w' (L'.bl q { s' with dr:=s'.dr+(vF s).length }++H)->K (.tuple [].toArray) w') :
  q9 P 31 [.pointer (some ⟨q.cb,0,none⟩)] w K:=by
 refine qGh _ _ _ ?_
 rw[qIc]
 refine Qr h ⟨_,rfl,?_⟩
 simp only[Bool.not_false,qe]
 refine⟨s.dr,by rw[qa];exact h.cell (k:=1) rfl,?_⟩
 refine qFh h.drew hL hn fun w7 ov N hS hN h7=>?_
 obtain⟨a,c,e⟩:=hS.form
 subst e
 have h8:St w0 w7 (L.bl q s++(N++H)):=h7.perm (qn fun c=>by simp only[List.map_append,List.sum_append];omega)
 refine⟨_,_,_,rfl,by rw[qa];exact h8.cell (k:=1) rfl,?_⟩
 have hll:(vF s).length<1000000:=by unfold vF;rw[yM,List.length_map];exact hn
 have hss:zL (vF s)=vF s:=zV (List.mergeSort_perm _ _)
 refine Js q5O h8 hL (hg.mono fun u hu=>List.mem_append_right _ hu) (fun w' h'=>hS.row fun u hu=>h'.has _ _ (List.mem_append_right _ (List.mem_append_left _ hu))) hll fun w10 L' s' ov2 M hF hL' hS2 hM h10=>?_
 rw[hss]at hF hS2
 obtain⟨a2,c2,e⟩:=hS2.form
 subst e
 have hdr:s'.dr=s.dr:=hF.conf.2.2.2.2.2.1
 have h11:St w0 w10 (L'.bl q s'++(M++(N++H))):=h10.perm (qn fun c=>by simp only[List.map_append,List.sum_append];omega)
 refine⟨_,_,_,rfl,by rw[qa,<-hdr];exact h11.cell (k:=1) rfl,?_⟩
 show zW ((Addr.mk q.cb 0 none).add 10) _ _ _
 rw[qa,qc om om]
 refine h11.st1 (k:=1) rfl (by simp[CCs]) rfl fun w13 h13=>?_
 have h14:St w0 w13 (L'.bl q { s' with dr:=s'.dr+(vF s).length }++(M++(N++H))):=by rw[hdr];exact h13
 have h15:St w0 w13 (M++(N++(L'.bl q { s' with dr:=s'.dr+(vF s).length }++H))):=h14.perm (qn fun c=>by simp only[List.map_append,List.sum_append];omega)
 exact hK w13 L' s' hF (hL'.setDr _) ((h15.sub hM).sub hN)
end Go.Fx.Tryz
namespace Go.Fx.Ch
def vS(s:qd)(c:Int):Int:=(((lk s.hold c).getD []).length:Int)
def jq(s:qd):Int:=((s.hold.map (·.1)).map (vS s)).sum
def Qu(s:qd):Int:=((List.range s.rows.length).map (zw s)).sum
end Go.Fx.Ch
namespace Go.Fx.Tryz
open Go Go.Fx Go.Fx.Ch
open Go.Proofs
set_option linter.all false
set_option maxRecDepth 20000
variable {w0 w:World} {H X G:qE} {K:KT} {s:qd} {L:qQ} {q:LB}
theorem qvp{a b:List Int}(h:a.Perm b):a.sum=b.sum:=by
 induction h with
 | nil=>rfl
 | cons x _ ih=>simp only[List.sum_cons,ih]
 | swap x y l=>simp only[List.sum_cons];omega
 | trans _ _ h1 h2=>exact h1.trans h2
theorem q4c{f:Int->Int}{B:Int}(h0:∀ x,0<=f x)(h1:∀ x,f x<=B):∀ l:List Int,0<=(l.map f).sum/\(l.map f).sum<=l.length*B
 | []=>by simp
 | x::l=>by
  obtain⟨a,b⟩:=q4c h0 h1 l
  have:=h0 x
  have:=h1 x
  simp only[List.map_cons,List.sum_cons,List.length_cons]
  have e:((l.length+1:Nat):Int)*B=l.length*B+B:=by rw[Int.natCast_add,Int.add_mul];simp
  rw[e]
  omega
theorem q1I{f:Nat->Int}{B:Int}(h0:∀ x,0<=f x)(h1:∀ x,f x<=B):∀ l:List Nat,0<=(l.map f).sum/\(l.map f).sum<=l.length*B
 | []=>by simp
 | x::l=>by
  obtain⟨a,b⟩:=q1I h0 h1 l
  have:=h0 x
  have:=h1 x
  simp only[List.map_cons,List.sum_cons,List.length_cons]
  have e:((l.length+1:Nat):Int)*B=l.length*B+B:=by rw[Int.natCast_add,Int.add_mul];simp
  rw[e]
  omega
theorem qcC:qx P 47=#[J 0,J 0,J 0,J 0,J 0]:=kr
theorem qE2(a b c:Int)(wq:World):(Instr.build 47 [(0,J a),(3,J b),(4,J c)].toArray).run P wq=.ok (.agg #[J a,J 0,J 0,J b,J c]) wq:=kr
theorem qQ.Ok.entryH(hL:L.Ok w0 q s){e:MapEntry}(he:e∈L.hes.toList):∃ h∈L.hl,e.key=U h.key/\e.val=.map (some h.b)/\(lk s.hold h.key).getD []=h.l:=by
 obtain⟨p,hp,hk,hv⟩:=hL.hm.pair' he
 obtain⟨h,hh,rfl⟩:=List.mem_map.1 hp
 refine⟨h,hh,hk,hv,?_⟩
 obtain⟨a,b,e0⟩:=List.append_of_mem hh
 obtain⟨ha,hb⟩:=hL.keys e0
 rw[hL.hs,e0]
 simp only[List.map_append,List.map_cons]
 rw[q7T (fun p hp=>by
  obtain⟨x,hx,rfl⟩:=List.mem_map.1 hp
  exact ha x hx)]
 rfl
theorem q5c(h:St w0 w (L.bl q s++H))(hL:L.Ok w0 q s)(hr:∀ r∈s.rows,r.length<1000000)(hh1:s.hold.length<1000000)(hh2:∀ c,vS s c<=1000000)
  (hK:∀ w',St w0 w' (L.bl q s++H)->K (.agg #[J s.items.length,J (Qu s),J (jq s),J s.ev,J s.dr]) w'):q9 P 23 [.pointer (some ⟨q.cb,0,none⟩)] w K:=by
 refine qH4 _ _ _ ?_
 rw[qJ7,qcC]
 refine h.newC fun n1 w2 hn1 h2=>?_
 have h2:St w0 w2 ((n1,Cs [J 0,J 0,J 0,J 0,J 0] 47)::(L.bl q s++H)):=h2
 have h3:St w0 w2 (L.bl q s++((n1,Cs [J 0,J 0,J 0,J 0,J 0] 47)::H)):=h2.perm (qn fun c=>by simp only[List.map_append,List.map_cons,List.sum_append,List.sum_cons];omega)
 refine Qr h3 ⟨_,rfl,?_⟩
 simp only[qb]
 rw[qpw]
 have h4:=h3.drew
 refine⟨some q.ib,by rw[qa];exact h4.cell (k:=1) rfl,s.items.length,fun wq hx=>hL.its.len (Jv hx (h4.get (k:=2) rfl)),s.ev,by rw[qa];exact h4.cell (k:=1) rfl,s.dr,by rw[qa];exact h4.cell (k:=1) rfl,_,qE2 _ _ _,?_⟩
 rw[qcC]
 refine h2.drew.newC fun n19 w20 hn19 h20=>h20.stA (k:=0) rfl rfl (by simp) (by simp[Value.oneCell']) fun w21 h21=>?_
 have h21:St w0 w21 ((n19,Cs [J s.items.length,J 0,J 0,J s.ev,J s.dr] 47)::(n1,Cs [J 0,J 0,J 0,J 0,J 0] 47)::(L.bl q s++H)):=h21
 rw[qrJ]
 refine⟨some ⟨q.rb,0,none⟩,s.rows.length,s.rows.length,by rw[qa];exact h21.cell (k:=3) rfl,?_⟩
 have hcode:=hL.codeLen h
 have hfill:∀ i,0<=zw s i/\zw s i<=1000000000000:=fun i=>by
  unfold zw
  have hb:=yV hcode ((s.rows[i]?).getD [])
  have hl:((s.rows[i]?).getD []).length<1000000:=by
   cases hi:s.rows[i]? with
   | none=>decide
   | some r=>exact hr r (List.mem_of_getElem? hi)
  unfold qT at hb
  omega
 have hrl:=hL.rl
 have hps:∀ j,j<=s.rows.length->0<=((List.range j).map (zw s)).sum/\((List.range j).map (zw s)).sum<=1000000000000000000:=fun j hj=>by
  have:=q1I (f:=zw s) (B:=1000000000000) (fun x=>(hfill x).1) (fun x=>(hfill x).2) (List.range j)
  rw[List.length_range]at this
  omega
 refine⟨fun m e' w'=>∃ j:Nat,j<=s.rows.length/\m=s.rows.length-j/\e'=qi.mk 56 [(29,J j),(3,.pointer (some (Addr.mk n19 0 none))),(0,.pointer (some ⟨q.cb,0,none⟩)),(2,.pointer (some (Addr.mk n1 0 none))),(28,J s.rows.length)] []/\
  St w0 w' ((n19,Cs [J s.items.length,J ((List.range j).map (zw s)).sum,J 0,J s.ev,J s.dr] 47)::(n1,Cs [J 0,J 0,J 0,J 0,J 0] 47)::(L.bl q s++H)),⟨_,0,by omega,rfl,rfl,h21⟩,?_⟩
 rintro m e' w' ⟨j,hj,rfl,rfl,hs⟩
 show qjR ..
 rw[qi4,qg]
 refine⟨fun hlt=>?_,fun hge=>?_⟩
 ·have hlt:j<s.rows.length:=by have:=of_decide_eq_true hlt;omega
  rw[qr7]
  have h1:=hs.drew
  refine⟨_,by rw[qa];exact h1.cell (k:=0) rfl,?_⟩
  have h1':St w0 w'.drew (L.bl q s++((n19,Cs [J s.items.length,J ((List.range j).map (zw s)).sum,J 0,J s.ev,J s.dr] 47)::(n1,Cs [J 0,J 0,J 0,J 0,J 0] 47)::H)):=h1.perm (qn fun c=>by simp only[List.map_append,List.map_cons,List.sum_append,List.sum_cons];omega)
  refine q4k h1' hL hlt (by have:=hr _ (List.getElem_mem hlt);omega) fun w39 h39=>⟨_,rfl,?_⟩
  have h40:St w0 w39 ((n19,Cs [J s.items.length,J ((List.range j).map (zw s)).sum,J 0,J s.ev,J s.dr] 47)::(n1,Cs [J 0,J 0,J 0,J 0,J 0] 47)::(L.bl q s++H)):=h39.perm (qn fun c=>by simp only[List.map_append,List.map_cons,List.sum_append,List.sum_cons];omega)
  refine⟨by rw[qa];exact h40.cell (k:=0) rfl,?_⟩
  have hst:((List.range (j+1)).map (zw s)).sum=((List.range j).map (zw s)).sum+zw s j:=by
   rw[List.range_succ,List.map_append,List.sum_append]
   show _+(_+0)=_
   rw[Int.add_zero]
  have b1:=hps j hj
  have b2:=hps (j+1) hlt
  rw[qa,qc om om,<-hst]
  refine h40.st1 (k:=0) rfl (by simp) rfl fun w41 h41=>?_
  rw[qrY]
  exact⟨s.rows.length-(j+1),by omega,j+1,by omega,rfl,by rw[qc om om];rfl,h41⟩
 ·have:j=s.rows.length:=by have:=of_decide_eq_false hge;omega
  subst this
  rw[qqG]
  have hb:((List.range s.rows.length).map (zw s)).sum=Qu s:=rfl
  rw[hb]at hs
  refine⟨some q.hb,by rw[qa];exact hs.cell (k:=3) rfl,_,_,Ye qAm (hs.get (k:=5) rfl),?_⟩
  have hit:=hs.le
  have h5:=hs.alloc (.mapIter (some q.hb) L.hclk #[] L.hclk)
  generalize w'.heap.size=it at hit h5
  refine YB (es:=L.hes) (fun vis seen w1=>∃ ks:List Int,vis.map (·.key)=ks.map qBv/\St w0 w1 ((it,.mapIter (some q.hb) L.hclk seen L.hclk)::(n19,Cs [J s.items.length,J (Qu s),J (ks.map (vS s)).sum,J s.ev,J s.dr] 47)::(n1,Cs [J 0,J 0,J 0,J 0,J 0] 47)::(L.bl q s++H)))
   ⟨[],rfl,h5⟩ ?_ ?_
  ·rintro vis seen w1 hv ⟨ks,hks,hs1⟩ Y
   show q6S ..
   rw[q1T]
   refine .inl ⟨w1,jc (hs1.get (k:=0) rfl) (hs1.get (k:=6) rfl) hL.hm.st hv.over,?_⟩
   rw[qrV]
   have hperm:ks.Perm (s.hold.map (·.1)):=by
    have:=q83 (fun a b h=>by injection h) hL.hm hv hks
    rw[List.map_map]at this
    rw[hL.hs,List.map_map]
    exact this
   have hsum:(ks.map (vS s)).sum=jq s:=qvp (hperm.map _)
   rw[hsum]at hs1
   refine hs1.ldA (k:=1) rfl (by simp) ?_
   refine hs1.stA (k:=2) rfl rfl (by simp) (by simp[Value.oneCell']) fun w64 h64=>h64.ldA (k:=2) rfl (by simp[zy]) ?_
   exact hK w64 (((h64.tail hit).tail hn19).tail hn1)
  ·rintro vis rem seen w1 hrr hv ⟨ks,hks,hs1⟩ Y hY
   show q6S ..
   rw[q1T]
   obtain⟨x,w2,he,hnb,hw2,hk2,hrun⟩:=jg (P:=P) (hs1.get (k:=0) rfl) (hs1.get (k:=6) rfl) hL.hm.st (hv.more hL.hm.st hrr)
   have h3:=(hs1.same hw2 hk2).put (k:=0) rfl (.mapIter (some q.hb) L.hclk (seen.push x.born) L.hclk)
   obtain⟨hh,hmem,hek,hev,hll⟩:=hL.entryH he
   refine .inr ⟨_,_,_,hrun,?_⟩
   rw[qqK]
   have hbm:hh.blk∈((it,Obj.mapIter (some q.hb) L.hclk (seen.push x.born) L.hclk)::(n19,Cs [J s.items.length,J (Qu s),J (ks.map (vS s)).sum,J s.ev,J s.dr] 47)::(n1,Cs [J 0,J 0,J 0,J 0,J 0] 47)::(L.bl q s++H)):=
    .tail _ (.tail _ (.tail _ (List.mem_append_left _ (.tail _ (.tail _ (.tail _ (.tail _ (.tail _ (List.mem_append_right _ (List.mem_append_left _ (List.mem_map.2 ⟨hh,hmem,rfl⟩)))))))))))
   have hlen:((vC hh.l).length:Int)=vS s hh.key:=by unfold vS;rw[hll];simp[vC]
   refine⟨x.key,x.val,_,ZY (h3.get (k:=0) rfl) (h3.get (k:=6) rfl) (by simp) (ZU hL.hm.st he),some hh.b,hev,_,by rw[qa];exact h3.cell (k:=1) rfl,vS s hh.key,fun wq hx=>by rw[<-hlen];exact(hL.inn hh hmem).len (Jv hx (h3.has _ _ hbm)) qaC _,?_⟩
   have hkl:ks.length+1<=s.hold.length:=by
    have h1:=qk9 hv
    have h2:=congrArg List.length hks
    have h5:0<rem.length:=List.length_pos_iff.2 hrr
    rw[List.length_map,List.length_map]at h2
    have h6:=hL.hm.size
    rw[List.length_map]at h6
    rw[hL.hs,List.length_map]
    omega
   have h0:∀ c,0<=vS s c:=fun c=>by unfold vS;omega
   have b1:=q4c h0 hh2 ks
   have b2:=hh2 hh.key
   have b3:=h0 hh.key
   have hst:((ks++[hh.key]).map (vS s)).sum=(ks.map (vS s)).sum+vS s hh.key:=by
    rw[List.map_append,List.sum_append]
    show _+(_+0)=_
    rw[Int.add_zero]
   rw[qa,qc om om,<-hst]
   refine h3.st1 (k:=1) rfl (by simp) rfl fun w75 h75=>?_
   exact hY x w75 he hnb ⟨ks++[hh.key],by rw[List.map_append,hks];simp[hek],h75⟩
end Go.Fx.Tryz
namespace Go.Fx.Tryz
set_option maxRecDepth 100000
open Go Go.Fx Go.Proofs
def qIO:=qm Tryz.f117
def qLH:=Tryz.f117.results.toList
abbrev qn5 K:=qr P qLH K
def f117 a w K:=CS P qIO none [2] [2] (qn5 K) (qz 9 [(VI a)]) w
def q7M a w K:=SG qIO 7 [2] [2] (qn5 K) 9 [(2,VB a)] w
theorem qds:q7M a w K=(K (Value.bool a) w):=kr
theorem qDY:f117 a w K=(qp (a==40) (q7M true w K) (q7M (a==41) w K)):=kr
theorem qAh a w K(h:f117 a w K):q9 P 117 [(Value.int .i64 a)] w K:=qA qIO Tryz.func117 h
def qLn:=qm Tryz.f118
def qLy:=Tryz.f118.results.toList
abbrev qDD K:=qr P qLy K
def f118 a w K:=CS P qLn none [2] [2] (qDD K) (qz 5 [(Value.agg a)]) w
theorem qDJ:f118 a w K=(qv a 119 w (fun d b=>qU 15 (Addr.mk d 0 none) b (fun e=>q9 P 157 [(Value.agg e),(Value.int .i64 12),(Value.int .i64 6)] b (fun f g=>∃ c:Bool,f=(.bool c)/\K (Value.bool c) g)))):=kr
theorem qDc a w K(h:f118 a w K):q9 P 118 [(Value.agg a)] w K:=qA qLn Tryz.func118 h
def Qc:=qm Tryz.f119
def qMm:=Tryz.f119.results.toList
abbrev Qn K:=qr P qMm K
def f119 a w K:=CS P Qc none [2,3] [2,3] (Qn K) (qz 121 [(VI a)]) w
def qjV a w K:=SC Qc 1 [2,3] [2,3] (Qn K) 121 [(0,VI a)] w
abbrev qCD K:=kq Qc 1 [2,3] [2,3] (Qn K)
def qoz a b w K:=SC Qc 3 [2,3] [2,3] (Qn K) 121 [(3,VB false),(2,VQ a),(0,VI b)] w
abbrev YL K:=kq Qc 3 [2,3] [2,3] (Qn K)
abbrev qBM K:=kq Qc 6 [2] [2,3] (YL K)
def qj2 a b c w K:=SC Qc 13 [2] [2,3] (YL K) 121 [(4,VI a),(3,VB false),(2,VQ b),(0,VI c)] w
abbrev vI K:=qo 0 (YL K)
abbrev qAs K:=kq Qc 26 [2] [2,3] (vI K)
def q71 a b c w K:=SG Qc 226492415 [2] [2,3] (vI K) 121 [(38,VB a),(2,VQ b),(4,VI c)] w
def q5M a b c w K:=SG Qc 905969663 [2] [2,3] (vI K) 121 [(42,VB a),(2,VQ b),(4,VI c)] w
def q7I a b c w K:=SG Qc 14843406974975 [2] [2,3] (vI K) 121 [(64,VB a),(2,VQ b),(4,VI c)] w
def q74 a b c w K:=SG Qc 59373627899903 [2] [2,3] (vI K) 121 [(68,VB a),(2,VQ b),(4,VI c)] w
def q17 a b c w K:=SG Qc 237494511599615 [2] [2,3] (vI K) 121 [(72,VB a),(2,VQ b),(4,VI c)] w
def q6V a b c w K:=SG Qc 949978046398463 [2] [2,3] (vI K) 121 [(77,VB a),(2,VQ b),(4,VI c)] w
def q5i a b c w K:=SG Qc 3799912185593855 [2] [2,3] (vI K) 121 [(81,VB a),(2,VQ b),(4,VI c)] w
def q3t a b c w K:=SG Qc 15199648742375423 [2] [2,3] (vI K) 121 [(85,VB a),(2,VQ b),(4,VI c)] w
def q1w a b c w K:=SG Qc 972777519512027135 [2] [2,3] (vI K) 121 [(95,VB a),(2,VQ b),(4,VI c)] w
def qv1 a w K:=SG Qc 7 [2,3] [2,3] (Qn K) 121 [(2,VQ a)] w
theorem q8p:q1w d a c w K=(qp d (∃ e:Array Value,(∀ wq,(Instr.build 172 #[(4,(Value.int .i64 1)),(7,(Value.bool true))]).run P wq=.ok (.agg e) wq)/\zT 11 a e w (fun f=>qU 11 a f (fun u=>K (Value.tuple #[(Value.agg u),(Value.bool true)]) f))) (qp (c==36) (∃ g:Array Value,(∀ wq,(Instr.build 172 #[(0,(Value.bool true)),(3,(Value.int .i64 1))]).run P wq=.ok (.agg g) wq)/\zT 11 a g w (fun h=>qU 11 a h (fun v=>K (Value.tuple #[(Value.agg v),(Value.bool true)]) h))) (qp (c==37) (∃ i:Array Value,(∀ wq,(Instr.build 172 #[(4,(Value.int .i64 1)),(7,(Value.bool true)),(8,(Value.bool true))]).run P wq=.ok (.agg i) wq)/\zT 11 a i w (fun j=>qU 11 a j (fun x=>K (Value.tuple #[(Value.agg x),(Value.bool true)]) j))) (qp (c==38) (∃ k:Array Value,(∀ wq,(Instr.build 172 #[(7,(Value.bool true)),(8,(Value.bool true))]).run P wq=.ok (.agg k) wq)/\zT 11 a k w (fun l=>qU 11 a l (fun y=>K (Value.tuple #[(Value.agg y),(Value.bool true)]) l))) (qp (c==39) (∃ m:Array Value,(∀ wq,(Instr.build 172 #[(4,(Value.int .i64 1)),(7,(Value.bool true)),(8,(Value.bool true)),(9,(Value.bool true))]).run P wq=.ok (.agg m) wq)/\zT 11 a m w (fun n=>qU 11 a n (fun z=>K (Value.tuple #[(Value.agg z),(Value.bool true)]) n))) (qp (c==40) (∃ o:Array Value,(∀ wq,(Instr.build 172 #[(7,(Value.bool true)),(8,(Value.bool true)),(9,(Value.bool true))]).run P wq=.ok (.agg o) wq)/\zT 11 a o w (fun p=>qU 11 a p (fun a0=>K (Value.tuple #[(Value.agg a0),(Value.bool true)]) p))) (qp (c==41) (∃ q:Array Value,(∀ wq,(Instr.build 172 #[(4,(Value.int .i64 1)),(7,(Value.bool true))]).run P wq=.ok (.agg q) wq)/\zT 11 a q w (fun r=>qU 11 a r (fun b0=>K (Value.tuple #[(Value.agg b0),(Value.bool true)]) r))) (qp (c==43) (∃ s:Array Value,(∀ wq,(Instr.build 172 #[(3,(Value.int .i64 1)),(7,(Value.bool true))]).run P wq=.ok (.agg s) wq)/\zT 11 a s w (fun t=>qU 11 a t (fun c0=>K (Value.tuple #[(Value.agg c0),(Value.bool true)]) t))) (qv1 a w K))))))))):=qB kr
theorem q9T:q3t d a c w K=(qp d (∃ e:Array Value,(∀ wq,(Instr.build 172 #[(4,(Value.int .i64 1)),(5,(Value.int .i64 2)),(8,(Value.bool true))]).run P wq=.ok (.agg e) wq)/\zT 11 a e w (fun f=>qU 11 a f (fun k=>K (Value.tuple #[(Value.agg k),(Value.bool true)]) f))) (qp (c==33) (∃ g:Array Value,(∀ wq,(Instr.build 172 #[(4,(Value.int .i64 1)),(5,(Value.int .i64 1)),(7,(Value.bool true)),(8,(Value.bool true))]).run P wq=.ok (.agg g) wq)/\zT 11 a g w (fun h=>qU 11 a h (fun l=>K (Value.tuple #[(Value.agg l),(Value.bool true)]) h))) (qp (c==34) (∃ i:Array Value,(∀ wq,(Instr.build 172 #[(0,(Value.bool true)),(3,(Value.int .i64 1)),(4,(Value.int .i64 1)),(5,(Value.int .i64 1)),(6,(Value.int .i64 1)),(8,(Value.bool true))]).run P wq=.ok (.agg i) wq)/\zT 11 a i w (fun j=>qU 11 a j (fun m=>K (Value.tuple #[(Value.agg m),(Value.bool true)]) j))) (qp (c==35) (q1w true a c w K) (q1w (c==42) a c w K))))):=qB kr
theorem qiP:q5i d a c w K=(qp d (∃ e:Array Value,(∀ wq,(Instr.build 172 #[(3,(Value.int .i64 2)),(4,(Value.int .i64 1)),(8,(Value.bool true))]).run P wq=.ok (.agg e) wq)/\zT 11 a e w (fun f=>qU 11 a f (fun g=>K (Value.tuple #[(Value.agg g),(Value.bool true)]) f))) (qp (c==27) (q3t true a c w K) (q3t (c==31) a c w K))):=qB kr
theorem qfC:q6V d a c w K=(qp d (∃ e:Array Value,(∀ wq,(Instr.build 172 #[(2,(Value.bool true)),(4,(Value.int .i64 1)),(5,(Value.int .i64 1)),(8,(Value.bool true))]).run P wq=.ok (.agg e) wq)/\zT 11 a e w (fun f=>qU 11 a f (fun g=>K (Value.tuple #[(Value.agg g),(Value.bool true)]) f))) (qp (c==26) (q5i true a c w K) (q5i (c==30) a c w K))):=qB kr
theorem qhc:q17 d a c w K=(qp d (∃ e:Array Value,(∀ wq,(Instr.build 172 #[(2,(Value.bool true)),(3,(Value.int .i64 1)),(4,(Value.int .i64 1)),(8,(Value.bool true))]).run P wq=.ok (.agg e) wq)/\zT 11 a e w (fun f=>qU 11 a f (fun g=>K (Value.tuple #[(Value.agg g),(Value.bool true)]) f))) (qp (c==25) (q6V true a c w K) (q6V (c==29) a c w K))):=qB kr
theorem qd8:q74 d c a w K=(qp d (∃ e:Array Value,(∀ wq,(Instr.build 172 #[(4,(Value.int .i64 2)),(7,(Value.bool true))]).run P wq=.ok (.agg e) wq)/\zT 11 c e w (fun f=>qU 11 c f (fun g=>K (Value.tuple #[(Value.agg g),(Value.bool true)]) f))) (qp (a==24) (q17 true c a w K) (qp (a==28) (q17 true c a w K) (q17 (a==32) c a w K)))):=qB kr
theorem qef:q7I d a c w K=(qp d (∃ e:Array Value,(∀ wq,(Instr.build 172 #[(3,(Value.int .i64 2)),(7,(Value.bool true))]).run P wq=.ok (.agg e) wq)/\zT 11 a e w (fun f=>qU 11 a f (fun g=>K (Value.tuple #[(Value.agg g),(Value.bool true)]) f))) (qp (c==23) (q74 true a c w K) (q74 (c==44) a c w K))):=qB kr
theorem qfF:q5M d a c w K=(qp d (∃ e:Array Value,(∀ wq,(Instr.build 172 #[(3,(Value.int .i64 2)),(4,(Value.int .i64 1))]).run P wq=.ok (.agg e) wq)/\zT 11 a e w (fun f=>qU 11 a f (fun s=>K (Value.tuple #[(Value.agg s),(Value.bool true)]) f))) (qp (c==15) (∃ g:Array Value,(∀ wq,(Instr.build 172 #[(3,(Value.int .i64 1)),(4,(Value.int .i64 2)),(7,(Value.bool true))]).run P wq=.ok (.agg g) wq)/\zT 11 a g w (fun h=>qU 11 a h (fun t=>K (Value.tuple #[(Value.agg t),(Value.bool true)]) h))) (qp (c==16) (∃ i:Array Value,(∀ wq,(Instr.build 172 #[(3,(Value.int .i64 2)),(4,(Value.int .i64 2)),(5,(Value.int .i64 1)),(7,(Value.bool true))]).run P wq=.ok (.agg i) wq)/\zT 11 a i w (fun j=>qU 11 a j (fun u=>K (Value.tuple #[(Value.agg u),(Value.bool true)]) j))) (qp (c==18) (∃ k:Array Value,(∀ wq,(Instr.build 172 #[(3,(Value.int .i64 2)),(4,(Value.int .i64 1)),(5,(Value.int .i64 2)),(6,(Value.int .i64 2))]).run P wq=.ok (.agg k) wq)/\zT 11 a k w (fun l=>qU 11 a l (fun v=>K (Value.tuple #[(Value.agg v),(Value.bool true)]) l))) (qp (c==19) (∃ m:Array Value,(∀ wq,(Instr.build 172 #[(2,(Value.bool true)),(3,(Value.int .i64 1)),(7,(Value.bool true))]).run P wq=.ok (.agg m) wq)/\zT 11 a m w (fun n=>qU 11 a n (fun x=>K (Value.tuple #[(Value.agg x),(Value.bool true)]) n))) (qp (c==20) (∃ o:Array Value,(∀ wq,(Instr.build 172 #[(2,(Value.bool true)),(4,(Value.int .i64 1)),(7,(Value.bool true))]).run P wq=.ok (.agg o) wq)/\zT 11 a o w (fun p=>qU 11 a p (fun y=>K (Value.tuple #[(Value.agg y),(Value.bool true)]) p))) (qp (c==21) (∃ q:Array Value,(∀ wq,(Instr.build 172 #[(2,(Value.bool true)),(7,(Value.bool true)),(8,(Value.bool true))]).run P wq=.ok (.agg q) wq)/\zT 11 a q w (fun r=>qU 11 a r (fun z=>K (Value.tuple #[(Value.agg z),(Value.bool true)]) r))) (qp (c==22) (q7I true a c w K) (q7I (c==45) a c w K))))))))):=qB kr
theorem qhl:q71 d a c w K=(qp d (∃ e:Array Value,(∀ wq,(Instr.build 172 #[(3,(Value.int .i64 1)),(4,(Value.int .i64 2))]).run P wq=.ok (.agg e) wq)/\zT 11 a e w (fun f=>qU 11 a f (fun g=>K (Value.tuple #[(Value.agg g),(Value.bool true)]) f))) (qp (c==13) (q5M true a c w K) (q5M (c==14) a c w K))):=qB kr
theorem q2A:qj2 d c e w K=(qp (d==1) (∃ f:Array Value,(∀ wq,(Instr.build 172 #[(3,(Value.int .i64 1)),(8,(Value.bool true))]).run P wq=.ok (.agg f) wq)/\zT 11 c f w (fun g=>qU 11 c g (fun c0=>K (Value.tuple #[(Value.agg c0),(Value.bool true)]) g))) (qp (d==2) (∃ h:Array Value,(∀ wq,(Instr.build 172 #[(3,(Value.int .i64 1)),(4,(Value.int .i64 1))]).run P wq=.ok (.agg h) wq)/\zT 11 c h w (fun i=>qU 11 c i (fun d0=>K (Value.tuple #[(Value.agg d0),(Value.bool true)]) i))) (qp (d==3) (∃ j:Array Value,(∀ wq,(Instr.build 172 #[(0,(Value.bool true)),(3,(Value.int .i64 1)),(4,(Value.int .i64 1)),(5,(Value.int .i64 1))]).run P wq=.ok (.agg j) wq)/\zT 11 c j w (fun k=>qU 11 c k (fun e0=>K (Value.tuple #[(Value.agg e0),(Value.bool true)]) k))) (qp (d==4) (∃ l:Array Value,(∀ wq,(Instr.build 172 #[(0,(Value.bool true)),(3,(Value.int .i64 1)),(4,(Value.int .i64 1)),(8,(Value.bool true))]).run P wq=.ok (.agg l) wq)/\zT 11 c l w (fun m=>qU 11 c m (fun f0=>K (Value.tuple #[(Value.agg f0),(Value.bool true)]) m))) (qp (d==5) (∃ n:Array Value,(∀ wq,(Instr.build 172 #[(0,(Value.bool true)),(1,(Value.bool true)),(2,(Value.bool true)),(3,(Value.int .i64 1)),(4,(Value.int .i64 1))]).run P wq=.ok (.agg n) wq)/\zT 11 c n w (fun o=>qU 11 c o (fun g0=>K (Value.tuple #[(Value.agg g0),(Value.bool true)]) o))) (qp (d==6) (∃ p:Array Value,(∀ wq,(Instr.build 172 #[(3,(Value.int .i64 1)),(4,(Value.int .i64 1)),(5,(Value.int .i64 1)),(6,(Value.int .i64 1))]).run P wq=.ok (.agg p) wq)/\zT 11 c p w (fun q=>qU 11 c q (fun h0=>K (Value.tuple #[(Value.agg h0),(Value.bool true)]) q))) (qp (d==7) (∃ r:Array Value,(∀ wq,(Instr.build 172 #[(3,(Value.int .i64 2)),(10,(Value.bool true))]).run P wq=.ok (.agg r) wq)/\zT 11 c r w (fun s=>qU 11 c s (fun i0=>K (Value.tuple #[(Value.agg i0),(Value.bool true)]) s))) (qp (d==8) (∃ t:Array Value,(∀ wq,(Instr.build 172 #[(3,(Value.int .i64 2)),(4,(Value.int .i64 2))]).run P wq=.ok (.agg t) wq)/\zT 11 c t w (fun u=>qU 11 c u (fun j0=>K (Value.tuple #[(Value.agg j0),(Value.bool true)]) u))) (qp (d==9) (∃ v:Array Value,(∀ wq,(Instr.build 172 #[(0,(Value.bool true)),(3,(Value.int .i64 2)),(4,(Value.int .i64 2)),(5,(Value.int .i64 2))]).run P wq=.ok (.agg v) wq)/\zT 11 c v w (fun x=>qU 11 c x (fun l0=>K (Value.tuple #[(Value.agg l0),(Value.bool true)]) x))) (qp (d==10) (∃ y:Array Value,(∀ wq,(Instr.build 172 #[(0,(Value.bool true)),(3,(Value.int .i64 2)),(4,(Value.int .i64 2))]).run P wq=.ok (.agg y) wq)/\zT 11 c y w (fun z=>qU 11 c z (fun m0=>K (Value.tuple #[(Value.agg m0),(Value.bool true)]) z))) (qp (d==11) (∃ a0:Array Value,(∀ wq,(Instr.build 172 #[(0,(Value.bool true)),(3,(Value.int .i64 1)),(4,(Value.int .i64 2)),(5,(Value.int .i64 2))]).run P wq=.ok (.agg a0) wq)/\zT 11 c a0 w (fun b0=>qU 11 c b0 (fun n0=>K (Value.tuple #[(Value.agg n0),(Value.bool true)]) b0))) (qp (d==12) (q71 true c d w K) (q71 (d==17) c d w K))))))))))))):=Eq.trans (b:=CS P (cA Qc 13) none [2] [2,3] (YL K) (qi.mk 121 [(4,(VI d)),(3,(VB false)),(2,(VP (some c))),(0,(VI e))] []) w) kr (Eq.trans (Zc 0 [2,3] (vI K) kr) (Eq.trans (qZ [5,2,4] (qAs K) kr) kr))
theorem qdn:qoz d c w K=(qj2 c d c w K):=Eq.trans (b:=CS P (cA Qc 3) none [2,3] [2,3] (Qn K) (qi.mk 121 [(3,(VB false)),(2,(VP (some d))),(0,(VI c))] []) w) kr (Eq.trans (qZ [2] (YL K) kr) (Eq.trans (qZ [2,4] (qBM K) kr) kr))
theorem qiV:qjV c w K=(qv (qx P 172) 172 w (fun d e=>qoz (Addr.mk d 0 none) c e K)):=Eq.trans (b:=CS P (cA Qc 1) none [2,3] [2,3] (Qn K) (qi.mk 121 [(0,(VI c))] []) w) kr (Eq.trans (qZ [2,0] (qCD K) kr) kr)
theorem qAu:f119 a w K=(qjV a w K):=kr
theorem qzv a w K(h:f119 a w K):q9 P 119 [(Value.int .i64 a)] w K:=qA Qc Tryz.func119 h
def qaA:=qm Tryz.f120
def qMz:=Tryz.f120.results.toList
abbrev q6h K:=qr P qMz K
def f120 a b w K:=CS P qaA none [4] [4] (q6h K) (qz 22 [(Value.int .u32 a),(VI b)]) w
abbrev qCU K:=kq qaA 7 [4] [4] (q6h K)
abbrev qm3 K:=qo 0 (qCU K)
def qyw K Y0 e w:=zt (fun e w=>CS P (cA qaA 116) none [6,0,5,4,1] [4,5] (qu [6,0,5,4,1] Y0 (qm3 K)) e w) e w
abbrev q1X K Y0:=qu [6,0,5,4,1] Y0 (qm3 K)
def q8v a b c d f g h i j w K Y0:=SG qaA 116 [6,0,5,4,1] [4,5] (q1X K Y0) 22 [(6,VI a),(0,Value.int .u32 b),(5,VS c d f),(4,VS g h i),(1,VI j)] w
def qk7 a b c d f g h i j w K Y0:=SG qaA 233 [6,0,5,4,1] [4,5] (q1X K Y0) 22 [(0,Value.int .u32 a),(4,VS b c d),(1,VI f),(6,VI g),(5,VS h i j)] w
def qo2 a b c d f g h i j w K Y0:=SG qaA 467 [6,0,5,4,1] [4,5] (q1X K Y0) 22 [(0,Value.int .u32 a),(5,VS b c d),(4,VS f g h),(1,VI i),(6,VI j)] w
theorem qi8:qo2 a b c d e f g h i w K Y0=(Y0 (qi.mk 22 [(6,(Value.int .i64 (IntKind.wrap .i64 (i+1)))),(0,(Value.int .u32 a)),(5,(Value.slice b c d)),(4,(Value.slice e f g)),(1,(Value.int .i64 h))] []) w):=kr
theorem qdx:qk7 b c d e f a g h i w K Y0=(0<=(IntKind.wrap .u64 (IntKind.wrap .i64 ((8:Int)*a)))/\qJ 1 [(Value.int .u8 (IntKind.wrap .u8 (b.fdiv (2 ^ (min (Int.toNat (IntKind.wrap .u64 (IntKind.wrap .i64 ((8:Int)*a)))) (IntKind.bits .u32))))))]/\qv (([(Value.int .u8 (IntKind.wrap .u8 (b.fdiv (2 ^ (min (Int.toNat (IntKind.wrap .u64 (IntKind.wrap .i64 ((8:Int)*a)))) (IntKind.bits .u32))))))].map fun(v:Value)=>v.cells.toList).flatten.toArray) 5 w (fun n o=>∃ (j:OA) (k l:Nat),∃ m:World,(Builtin.append_ #[38,38] 38 #[(Value.slice g h i),(Value.slice (some (Addr.mk n 0 none)) 1 1)]).run P o=.ok (.slice j k l) m/\qo2 b j k l c d e f a m K Y0)):=kr
def qnU a b c w K:=SG qaA 15 [4] [4] (q6h K) 22 [(5,VS a b c)] w
theorem qeA:qnU a b c w K=(K (Value.slice a b c) w):=kr
theorem qcv:q8v a f b c d g h i e w K Y0=(qp (decide (a<e)) (qk7 f g h i e a b c d w K Y0) (qnU b c d w K)):=kr
theorem qBC:f120 a b w K=(qK (qyw K) (qi.mk 22 [(6,(Value.int .i64 0)),(0,(Value.int .u32 a)),(5,(Value.slice none 0 0)),(4,(Value.slice none 0 0)),(1,(Value.int .i64 b))] []) w):=kr
theorem qDQ a b w K(h:f120 a b w K):q9 P 120 [(Value.int .u32 a),(Value.int .i64 b)] w K:=qA qaA Tryz.func120 h
def qwS:=qm Tryz.f180
def qMd:=Tryz.f180.results.toList
abbrev q6U K:=qr P qMd K
def f180 a w K:=CS P qwS none [2,3] [2,3] (q6U K) (qz 23 [(Value.agg a)]) w
abbrev qze K:=kq qwS 7 [2,3] [2,3] (q6U K)
def q5t a b c d w K:=SG qwS 29 [2,5,4] [2,3] (qze K) 23 [(19,VB a),(2,VQ b),(5,VB c),(4,VQ d)] w
def q7p a b c w K:=SG qwS 15 [2,3] [2,3] (q6U K) 23 [(2,VQ a),(5,VB b),(4,VQ c)] w
theorem qgq:q7p a b c w K=(qU 11 c w (fun e=>zT 11 a e w (fun d=>qU 11 a d (fun f=>K (Value.tuple #[(Value.agg f),(Value.bool b)]) d)))):=kr
theorem qhw:q5t d b c a w K=(qp d (zW (a.add 6) (Value.int .i64 0) w (fun e=>q7p b c a e K)) (q7p b c a w K)):=kr
theorem qzP:f180 e w K=(qv e 119 w (fun b l=>qv (qx P 172) 172 l (fun f g=>∃ h:Int,g.cell? (Addr.mk b 0 none)=some (.int .i64 h)/\q9 P 119 [(Value.int .i64 h)] g (fun m n=>∃ i:Array Value,∃ c:Bool,m=(.tuple #[(Value.agg i),(Value.bool c)])/\qv (qx P 172) 172 n (fun d o=>zT 11 (Addr.mk d 0 none) i o (fun a=>∃ j:Int,a.cell? (Addr.mk b 0 none)=some (.int .i64 j)/\qp (j==34) (∃ k:Int,a.cell? ((Addr.mk b 0 none).add 1)=some (.int .i64 k)/\q5t (k != 0) (Addr.mk f 0 none) c (Addr.mk d 0 none) a K) (q5t false (Addr.mk f 0 none) c (Addr.mk d 0 none) a K))))))):=kr
theorem qFi a w K(h:f180 a w K):q9 P 180 [(Value.agg a)] w K:=qA qwS Tryz.func180 h
def Qq:=qm Tryz.f181
def qMp:=Tryz.f181.results.toList
abbrev jF K:=qr P qMp K
def f181 a w K:=CS P Qq none [2] [2] (jF K) (qz 83 [(Value.agg a)]) w
def qjd a w K:=SC Qq 1 [2] [2] (jF K) 83 [(0,Value.agg a)] w
abbrev qyM K:=kq Qq 1 [2] [2] (jF K)
def qm9 a b w K:=SC Qq 3 [2] [2] (jF K) 83 [(2,VB false),(1,VQ a),(0,Value.agg b)] w
abbrev VH K:=kq Qq 3 [2] [2] (jF K)
abbrev qCj K:=kq Qq 6 [1] [2] (VH K)
def qjr a b c d w K:=SC Qq 13 [1] [2] (VH K) 83 [(4,VI a),(3,VQ b),(2,VB false),(1,VQ c),(0,Value.agg d)] w
abbrev Qg K:=qo 0 (VH K)
abbrev qlw K:=kq Qq 26 [1] [2,1] (Qg K)
abbrev qBe K:=kq Qq 52 [5,1,4] [2,1] (qlw K)
def q7t a b c w K:=SG Qq 53 [1] [2,1] (Qg K) 83 [(5,VB a),(1,VQ b),(4,VI c)] w
def q0Z a b w K:=SG Qq 861 [1] [2,1] (Qg K) 83 [(2,VB a),(1,VQ b)] w
def qno a b w K:=SG Qq 3453 [1] [2,1] (Qg K) 83 [(2,VB a),(1,VQ b)] w
def qkg a b w K:=SG Qq 13821 [1] [2,1] (Qg K) 83 [(2,VB a),(1,VQ b)] w
def qkI a b w K:=SG Qq 55293 [1] [2,1] (Qg K) 83 [(2,VB a),(1,VQ b)] w
def qo6 a b w K:=SG Qq 884733 [1] [2,1] (Qg K) 83 [(2,VB a),(1,VQ b)] w
def qmq a w K:=SG Qq 7 [2] [2] (jF K) 83 [(1,VQ a)] w
abbrev qsM K:=kq Qq 7 [2] [2] (jF K)
theorem qie:qmq c w K=(∃ d:Int,w.cell? (c.add 1)=some (.int .i64 d)/\K (Value.bool (d==0)) w):=qB (qG [2] (qsM K) kr)
theorem qeP:q7t e a d w K=(qp e (∃ g:Int,w.cell? (a.add 1)=some (.int .i64 g)/\q9 P 190 [(Value.int .i64 g),(Value.int .i64 1),(Value.int .i64 19)] w (fun e0 f0=>∃ h:Bool,e0=(.bool h)/\K (Value.bool h) f0)) (qp (d==5) (∃ i:Int,w.cell? (a.add 1)=some (.int .i64 i)/\q9 P 190 [(Value.int .i64 i),(Value.int .i64 1),(Value.int .i64 7)] w (fun g0 c=>∃ j:Bool,g0=(.bool j)/\qp j (∃ k:Int,c.cell? (a.add 2)=some (.int .i64 k)/\qp (k != 128) (∃ l:Int,c.cell? (a.add 3)=some (.int .i64 l)/\qp (l != 128) (∃ m:Int,c.cell? (a.add 1)=some (.int .i64 m)/\∃ n:Int,c.cell? (a.add 2)=some (.int .i64 n)/\∃ o:Int,c.cell? (a.add 3)=some (.int .i64 o)/\q9 P 191 [(Value.int .i64 m),(Value.int .i64 n),(Value.int .i64 o),(Value.int .i64 0)] c (fun h0 i0=>∃ p:Bool,h0=(.bool p)/\q0Z p a i0 K)) (q0Z false a c K)) (q0Z false a c K)) (q0Z false a c K))) (qp (d==9) (∃ q:Int,w.cell? (a.add 1)=some (.int .i64 q)/\q9 P 190 [(Value.int .i64 q),(Value.int .i64 8),(Value.int .i64 10)] w (fun j0 f=>∃ r:Bool,j0=(.bool r)/\qp r (qno true a f K) (∃ s:Int,f.cell? (a.add 1)=some (.int .i64 s)/\q9 P 190 [(Value.int .i64 s),(Value.int .i64 20),(Value.int .i64 29)] f (fun l0 m0=>∃ t:Bool,l0=(.bool t)/\qno t a m0 K)))) (qp (d==10) (∃ u:Int,w.cell? (a.add 1)=some (.int .i64 u)/\qp (u==1) (qkg true a w K) (∃ v:Int,w.cell? (a.add 1)=some (.int .i64 v)/\q9 P 190 [(Value.int .i64 v),(Value.int .i64 8),(Value.int .i64 10)] w (fun n0 o0=>∃ x:Bool,n0=(.bool x)/\qkg x a o0 K))) (qp (d==11) (∃ y:Int,w.cell? (a.add 1)=some (.int .i64 y)/\qp (y==14) (qkI true a w K) (∃ z:Int,w.cell? (a.add 1)=some (.int .i64 z)/\qkI (z==15) a w K)) (qp (d==34) (∃ a0:Int,w.cell? (a.add 1)=some (.int .i64 a0)/\q9 P 190 [(Value.int .i64 a0),(Value.int .i64 0),(Value.int .i64 2)] w (fun p0 q0=>∃ b0:Bool,p0=(.bool b0)/\K (Value.bool b0) q0)) (qp (d==36) (∃ c0:Int,w.cell? (a.add 1)=some (.int .i64 c0)/\qp (c0==1) (qo6 true a w K) (∃ d0:Int,w.cell? (a.add 1)=some (.int .i64 d0)/\qo6 (d0==2) a w K)) (qmq a w K)))))))):=qB kr
theorem qhE:qjr c e d f w K=(qp (c==3) (q7t true d c w K) (q7t (c==4) d c w K)):=Eq.trans (b:=CS P (cA Qq 13) none [1] [2] (VH K) (qi.mk 83 [(4,(VI c)),(3,(VP (some e))),(2,(VB false)),(1,(VP (some d))),(0,(Value.agg f))] []) w) kr (Eq.trans (Zc 0 [2,1] (Qg K) kr) (Eq.trans (qZ [5,1,4] (qlw K) kr) (Eq.trans (qZ [5,1,4] (qBe K) kr) kr)))
theorem qdp:qm9 c d w K=(∃ e:Int,w.cell? c=some (.int .i64 e)/\qjr e c c d w K):=Eq.trans (b:=CS P (cA Qq 3) none [2] [2] (jF K) (qi.mk 83 [(2,(VB false)),(1,(VP (some c))),(0,(Value.agg d))] []) w) kr (Eq.trans (qZ [1] (VH K) kr) (Eq.trans (qZ [1,4] (qCj K) kr) kr))
theorem qcY:qjd c w K=(qv c 119 w (fun d e=>qm9 (Addr.mk d 0 none) c e K)):=Eq.trans (b:=CS P (cA Qq 1) none [2] [2] (jF K) (qi.mk 83 [(0,(Value.agg c))] []) w) kr (Eq.trans (qZ [1] (qyM K) kr) kr)
theorem qCS:f181 a w K=(qjd a w K):=kr
theorem qz3 a w K(h:f181 a w K):q9 P 181 [(Value.agg a)] w K:=qA Qq Tryz.func181 h
def Yh:=qm Tryz.f182
def qKP:=Tryz.f182.results.toList
abbrev jE K:=qr P qKP K
def f182 a w K:=CS P Yh none [2] [2] (jE K) (qz 26 [(Value.agg a)]) w
def qmd a w K:=SC Yh 1 [2] [2] (jE K) 26 [(0,Value.agg a)] w
abbrev qFo K:=kq Yh 1 [2] [2] (jE K)
def qmS a b w K:=SC Yh 3 [2] [2] (jE K) 26 [(2,VB false),(1,VQ a),(0,Value.agg b)] w
abbrev Vv K:=kq Yh 3 [2] [2] (jE K)
abbrev qDB K:=kq Yh 6 [1] [2] (Vv K)
def qm7 a b c d w K:=SC Yh 13 [1] [2] (Vv K) 26 [(4,VI a),(3,VQ b),(2,VB false),(1,VQ c),(0,Value.agg d)] w
abbrev q6G K:=qo 0 (Vv K)
abbrev qjC K:=kq Yh 26 [1] [2,1] (q6G K)
abbrev qEE K:=kq Yh 52 [5,1,4] [2,1] (qjC K)
def Qp a b c w K:=SG Yh 53 [1] [2,1] (q6G K) 26 [(5,VB a),(1,VQ b),(4,VI c)] w
def qjn a w K:=SG Yh 7 [2] [2] (jE K) 26 [(1,VQ a)] w
abbrev quk K:=kq Yh 7 [2] [2] (jE K)
theorem qfr:qjn c w K=(∃ d:Int,w.cell? (c.add 3)=some (.int .i64 d)/\K (Value.bool (d==0)) w):=qB (qG [2] (quk K) kr)
theorem qer:Qp d a c w K=(qp d (∃ e:Int,w.cell? (a.add 3)=some (.int .i64 e)/\q9 P 192 [(Value.int .i64 e)] w (fun i j=>∃ f:Bool,i=(.bool f)/\K (Value.bool f) j)) (qp (c==32) (∃ g:Int,w.cell? (a.add 3)=some (.int .i64 g)/\q9 P 193 [(Value.int .i64 g)] w (fun k l=>∃ h:Bool,k=(.bool h)/\K (Value.bool h) l)) (qp (c==5) (K (Value.bool true) w) (qjn a w K)))):=qB kr
theorem qhQ:qm7 c e d f w K=(qp (c==19) (Qp true d c w K) (qp (c==20) (Qp true d c w K) (qp (c==21) (Qp true d c w K) (qp (c==24) (Qp true d c w K) (qp (c==25) (Qp true d c w K) (qp (c==28) (Qp true d c w K) (Qp (c==29) d c w K))))))):=Eq.trans (b:=CS P (cA Yh 13) none [1] [2] (Vv K) (qi.mk 26 [(4,(VI c)),(3,(VP (some e))),(2,(VB false)),(1,(VP (some d))),(0,(Value.agg f))] []) w) kr (Eq.trans (Zc 0 [2,1] (q6G K) kr) (Eq.trans (qZ [5,1,4] (qjC K) kr) (Eq.trans (qZ [5,1,4] (qEE K) kr) kr)))
theorem qg3:qmS c d w K=(∃ e:Int,w.cell? c=some (.int .i64 e)/\qm7 e c c d w K):=Eq.trans (b:=CS P (cA Yh 3) none [2] [2] (jE K) (qi.mk 26 [(2,(VB false)),(1,(VP (some c))),(0,(Value.agg d))] []) w) kr (Eq.trans (qZ [1] (Vv K) kr) (Eq.trans (qZ [1,4] (qDB K) kr) kr))
theorem qgk:qmd c w K=(qv c 119 w (fun d e=>qmS (Addr.mk d 0 none) c e K)):=Eq.trans (b:=CS P (cA Yh 1) none [2] [2] (jE K) (qi.mk 26 [(0,(Value.agg c))] []) w) kr (Eq.trans (qZ [1] (qFo K) kr) kr)
theorem qzz:f182 a w K=(qmd a w K):=kr
theorem qE8 a w K(h:f182 a w K):q9 P 182 [(Value.agg a)] w K:=qA Yh Tryz.func182 h
def jH:=qm Tryz.f183
def qM4:=Tryz.f183.results.toList
abbrev jJ K:=qr P qM4 K
def f183 a w K:=CS P jH none [2] [2] (jJ K) (qz 84 [(Value.agg a)]) w
def qlI a w K:=SC jH 1 [2] [2] (jJ K) 84 [(0,Value.agg a)] w
abbrev qDp K:=kq jH 1 [2] [2] (jJ K)
def qkJ a b w K:=SC jH 3 [2] [2] (jJ K) 84 [(2,VB false),(1,VQ a),(0,Value.agg b)] w
abbrev Je K:=kq jH 3 [2] [2] (jJ K)
abbrev qyX K:=kq jH 6 [1] [2] (Je K)
def qnY a b c d w K:=SC jH 13 [1] [2] (Je K) 84 [(4,VI a),(3,VQ b),(2,VB false),(1,VQ c),(0,Value.agg d)] w
abbrev vv K:=qo 0 (Je K)
abbrev qor K:=kq jH 26 [1] [2,1] (vv K)
abbrev qEu K:=kq jH 52 [5,1,4] [2,1] (qor K)
def q7o a b c w K:=SG jH 53 [1] [2,1] (vv K) 84 [(5,VB a),(1,VQ b),(4,VI c)] w
def q1c a b c w K:=SG jH 215 [1] [2,1] (vv K) 84 [(11,VB a),(1,VQ b),(4,VI c)] w
def q70 a b c w K:=SG jH 863 [1] [2,1] (vv K) 84 [(20,VB a),(1,VQ b),(4,VI c)] w
def ql4 a b w K:=SG jH 221181 [1] [2,1] (vv K) 84 [(2,VB a),(1,VQ b)] w
def qko a b w K:=SG jH 884733 [1] [2,1] (vv K) 84 [(2,VB a),(1,VQ b)] w
def q0N a b c w K:=SG jH 884735 [1] [2,1] (vv K) 84 [(56,VB a),(1,VQ b),(4,VI c)] w
def q5k a b c w K:=SG jH 3538943 [1] [2,1] (vv K) 84 [(63,VB a),(1,VQ b),(4,VI c)] w
def q1O a b w K:=SG jH 14155775 [1] [2,1] (vv K) 84 [(69,VB a),(1,VQ b)] w
def qcO a b w K:=SG jH 56623101 [1] [2,1] (vv K) 84 [(2,VB a),(1,VQ b)] w
def qaQ a w K:=SG jH 7 [2] [2] (jJ K) 84 [(1,VQ a)] w
abbrev qwL K:=kq jH 7 [2] [2] (jJ K)
theorem q06:qaQ c w K=(∃ d:Int,w.cell? (c.add 8)=some (.int .i64 d)/\K (Value.bool (d==0)) w):=qB (qG [2] (qwL K) kr)
theorem JO:q1O c a w K=(qp c (∃ e:Int,w.cell? (a.add 8)=some (.int .i64 e)/\q9 P 190 [(Value.int .i64 e),(Value.int .i64 0),(Value.int .i64 508)] w (fun h d=>∃ f:Bool,h=(.bool f)/\qp f (∃ g:Int,d.cell? (a.add 8)=some (.int .i64 g)/\(4:Int)≠0/\qcO (((g.tmod 4):Int)==0) a d K) (qcO false a d K))) (qaQ a w K)):=qB kr
theorem q23:q5k d a c w K=(qp d (∃ e:Int,w.cell? (a.add 8)=some (.int .i64 e)/\q9 P 190 [(Value.int .i64 e),(Value.int .i64 0),(Value.int .i64 511)] w (fun g h=>∃ f:Bool,g=(.bool f)/\K (Value.bool f) h)) (qp (c==44) (q1O true a w K) (q1O (c==45) a w K))):=qB kr
theorem q1M:q0N d c a w K=(qp d (∃ e:Int,w.cell? (c.add 8)=some (.int .i64 e)/\q9 P 190 [(Value.int .i64 e),(Value.int .i64 1),(Value.int .i64 9)] w (fun g h=>∃ f:Bool,g=(.bool f)/\K (Value.bool f) h)) (qp (a==42) (q5k true c a w K) (q5k (a==43) c a w K))):=qB kr
theorem q1L:q70 d a c w K=(qp d (∃ f:Int,w.cell? (a.add 8)=some (.int .i64 f)/\q9 P 194 [(Value.int .i64 f),(Value.int .i64 128)] w (fun q r=>∃ g:Bool,q=(.bool g)/\K (Value.bool g) r)) (qp (c==33) (∃ h:Int,w.cell? (a.add 8)=some (.int .i64 h)/\q9 P 190 [(Value.int .i64 h),(Value.int .i64 1),(Value.int .i64 16)] w (fun s t=>∃ i:Bool,s=(.bool i)/\K (Value.bool i) t)) (qp (c==35) (∃ j:Int,w.cell? (a.add 8)=some (.int .i64 j)/\q9 P 190 [(Value.int .i64 j),(Value.int .i64 0),(Value.int .i64 7)] w (fun u v=>∃ k:Bool,u=(.bool k)/\K (Value.bool k) v)) (qp (c==37) (∃ l:Int,w.cell? (a.add 8)=some (.int .i64 l)/\q9 P 190 [(Value.int .i64 l),(Value.int .i64 0),(Value.int .i64 8)] w (fun x e=>∃ m:Bool,x=(.bool m)/\qp m (∃ n:Int,e.cell? (a.add 9)=some (.int .u32 n)/\ql4 (decide (n<=1000000)) a e K) (ql4 false a e K))) (qp (c==38) (∃ o:Int,w.cell? (a.add 8)=some (.int .i64 o)/\qp (o==4) (qko true a w K) (∃ p:Int,w.cell? (a.add 8)=some (.int .i64 p)/\qko (p==8) a w K)) (qp (c==39) (q0N true a c w K) (qp (c==40) (q0N true a c w K) (q0N (c==41) a c w K)))))))):=qB kr
theorem q3k:q1c d a c w K=(qp d (∃ e:Int,w.cell? (a.add 8)=some (.int .i64 e)/\∃ f:Int,w.cell? (a.add 3)=some (.int .i64 f)/\q9 P 194 [(Value.int .i64 e),(Value.int .i64 f)] w (fun h i=>∃ g:Bool,h=(.bool g)/\K (Value.bool g) i)) (qp (c==22) (q70 true a c w K) (q70 (c==23) a c w K))):=qB kr
theorem q2u:q7o d c a w K=(qp d (∃ e:Int,w.cell? (c.add 8)=some (.int .i64 e)/\q9 P 190 [(Value.int .i64 e),(Value.int .i64 0),(Value.int .i64 3)] w (fun g h=>∃ f:Bool,g=(.bool f)/\K (Value.bool f) h)) (qp (a==19) (q1c true c a w K) (qp (a==20) (q1c true c a w K) (q1c (a==21) c a w K)))):=qB kr
theorem q28:qnY c e d f w K=(qp (c==15) (q7o true d c w K) (q7o (c==16) d c w K)):=Eq.trans (b:=CS P (cA jH 13) none [1] [2] (Je K) (qi.mk 84 [(4,(VI c)),(3,(VP (some e))),(2,(VB false)),(1,(VP (some d))),(0,(Value.agg f))] []) w) kr (Eq.trans (Zc 0 [2,1] (vv K) kr) (Eq.trans (qZ [5,1,4] (qor K) kr) (Eq.trans (qZ [5,1,4] (qEu K) kr) kr)))
theorem qex:qkJ c d w K=(∃ e:Int,w.cell? c=some (.int .i64 e)/\qnY e c c d w K):=Eq.trans (b:=CS P (cA jH 3) none [2] [2] (jJ K) (qi.mk 84 [(2,(VB false)),(1,(VP (some c))),(0,(Value.agg d))] []) w) kr (Eq.trans (qZ [1] (Je K) kr) (Eq.trans (qZ [1,4] (qyX K) kr) kr))
theorem qel:qlI c w K=(qv c 119 w (fun d e=>qkJ (Addr.mk d 0 none) c e K)):=Eq.trans (b:=CS P (cA jH 1) none [2] [2] (jJ K) (qi.mk 84 [(0,(Value.agg c))] []) w) kr (Eq.trans (qZ [1] (qDp K) kr) kr)
theorem qDG:f183 a w K=(qlI a w K):=kr
theorem qD7 a w K(h:f183 a w K):q9 P 183 [(Value.agg a)] w K:=qA jH Tryz.func183 h
def qeJ:=qm Tryz.f184
def qKY:=Tryz.f184.results.toList
abbrev V5 K:=qr P qKY K
def f184 a b c d w K:=CS P qeJ none [8] [8] (V5 K) (qz 29 [(VI a),(VI b),(VI c),(VI d)]) w
def qoo a b c d w K:=SG qeJ 7 [8] [8] (V5 K) 29 [(3,VI a),(0,VI b),(2,VI c),(1,VI d)] w
abbrev qCF K:=kq qeJ 7 [8] [8] (V5 K)
def qkK a w K:=SG qeJ 117 [2,0] [8] (qCF K) 29 [(8,VB a)] w
def qmZ a b w K:=SG qeJ 15 [8] [8] (V5 K) 29 [(2,VI a),(0,VI b)] w
def q6W a w K:=SG qeJ 31 [8] [8] (V5 K) 29 [(8,VB a)] w
theorem qh0:q6W a w K=(K (Value.bool a) w):=kr
theorem qdV:qmZ b a w K=(qp (decide (a>=0)) (q6W (decide (a<b)) w K) (q6W false w K)):=kr
theorem qdQ:qoo b a c d w K=(qp (d==2) (qp (decide (a>=0)) (qkK (decide (a<b)) w K) (qkK false w K)) (qmZ c a w K)):=kr
theorem qF6:f184 a b c d w K=(qp (b==0) (K (Value.bool (a==0)) w) (qoo d a c b w K)):=kr
theorem qCy a b c d w K(h:f184 a b c d w K):q9 P 184 [(Value.int .i64 a),(Value.int .i64 b),(Value.int .i64 c),(Value.int .i64 d)] w K:=qA qeJ Tryz.func184 h
def qGm:=qm Tryz.f190
def qKZ:=Tryz.f190.results.toList
abbrev qkO K:=qr P qKZ K
def f190 a b c w K:=CS P qGm none [6] [6] (qkO K) (qz 15 [(VI a),(VI b),(VI c)]) w
def q7q a w K:=SG qGm 7 [6] [6] (qkO K) 15 [(6,VB a)] w
theorem qfj:q7q a w K=(K (Value.bool a) w):=kr
theorem qAb:f190 a b c w K=(qp (decide (a>=b)) (q7q (decide (a<=c)) w K) (q7q false w K)):=kr
theorem qAj a b c w K(h:f190 a b c w K):q9 P 190 [(Value.int .i64 a),(Value.int .i64 b),(Value.int .i64 c)] w K:=qA qGm Tryz.func190 h
def Qa:=qm Tryz.f157
def qMf:=Tryz.f157.results.toList
abbrev Qk K:=qr P qMf K
def f157 a b c w K:=CS P Qa none [6] [6] (Qk K) (qz 104 [(Value.agg a),(VI b),(VI c)]) w
abbrev qEz K:=kq Qa 7 [6] [6] (Qk K)
def V6 a b c d f w K:=SG Qa 29 [2,1,7,3] [6] (qEz K) 104 [(30,VB a),(2,VI b),(1,VI c),(7,VQ d),(3,VQ f)] w
def q1g a b c d w K:=SG Qa 15 [6] [6] (Qk K) 104 [(2,VI a),(1,VI b),(7,VQ c),(3,VQ d)] w
abbrev q0z K:=kq Qa 15 [6] [6] (Qk K)
abbrev ZW K:=kq Qa 30 [2,1,7,3] [6] (q0z K)
def q0Y a b c d f w K:=SG Qa 61 [2,1,7,3] [6] (q0z K) 104 [(69,VB a),(2,VI b),(1,VI c),(7,VQ d),(3,VQ f)] w
def qkm a b c d w K:=SG Qa 31 [6] [6] (Qk K) 104 [(2,VI a),(1,VI b),(7,VQ c),(3,VQ d)] w
def VW a w K:=SG Qa 63 [6] [6] (Qk K) 104 [(6,VB a)] w
theorem qdh:VW a w K=(K (Value.bool a) w):=kr
theorem qhr:qkm a b c d w K=(∃ h:Int,w.cell? (d.add 4)=some (.int .i64 h)/\∃ i:Int,w.cell? (c.add 3)=some (.int .i64 i)/\q9 P 184 [(Value.int .i64 h),(Value.int .i64 i),(Value.int .i64 b),(Value.int .i64 a)] w (fun t e=>∃ j:Bool,t=(.bool j)/\qp j (∃ k:Int,e.cell? (d.add 5)=some (.int .i64 k)/\∃ l:Int,e.cell? (c.add 4)=some (.int .i64 l)/\q9 P 184 [(Value.int .i64 k),(Value.int .i64 l),(Value.int .i64 b),(Value.int .i64 a)] e (fun u f=>∃ m:Bool,u=(.bool m)/\qp m (∃ n:Int,f.cell? (d.add 6)=some (.int .i64 n)/\∃ o:Int,f.cell? (c.add 5)=some (.int .i64 o)/\q9 P 184 [(Value.int .i64 n),(Value.int .i64 o),(Value.int .i64 b),(Value.int .i64 a)] f (fun v g=>∃ p:Bool,v=(.bool p)/\qp p (∃ q:Int,g.cell? (d.add 7)=some (.int .i64 q)/\∃ r:Int,g.cell? (c.add 6)=some (.int .i64 r)/\q9 P 184 [(Value.int .i64 q),(Value.int .i64 r),(Value.int .i64 b),(Value.int .i64 a)] g (fun x y=>∃ s:Bool,x=(.bool s)/\VW s y K)) (VW false g K))) (VW false f K))) (VW false e K))):=kr
theorem qhL:q0Y a b c d e w K=(qp a (K (Value.bool false) w) (qkm b c d e w K)):=kr
theorem qfz:V6 a b c d e w K=(qp a (K (Value.bool false) w) (q1g b c d e w K)):=kr
theorem qA1:f157 h b c w K=(qv h 119 w (fun a i=>qU 15 (Addr.mk a 0 none) i (fun o=>q9 P 180 [(Value.agg o)] i (fun p q=>∃ j:Array Value,∃ k:Bool,p=(.tuple #[(Value.agg j),(Value.bool k)])/\qv (qx P 172) 172 q (fun d r=>zT 11 (Addr.mk d 0 none) j r (fun e=>qp (!k) (V6 true c b (Addr.mk d 0 none) (Addr.mk a 0 none) e K) (qU 15 (Addr.mk a 0 none) e (fun s=>q9 P 181 [(Value.agg s)] e (fun t f=>∃ l:Bool,t=(.bool l)/\qp (!l) (V6 true c b (Addr.mk d 0 none) (Addr.mk a 0 none) f K) (qU 15 (Addr.mk a 0 none) f (fun u=>q9 P 182 [(Value.agg u)] f (fun v g=>∃ m:Bool,v=(.bool m)/\qp (!m) (V6 true c b (Addr.mk d 0 none) (Addr.mk a 0 none) g K) (qU 15 (Addr.mk a 0 none) g (fun x=>q9 P 183 [(Value.agg x)] g (fun y z=>∃ n:Bool,y=(.bool n)/\V6 (!n) c b (Addr.mk d 0 none) (Addr.mk a 0 none) z K))))))))))))))):=kr
theorem qyy a b c w K(h:f157 a b c w K):q9 P 157 [(Value.agg a),(Value.int .i64 b),(Value.int .i64 c)] w K:=qA Qa Tryz.func157 h
end Go.Fx.Tryz
