/- A part of the proof. -/
import Derived.Test.YtepbaneageipfaaGreatDoorKaEc
import Derived.KernelRfl
import Derived.Test.YtepbaneageipfaaGreatDoorKcEc
import Derived.Sort.Walk13a
import Derived.Test.YtepbaneageipfaaGreatDoorKbEc
set_option linter.all false
set_option autoImplicit true
set_option relaxedAutoImplicit true
noncomputable section
namespace Go.Fx.Tryz
set_option maxRecDepth 100000
open Go Go.Fx Go.Proofs
def zf:=ql Tryz.f150
def qJn:=Tryz.f150.results.toList
abbrev qX K:=qr P qJn K
def f150 a b c d e f w K:=CS P zf none [8,9] [8,9] (qX K) (qz 168 [(VS a b c),(VI d),(VI e),(VI f)]) w
def qis a b c d e f w K:=SC zf 1 [8,9] [8,9] (qX K) 168 [(0,VS a b c),(1,VI d),(2,VI e),(3,VI f)] w
abbrev qzw K:=kq zf 1 [8,9] [8,9] (qX K)
def qlf a b c d e f g w K:=SC zf 3 [8,9] [8,9] (qX K) 168 [(9,VB false),(8,VI a),(0,VS b c d),(1,VI e),(2,VI f),(3,VI g)] w
abbrev qBQ K:=kq zf 3 [8,9] [8,9] (qX K)
def qlB a b c d f g h w K:=SG zf 7 [8,9] [8,9] (qX K) 168 [(8,VI a),(9,VB b),(0,VS c d f),(1,VI g),(2,VI h)] w
abbrev qAa K:=kq zf 7 [8,9] [8,9] (qX K)
def qmD a b c d e f g h i j k l m w K:=SC zf 15 [8,9] [8,9] (qX K) 168 [(11,VI a),(10,VI b),(29,VI c),(28,VI d),(27,VI e),(26,VI f),(8,VI g),(9,VB h),(0,VS i j k),(1,VI l),(2,VI m)] w
abbrev qlk K:=kq zf 15 [8,9] [8,9] (qX K)
abbrev q56 K:=qp 0 (qlk K)
def qtr K Y4 e w:=zv (fun e w=>CS P (cA zf 120) none [10,8,9,11,0,1] [8,9,11,0,1,10] (qv [10,8,9,11,0,1] Y4 (q56 K)) e w) e w
abbrev VG K Y4:=qv [10,8,9,11,0,1] Y4 (q56 K)
def qcm a b c d f g h i w K Y4:=SG zf 120 [10,8,9,11,0,1] [8,9,11,0,1,10] (VG K Y4) 168 [(10,VI a),(8,VI b),(9,VB c),(11,VI d),(0,VS f g h),(1,VI i)] w
abbrev q6I K Y4:=kq zf 120 [10,8,9,11,0,1] [8,9,11,0,1,10] (VG K Y4)
abbrev qA2 K Y4:=kq zf 240 [8,9,11,0,1,10] [8,9,11,0,1,10] (q6I K Y4)
def q6u a b c d f g h i j w K Y4:=SG zf 481 [8,9,11,0,1,10] [8,9,11,0,1,10] (q6I K Y4) 168 [(43,VB a),(8,VI b),(9,VB c),(11,VI d),(0,VS f g h),(1,VI i),(10,VI j)] w
def qkG a b c d f g h i w K Y4:=SG zf 241 [10,8,9,11,0,1] [8,9,11,0,1,10] (VG K Y4) 168 [(8,VI a),(9,VB b),(11,VI c),(0,VS d f g),(1,VI h),(10,VI i)] w
abbrev qzu K Y4:=qp 1 (VG K Y4)
theorem qgQ:qkG a c d e f g h i w K Y4=(Y4 (qi.mk 168 [(10,(Value.int .i64 (IntKind.wrap .i64 (i+1)))),(8,(Value.int .i64 a)),(9,(Value.bool c)),(11,(Value.int .i64 d)),(0,(Value.slice e f g)),(1,(Value.int .i64 h))] []) w):=qD (Qp 1 [8,9,11,0,1,10] (qzu K Y4) kr)
def q5T a b c d f g h i w K:=SG zf 31 [8,9] [8,9] (qX K) 168 [(11,VI a),(8,VI b),(9,VB c),(0,VS d f g),(1,VI h),(10,VI i)] w
abbrev qml K:=kq zf 31 [8,9] [8,9] (qX K)
abbrev q6S K:=qp 2 (qml K)
def qtN K Y8 e w:=zv (fun e w=>CS P (cA zf 248) none [11,8,9,0,1,10] [8,9,11,0,1,10] (qv [11,8,9,0,1,10] Y8 (q6S K)) e w) e w
abbrev YY K Y8:=qv [11,8,9,0,1,10] Y8 (q6S K)
def q8B a b c d f g h i w K Y8:=SG zf 248 [11,8,9,0,1,10] [8,9,11,0,1,10] (YY K Y8) 168 [(11,VI a),(8,VI b),(9,VB c),(0,VS d f g),(1,VI h),(10,VI i)] w
abbrev q1r K Y8:=kq zf 248 [11,8,9,0,1,10] [8,9,11,0,1,10] (YY K Y8)
abbrev qwj K Y8:=kq zf 496 [8,9,0,1,10,11] [8,9,11,0,1,10] (q1r K Y8)
def q60 a b c d f g h i j w K Y8:=SG zf 993 [8,9,0,1,10,11] [8,9,11,0,1,10] (q1r K Y8) 168 [(60,VB a),(8,VI b),(9,VB c),(0,VS d f g),(1,VI h),(10,VI i),(11,VI j)] w
def qbF a b c d f g h i w K Y8:=SG zf 497 [11,8,9,0,1,10] [8,9,11,0,1,10] (YY K Y8) 168 [(8,VI a),(9,VB b),(0,VS c d f),(1,VI g),(10,VI h),(11,VI i)] w
abbrev qt7 K Y8:=qp 3 (YY K Y8)
theorem qaK:qbF a c d e f g h i w K Y8=(Y8 (qi.mk 168 [(11,(Value.int .i64 (IntKind.wrap .i64 (i-1)))),(8,(Value.int .i64 a)),(9,(Value.bool c)),(0,(Value.slice d e f)),(1,(Value.int .i64 g)),(10,(Value.int .i64 h))] []) w):=qD (Qp 3 [8,9,11,0,1,10] (qt7 K Y8) kr)
def q2W a b c d f g h i w K:=SG zf 63 [8,9] [8,9] (qX K) 168 [(11,VI a),(0,VS b c d),(1,VI f),(8,VI g),(9,VB h),(10,VI i)] w
abbrev V9 K:=kq zf 63 [8,9] [8,9] (qX K)
abbrev quB K:=kq zf 126 [8,9,0,1,11,10] [8,9] (V9 K)
def q9I a w K:=SG zf 1013 [8,9,0,1,11,10] [8,9] (V9 K) 168 [(11,VI a)] w
abbrev qwS K:=kq zf 1013 [8,9,0,1,11,10] [8,9] (V9 K)
theorem q8X:q9I c w K=(K (Value.tuple #[(Value.int .i64 c),(Value.bool true)]) w):=qD (qH [8,9] (qwS K) kr)
def qam a b c d f g h i w K:=SG zf 127 [8,9] [8,9] (qX K) 168 [(8,VI a),(9,VB b),(0,VS c d f),(1,VI g),(11,VI h),(10,VI i)] w
abbrev qtT K:=kq zf 127 [8,9] [8,9] (qX K)
def q9j a b c d f g h i w K:=SG zf 255 [8,9] [8,9] (qX K) 168 [(8,VI a),(9,VB b),(0,VS c d f),(1,VI g),(11,VI h),(10,VI i)] w
abbrev qt4 K:=kq zf 255 [8,9] [8,9] (qX K)
def q80 a b c d e f g h i j k w K:=SC zf 511 [8,9] [8,9] (qX K) 168 [(10,VI a),(96,VI b),(95,VI c),(8,VI d),(9,VB e),(0,VS f g h),(1,VI i),(11,VI j),(10,VI k)] w
abbrev qw4 K:=kq zf 511 [8,9] [8,9] (qX K)
def q8o a b c d e f g h i j k l m n w K:=SC zf 1023 [8,9] [8,9] (qX K) 168 [(11,VI a),(98,VI b),(97,VI c),(10,VI d),(96,VI e),(95,VI f),(8,VI g),(9,VB h),(0,VS i j k),(1,VI l),(11,VI m),(10,VI n)] w
abbrev qaO K:=kq zf 1023 [8,9] [8,9] (qX K)
abbrev q2t K:=qp 4 (qaO K)
def q4h K Y17 e w:=zv (fun e w=>CS P (cA zf 8184) none [10,8,9,11,0,1] [8,9,11,0,1] (qv [10,8,9,11,0,1] Y17 (q2t K)) e w) e w
abbrev q4B K Y17:=qv [10,8,9,11,0,1] Y17 (q2t K)
def q4r a b c d f g h i w K Y17:=SG zf 8184 [10,8,9,11,0,1] [8,9,11,0,1] (q4B K Y17) 168 [(10,VI a),(8,VI b),(9,VB c),(11,VI d),(0,VS f g h),(1,VI i)] w
abbrev yR K Y17:=qp 5 (q4B K Y17)
abbrev qat K Y17:=kq zf 16368 [10,8,9,11,0,1] [8,9,11,0,1,10] (yR K Y17)
abbrev q2n K Y17:=qp 6 (qat K Y17)
def qp3 K Y17 Y18 e w:=zv (fun e w=>CS P (cA zf 130944) none [10,8,9,11,0,1] [8,9,11,0,1,10] (qv [10,8,9,11,0,1] Y18 (q2n K Y17)) e w) e w
abbrev ZU K Y17 Y18:=qv [10,8,9,11,0,1] Y18 (q2n K Y17)
def q42 a b c d f g h i w K Y17 Y18:=SG zf 130944 [10,8,9,11,0,1] [8,9,11,0,1,10] (ZU K Y17 Y18) 168 [(10,VI a),(8,VI b),(9,VB c),(11,VI d),(0,VS f g h),(1,VI i)] w
abbrev q2c K Y17 Y18:=kq zf 130944 [10,8,9,11,0,1] [8,9,11,0,1,10] (ZU K Y17 Y18)
abbrev qud K Y17 Y18:=kq zf 261888 [8,9,11,0,1,10] [8,9,11,0,1,10] (q2c K Y17 Y18)
def q37 a b c d f g h i j w K Y17 Y18:=SG zf 523777 [8,9,11,0,1,10] [8,9,11,0,1,10] (q2c K Y17 Y18) 168 [(112,VB a),(8,VI b),(9,VB c),(11,VI d),(0,VS f g h),(1,VI i),(10,VI j)] w
def qax a b c d f g h i w K Y17 Y18:=SG zf 261889 [10,8,9,11,0,1] [8,9,11,0,1,10] (ZU K Y17 Y18) 168 [(8,VI a),(9,VB b),(11,VI c),(0,VS d f g),(1,VI h),(10,VI i)] w
abbrev qvr K Y17 Y18:=qp 7 (ZU K Y17 Y18)
theorem qay:qax a c d e f g h i w K Y17 Y18=(Y18 (qi.mk 168 [(10,(Value.int .i64 (IntKind.wrap .i64 (i+1)))),(8,(Value.int .i64 a)),(9,(Value.bool c)),(11,(Value.int .i64 d)),(0,(Value.slice e f g)),(1,(Value.int .i64 h))] []) w):=qD (Qp 7 [8,9,11,0,1,10] (qvr K Y17 Y18) kr)
def q1N a b c d f g h i w K Y17:=SG zf 32737 [10,8,9,11,0,1] [8,9,11,0,1,10] (yR K Y17) 168 [(11,VI a),(8,VI b),(9,VB c),(0,VS d f g),(1,VI h),(10,VI i)] w
abbrev qag K Y17:=kq zf 32737 [10,8,9,11,0,1] [8,9,11,0,1,10] (yR K Y17)
abbrev q2p K Y17:=qp 8 (qag K Y17)
def qqV K Y17 Y22 e w:=zv (fun e w=>CS P (cA zf 261896) none [11,8,9,0,1,10] [8,9,11,0,1,10] (qv [11,8,9,0,1,10] Y22 (q2p K Y17)) e w) e w
abbrev ZV K Y17 Y22:=qv [11,8,9,0,1,10] Y22 (q2p K Y17)
def q45 a b c d f g h i w K Y17 Y22:=SG zf 261896 [11,8,9,0,1,10] [8,9,11,0,1,10] (ZV K Y17 Y22) 168 [(11,VI a),(8,VI b),(9,VB c),(0,VS d f g),(1,VI h),(10,VI i)] w
abbrev q1E K Y17 Y22:=kq zf 261896 [11,8,9,0,1,10] [8,9,11,0,1,10] (ZV K Y17 Y22)
abbrev quL K Y17 Y22:=kq zf 523792 [8,9,0,1,10,11] [8,9,11,0,1,10] (q1E K Y17 Y22)
def q2X a b c d f g h i j w K Y17 Y22:=SG zf 1047585 [8,9,0,1,10,11] [8,9,11,0,1,10] (q1E K Y17 Y22) 168 [(129,VB a),(8,VI b),(9,VB c),(0,VS d f g),(1,VI h),(10,VI i),(11,VI j)] w
def q9Q a b c d f g h i w K Y17 Y22:=SG zf 523793 [11,8,9,0,1,10] [8,9,11,0,1,10] (ZV K Y17 Y22) 168 [(8,VI a),(9,VB b),(0,VS c d f),(1,VI g),(10,VI h),(11,VI i)] w
abbrev qvL K Y17 Y22:=qp 9 (ZV K Y17 Y22)
theorem q9a:q9Q a c d e f g h i w K Y17 Y22=(Y22 (qi.mk 168 [(11,(Value.int .i64 (IntKind.wrap .i64 (i-1)))),(8,(Value.int .i64 a)),(9,(Value.bool c)),(0,(Value.slice d e f)),(1,(Value.int .i64 g)),(10,(Value.int .i64 h))] []) w):=qD (Qp 9 [8,9,11,0,1,10] (qvL K Y17 Y22) kr)
def q2d a b c d f g h i w K Y17:=SG zf 65475 [10,8,9,11,0,1] [8,9,11,0,1,10] (yR K Y17) 168 [(8,VI a),(9,VB b),(11,VI c),(0,VS d f g),(1,VI h),(10,VI i)] w
abbrev q8v K Y17:=kq zf 65475 [10,8,9,11,0,1] [8,9,11,0,1,10] (yR K Y17)
abbrev qu0 K Y17:=kq zf 130950 [8,9,0,1,11,10] [8,9,11,0,1,10] (q8v K Y17)
def q8D a b c d f w K:=SG zf 2047 [8,9] [8,9] (qX K) 168 [(11,VI a),(0,VS b c d),(1,VI f)] w
abbrev qrD K:=kq zf 2047 [8,9] [8,9] (qX K)
def qbR a w K:=SG zf 4095 [8,9] [8,9] (qX K) 168 [(11,VI a)] w
abbrev qvS K:=kq zf 4095 [8,9] [8,9] (qX K)
theorem qaa:qbR c w K=(K (Value.tuple #[(Value.int .i64 c),(Value.bool false)]) w):=qD (qH [8,9] (qvS K) kr)
theorem q9o:q8D c e f g d w K=(qh e (fun j=>0<=d/\d<(f:Nat)/\qh e (fun k=>0<=c/\c<(f:Nat)/\∃ h:Int,w.drew.cell? (j.add (Int.toNat d*1))=some (.int .u32 h)/\∃ i:Int,w.drew.cell? (k.add (Int.toNat c*1))=some (.int .u32 i)/\qh e (fun l=>0<=c/\c<(f:Nat)/\zX (l.add (Int.toNat c*1)) (Value.int .u32 h) w.drew (fun m=>qh e (fun n=>0<=d/\d<(f:Nat)/\zX (n.add (Int.toNat d*1)) (Value.int .u32 i) m (fun o=>qbR c o K))))))):=qD (qH [11] (qrD K) kr)
def qa3 a b c d f g h i w K Y17:=SG zf 130951 [10,8,9,11,0,1] [8,9,11,0,1,10] (yR K Y17) 168 [(8,VI a),(9,VB b),(0,VS c d f),(1,VI g),(11,VI h),(10,VI i)] w
abbrev qrm K Y17:=kq zf 130951 [10,8,9,11,0,1] [8,9,11,0,1,10] (yR K Y17)
def q8E a b c d f g h i w K Y17:=SG zf 261903 [10,8,9,11,0,1] [8,9,11,0,1,10] (yR K Y17) 168 [(8,VI a),(9,VB b),(0,VS c d f),(1,VI g),(11,VI h),(10,VI i)] w
abbrev qui K Y17:=kq zf 261903 [10,8,9,11,0,1] [8,9,11,0,1,10] (yR K Y17)
theorem q9S:q8E c d e f g h i j w K Y17=(Y17 (qi.mk 168 [(10,(Value.int .i64 (IntKind.wrap .i64 (j+1)))),(8,(Value.int .i64 c)),(9,(Value.bool d)),(11,(Value.int .i64 (IntKind.wrap .i64 (i-1)))),(0,(Value.slice e f g)),(1,(Value.int .i64 h))] []) w):=qD (qH [10,8,9,0,1,11] (qui K Y17) kr)
theorem qb7:qa3 g h e f i j c d w K Y17=(qh e (fun m=>0<=c/\c<(f:Nat)/\qh e (fun n=>0<=d/\d<(f:Nat)/\∃ k:Int,w.drew.cell? (m.add (Int.toNat c*1))=some (.int .u32 k)/\∃ l:Int,w.drew.cell? (n.add (Int.toNat d*1))=some (.int .u32 l)/\qh e (fun o=>0<=d/\d<(f:Nat)/\zX (o.add (Int.toNat d*1)) (Value.int .u32 k) w.drew (fun p=>qh e (fun q=>0<=c/\c<(f:Nat)/\zX (q.add (Int.toNat c*1)) (Value.int .u32 l) p (fun r=>q8E g h e f i j c d r K Y17))))))):=qD (qH [8,9,0,1,11,10] (qrm K Y17) kr)
theorem q9p:q2d i j c d e f g h w K Y17=(qo (decide (h > c)) (q8D c d e f g w K) (qa3 i j d e f g c h w K Y17)):=qD (qH [8,9,0,1,11,10] (q8v K Y17) (qH [134,8,9,11,0,1,10] (qu0 K Y17) kr))
theorem q07:q2X j a c d e f g h i w K Y17 Y22=(qo j (q9Q a c d e f g h i w K Y17 Y22) (q2d a c i d e f g h w K Y17)):=qD kr
theorem q6Z:q45 c h i e f j d g w K Y17 Y22=(qo (decide (g<=c)) (qh e (fun n=>0<=c/\c<(f:Nat)/\qh e (fun o=>0<=d/\d<(f:Nat)/\∃ k:Int,w.drew.cell? (n.add (Int.toNat c*1))=some (.int .u32 k)/\∃ l:Int,w.drew.cell? (o.add (Int.toNat d*1))=some (.int .u32 l)/\q9 P 148 [(Value.int .u32 k),(Value.int .u32 l)] w.drew (fun p q=>∃ m:Bool,p=(.bool m)/\q2X (!m) h i e f j d g c q K Y17 Y22)))) (q2X false h i e f j d g c w.drew K Y17 Y22)):=qD (qH [8,9,0,1,10,11] (q1E K Y17 Y22) (qH [129,8,9,0,1,10,11] (quL K Y17 Y22) kr))
theorem q8W:q1N c d e f g h i j w K Y17=(qO (qqV K Y17) (qi.mk 168 [(11,(Value.int .i64 c)),(8,(Value.int .i64 d)),(9,(Value.bool e)),(0,(Value.slice f g h)),(1,(Value.int .i64 i)),(10,(Value.int .i64 j))] []) w):=qD (qH [8,9,11,0,1,10] (qag K Y17) (Qp 8 [8,9,11,0,1,10] (q2p K Y17) (CSv [8,9,11,0,1,10] [11,8,9,0,1,10])))
theorem JW:q37 j a c d e f g h i w K Y17 Y18=(qo j (qax a c d e f g h i w K Y17 Y18) (q1N d a c e f g h i w K Y17)):=qD kr
theorem q6r:q42 c h i g e f j d w K Y17 Y18=(qo (decide (c<=g)) (qh e (fun n=>0<=c/\c<(f:Nat)/\qh e (fun o=>0<=d/\d<(f:Nat)/\∃ k:Int,w.drew.cell? (n.add (Int.toNat c*1))=some (.int .u32 k)/\∃ l:Int,w.drew.cell? (o.add (Int.toNat d*1))=some (.int .u32 l)/\q9 P 148 [(Value.int .u32 k),(Value.int .u32 l)] w.drew (fun p q=>∃ m:Bool,p=(.bool m)/\q37 m h i g e f j d c q K Y17 Y18)))) (q37 false h i g e f j d c w.drew K Y17 Y18)):=qD (qH [8,9,11,0,1,10] (q2c K Y17 Y18) (qH [112,8,9,11,0,1,10] (qud K Y17 Y18) kr))
theorem q5w:q4r c d e f g h i j w K Y17=(qO (qp3 K Y17) (qi.mk 168 [(10,(Value.int .i64 c)),(8,(Value.int .i64 d)),(9,(Value.bool e)),(11,(Value.int .i64 f)),(0,(Value.slice g h i)),(1,(Value.int .i64 j))] []) w):=qD (Qp 5 [8,9,11,0,1,10] (yR K Y17) (qH [11,8,9,0,1,10] (qat K Y17) (Qp 6 [8,9,11,0,1,10] (q2n K Y17) (CSv [8,9,11,0,1,10] [10,8,9,11,0,1]))))
theorem qbc:q8o c k l d m n e f g h i j o p w K=(qO (q4h K) (qi.mk 168 [(10,(Value.int .i64 d)),(8,(Value.int .i64 e)),(9,(Value.bool f)),(11,(Value.int .i64 c)),(0,(Value.slice g h i)),(1,(Value.int .i64 j))] []) w):=Eq.trans (b:=CS P (cA zf 1023) none [8,9] [8,9] (qX K) (qi.mk 168 [(11,(VI c)),(98,(VI k)),(97,(VI l)),(10,(VI d)),(96,(VI m)),(95,(VI n)),(8,(VI e)),(9,(VB f)),(0,(VS g h i)),(1,(VI j)),(11,(VI o)),(10,(VI p))] []) w) kr (Eq.trans (zh [11,0,1] (qaO K) kr) (Eq.trans (Zk 4 [8,9,11,0,1] (q2t K) kr) ((zb (b:=(cA zf 8184)) (X':=[8,9,11,0,1]) (H:=[10,8,9,11,0,1]) kr kr kr).trans kr)))
theorem qaj:q80 d e f g h i j k l c m w K=(q8o (IntKind.wrap .i64 (c-1)) (IntKind.wrap .i64 (c-1)) c d e f g h i j k l c m w K):=Eq.trans (b:=CS P (cA zf 511) none [8,9] [8,9] (qX K) (qi.mk 168 [(10,(VI d)),(96,(VI e)),(95,(VI f)),(8,(VI g)),(9,(VB h)),(0,(VS i j k)),(1,(VI l)),(11,(VI c)),(10,(VI m))] []) w) kr (Eq.trans (zh [10,8,9,11,0,1] (qw4 K) kr) kr)
theorem qbS:q9j d e f g h i j c w K=(q80 (IntKind.wrap .i64 (c+1)) (IntKind.wrap .i64 (c+1)) c d e f g h i j c w K):=qD (qH [10,8,9,0,1,11] (qt4 K) kr)
theorem q9D:qam g h e f i j c d w K=(qh e (fun m=>0<=c/\c<(f:Nat)/\qh e (fun n=>0<=d/\d<(f:Nat)/\∃ k:Int,w.drew.cell? (m.add (Int.toNat c*1))=some (.int .u32 k)/\∃ l:Int,w.drew.cell? (n.add (Int.toNat d*1))=some (.int .u32 l)/\qh e (fun o=>0<=d/\d<(f:Nat)/\zX (o.add (Int.toNat d*1)) (Value.int .u32 k) w.drew (fun p=>qh e (fun q=>0<=c/\c<(f:Nat)/\zX (q.add (Int.toNat c*1)) (Value.int .u32 l) p (fun r=>q9j g h e f i j c d r K))))))):=qD (qH [8,9,0,1,11,10] (qtT K) kr)
theorem qc5:q2W c e f h d i j g w K=(qo (decide (g > c)) (qh e (fun m=>0<=d/\d<(f:Nat)/\qh e (fun n=>0<=c/\c<(f:Nat)/\∃ k:Int,w.drew.cell? (m.add (Int.toNat d*1))=some (.int .u32 k)/\∃ l:Int,w.drew.cell? (n.add (Int.toNat c*1))=some (.int .u32 l)/\qh e (fun o=>0<=c/\c<(f:Nat)/\zX (o.add (Int.toNat c*1)) (Value.int .u32 k) w.drew (fun p=>qh e (fun q=>0<=d/\d<(f:Nat)/\zX (q.add (Int.toNat d*1)) (Value.int .u32 l) p (fun r=>q9I c r K))))))) (qam i j e f h d c g w K)):=qD (qH [8,9,0,1,11,10] (V9 K) (qH [65,11,0,1,8,9,10] (quB K) kr))
theorem q3o:q60 j a c d e f g h i w K Y8=(qo j (qbF a c d e f g h i w K Y8) (q2W i d e f g a c h w K)):=qD kr
theorem qbs:q8B c h i e f j d g w K Y8=(qo (decide (g<=c)) (qh e (fun n=>0<=c/\c<(f:Nat)/\qh e (fun o=>0<=d/\d<(f:Nat)/\∃ k:Int,w.drew.cell? (n.add (Int.toNat c*1))=some (.int .u32 k)/\∃ l:Int,w.drew.cell? (o.add (Int.toNat d*1))=some (.int .u32 l)/\q9 P 148 [(Value.int .u32 k),(Value.int .u32 l)] w.drew (fun p q=>∃ m:Bool,p=(.bool m)/\q60 (!m) h i e f j d g c q K Y8)))) (q60 false h i e f j d g c w.drew K Y8)):=qD (qH [8,9,0,1,10,11] (q1r K Y8) (qH [60,8,9,0,1,10,11] (qwj K Y8) kr))
theorem qd8:q5T c d e f g h i j w K=(qO (qtN K) (qi.mk 168 [(11,(Value.int .i64 c)),(8,(Value.int .i64 d)),(9,(Value.bool e)),(0,(Value.slice f g h)),(1,(Value.int .i64 i)),(10,(Value.int .i64 j))] []) w):=qD (qH [11,0,1,8,9,10] (qml K) (Qp 2 [8,9,11,0,1,10] (q6S K) (CSv [8,9,11,0,1,10] [11,8,9,0,1,10])))
theorem q2r:q6u j a c d e f g h i w K Y4=(qo j (qkG a c d e f g h i w K Y4) (q5T d a c e f g h i w K)):=qD kr
theorem q9X:qcm c h i g e f j d w K Y4=(qo (decide (c<=g)) (qh e (fun n=>0<=c/\c<(f:Nat)/\qh e (fun o=>0<=d/\d<(f:Nat)/\∃ k:Int,w.drew.cell? (n.add (Int.toNat c*1))=some (.int .u32 k)/\∃ l:Int,w.drew.cell? (o.add (Int.toNat d*1))=some (.int .u32 l)/\q9 P 148 [(Value.int .u32 k),(Value.int .u32 l)] w.drew (fun p q=>∃ m:Bool,p=(.bool m)/\q6u m h i g e f j d c q K Y4)))) (q6u false h i g e f j d c w.drew K Y4)):=qD (qH [8,9,11,0,1,10] (q6I K Y4) (qH [43,8,9,11,0,1,10] (qA2 K Y4) kr))
theorem qga:qmD c d k l m n e f g h i j o w K=(qO (qtr K) (qi.mk 168 [(10,(Value.int .i64 d)),(8,(Value.int .i64 e)),(9,(Value.bool f)),(11,(Value.int .i64 c)),(0,(Value.slice g h i)),(1,(Value.int .i64 j))] []) w):=Eq.trans (b:=CS P (cA zf 15) none [8,9] [8,9] (qX K) (qi.mk 168 [(11,(VI c)),(10,(VI d)),(29,(VI k)),(28,(VI l)),(27,(VI m)),(26,(VI n)),(8,(VI e)),(9,(VB f)),(0,(VS g h i)),(1,(VI j)),(2,(VI o))] []) w) kr (Eq.trans (zh [11,8,9,0,1,10] (qlk K) kr) (Eq.trans (Zk 0 [8,9,11,0,1,10] (q56 K) kr) ((zb (b:=(cA zf 120)) (X':=[8,9,11,0,1,10]) (H:=[10,8,9,11,0,1]) kr kr kr).trans kr)))
theorem qeg:qlB e f g h i c d w K=(qmD (IntKind.wrap .i64 (d-1)) (IntKind.wrap .i64 (c+1)) (IntKind.wrap .i64 (d-1)) d (IntKind.wrap .i64 (c+1)) c e f g h i c d w K):=qD (qH [10,8,9,11,0,1] (qAa K) kr)
theorem qi3:qlf g e f h c i d w K=(qh e (fun l=>0<=d/\d<(f:Nat)/\qh e (fun m=>0<=c/\c<(f:Nat)/\∃ j:Int,w.drew.cell? (l.add (Int.toNat d*1))=some (.int .u32 j)/\∃ k:Int,w.drew.cell? (m.add (Int.toNat c*1))=some (.int .u32 k)/\qh e (fun n=>0<=c/\c<(f:Nat)/\zX (n.add (Int.toNat c*1)) (Value.int .u32 j) w.drew (fun o=>qh e (fun p=>0<=d/\d<(f:Nat)/\zX (p.add (Int.toNat d*1)) (Value.int .u32 k) o (fun q=>qlB g false e f h c i q K))))))):=Eq.trans (b:=CS P (cA zf 3) none [8,9] [8,9] (qX K) (qi.mk 168 [(9,(VB false)),(8,(VI g)),(0,(VS e f h)),(1,(VI c)),(2,(VI i)),(3,(VI d))] []) w) kr (Eq.trans (zh [8,9,0,1,2] (qBQ K) kr) kr)
theorem qhr:qis c d e f g h w K=(qlf 0 c d e f g h w K):=Eq.trans (b:=CS P (cA zf 1) none [8,9] [8,9] (qX K) (qi.mk 168 [(0,(VS c d e)),(1,(VI f)),(2,(VI g)),(3,(VI h))] []) w) kr (Eq.trans (zh [8,9,0,1,2,3] (qzw K) kr) kr)
theorem qxr:f150 a b c d e f w K=(qis a b c d e f w K):=kr
theorem qB1 a b c d e f w K(h:f150 a b c d e f w K):q9 P 150 [(Value.slice a b c),(Value.int .i64 d),(Value.int .i64 e),(Value.int .i64 f)] w K:=qA zf Tryz.func150 h
def yh:=ql Tryz.f149
def qIR:=Tryz.f149.results.toList
abbrev yt K:=qr P qIR K
def f149 a b c d e f w K:=CS P yh none [8] [8] (yt K) (qz 84 [(VS a b c),(VI d),(VI e),(VI f)]) w
def ql6 a b c d e f w K:=SC yh 1 [8] [8] (yt K) 84 [(0,VS a b c),(1,VI d),(2,VI e),(3,VI f)] w
abbrev qBg K:=kq yh 1 [8] [8] (yt K)
def qk8 a b c d e f g w K:=SC yh 3 [8] [8] (yt K) 84 [(8,VI a),(0,VS b c d),(1,VI e),(2,VI f),(3,VI g)] w
abbrev qD9 K:=kq yh 3 [8] [8] (yt K)
def ql4 a b c d f g w K:=SG yh 7 [8] [8] (yt K) 84 [(8,VI a),(0,VS b c d),(1,VI f),(2,VI g)] w
abbrev qy4 K:=kq yh 7 [8] [8] (yt K)
def qjc a b c d e f g h i j k l w K:=SC yh 15 [8] [8] (yt K) 84 [(10,VI a),(9,VI b),(28,VI c),(27,VI d),(26,VI e),(25,VI f),(8,VI g),(0,VS h i j),(1,VI k),(2,VI l)] w
abbrev qjz K:=kq yh 15 [8] [8] (yt K)
abbrev q65 K:=qp 0 (qjz K)
def q8K K Y4 e w:=zv (fun e w=>CS P (cA yh 120) none [9,8,10,0,1] [8,9] (qv [9,8,10,0,1] Y4 (q65 K)) e w) e w
abbrev q8y K Y4:=qv [9,8,10,0,1] Y4 (q65 K)
def q9l a b c d f g h w K Y4:=SG yh 120 [9,8,10,0,1] [8,9] (q8y K Y4) 84 [(9,VI a),(8,VI b),(10,VI c),(0,VS d f g),(1,VI h)] w
abbrev jd K Y4:=qp 1 (q8y K Y4)
abbrev qkB K Y4:=kq yh 240 [9,8,10,0,1] [8,9,10,0,1] (jd K Y4)
abbrev q6W K Y4:=qp 2 (qkB K Y4)
def quz K Y4 Y5 e w:=zv (fun e w=>CS P (cA yh 1920) none [9,8,10,0,1] [8,9,10,0,1] (qv [9,8,10,0,1] Y5 (q6W K Y4)) e w) e w
abbrev VF K Y4 Y5:=qv [9,8,10,0,1] Y5 (q6W K Y4)
def q8Y a b c d f g h w K Y4 Y5:=SG yh 1920 [9,8,10,0,1] [8,9,10,0,1] (VF K Y4 Y5) 84 [(9,VI a),(8,VI b),(10,VI c),(0,VS d f g),(1,VI h)] w
abbrev q6G K Y4 Y5:=kq yh 1920 [9,8,10,0,1] [8,9,10,0,1] (VF K Y4 Y5)
abbrev qy1 K Y4 Y5:=kq yh 3840 [8,10,0,1,9] [8,9,10,0,1] (q6G K Y4 Y5)
def q5W a b c d f g h i w K Y4 Y5:=SG yh 7681 [8,10,0,1,9] [8,9,10,0,1] (q6G K Y4 Y5) 84 [(43,VB a),(8,VI b),(10,VI c),(0,VS d f g),(1,VI h),(9,VI i)] w
def qkq a b c d f g h w K Y4 Y5:=SG yh 3841 [9,8,10,0,1] [8,9,10,0,1] (VF K Y4 Y5) 84 [(8,VI a),(10,VI b),(0,VS c d f),(1,VI g),(9,VI h)] w
abbrev qsT K Y4 Y5:=qp 3 (VF K Y4 Y5)
theorem qeH:qkq a c d e f g h w K Y4 Y5=(Y5 (qi.mk 84 [(9,(Value.int .i64 (IntKind.wrap .i64 (h+1)))),(8,(Value.int .i64 a)),(10,(Value.int .i64 c)),(0,(Value.slice d e f)),(1,(Value.int .i64 g))] []) w):=qD (Qp 3 [8,9,10,0,1] (qsT K Y4 Y5) kr)
def q4Q a b c d f g h w K Y4:=SG yh 481 [9,8,10,0,1] [8,9,10,0,1] (jd K Y4) 84 [(10,VI a),(8,VI b),(9,VI c),(0,VS d f g),(1,VI h)] w
abbrev q98 K Y4:=kq yh 481 [9,8,10,0,1] [8,9,10,0,1] (jd K Y4)
abbrev q3I K Y4:=qp 4 (q98 K Y4)
def qvZ K Y4 Y9 e w:=zv (fun e w=>CS P (cA yh 3848) none [10,8,9,0,1] [8,9,10,0,1] (qv [10,8,9,0,1] Y9 (q3I K Y4)) e w) e w
abbrev Vw K Y4 Y9:=qv [10,8,9,0,1] Y9 (q3I K Y4)
def q8g a b c d f g h w K Y4 Y9:=SG yh 3848 [10,8,9,0,1] [8,9,10,0,1] (Vw K Y4 Y9) 84 [(10,VI a),(8,VI b),(9,VI c),(0,VS d f g),(1,VI h)] w
abbrev q2T K Y4 Y9:=kq yh 3848 [10,8,9,0,1] [8,9,10,0,1] (Vw K Y4 Y9)
abbrev qtf K Y4 Y9:=kq yh 7696 [8,9,0,1,10] [8,9,10,0,1] (q2T K Y4 Y9)
def q1S a b c d f g h i w K Y4 Y9:=SG yh 15393 [8,9,0,1,10] [8,9,10,0,1] (q2T K Y4 Y9) 84 [(59,VB a),(8,VI b),(9,VI c),(0,VS d f g),(1,VI h),(10,VI i)] w
def qbj a b c d f g h w K Y4 Y9:=SG yh 7697 [10,8,9,0,1] [8,9,10,0,1] (Vw K Y4 Y9) 84 [(8,VI a),(9,VI b),(0,VS c d f),(1,VI g),(10,VI h)] w
abbrev qwP K Y4 Y9:=qp 5 (Vw K Y4 Y9)
theorem qa6:qbj a c d e f g h w K Y4 Y9=(Y9 (qi.mk 84 [(10,(Value.int .i64 (IntKind.wrap .i64 (h-1)))),(8,(Value.int .i64 a)),(9,(Value.int .i64 c)),(0,(Value.slice d e f)),(1,(Value.int .i64 g))] []) w):=qD (Qp 5 [8,9,10,0,1] (qwP K Y4 Y9) kr)
def q1K a b c d f g h w K Y4:=SG yh 963 [9,8,10,0,1] [8,9,10,0,1] (jd K Y4) 84 [(8,VI a),(9,VI b),(10,VI c),(0,VS d f g),(1,VI h)] w
abbrev q7G K Y4:=kq yh 963 [9,8,10,0,1] [8,9,10,0,1] (jd K Y4)
abbrev qrY K Y4:=kq yh 1926 [8,0,1,10,9] [8,9,10,0,1] (q7G K Y4)
def qch a w K:=SG yh 31 [8] [8] (yt K) 84 [(9,VI a)] w
abbrev qsP K:=kq yh 31 [8] [8] (yt K)
theorem q7W:qch c w K=(K (Value.int .i64 c) w):=qD (qH [8] (qsP K) kr)
def qa2 a b c d f g h w K Y4:=SG yh 1927 [9,8,10,0,1] [8,9,10,0,1] (jd K Y4) 84 [(8,VI a),(0,VS b c d),(1,VI f),(10,VI g),(9,VI h)] w
abbrev qrA K Y4:=kq yh 1927 [9,8,10,0,1] [8,9,10,0,1] (jd K Y4)
def q8f a b c d f g h w K Y4:=SG yh 3855 [9,8,10,0,1] [8,9,10,0,1] (jd K Y4) 84 [(8,VI a),(0,VS b c d),(1,VI f),(10,VI g),(9,VI h)] w
abbrev quD K Y4:=kq yh 3855 [9,8,10,0,1] [8,9,10,0,1] (jd K Y4)
theorem q8S:q8f c d e f g h i w K Y4=(Y4 (qi.mk 84 [(9,(Value.int .i64 (IntKind.wrap .i64 (i+1)))),(8,(Value.int .i64 c)),(10,(Value.int .i64 (IntKind.wrap .i64 (h-1)))),(0,(Value.slice d e f)),(1,(Value.int .i64 g))] []) w):=qD (qH [9,8,0,1,10] (quD K Y4) kr)
theorem qbg:qa2 g e f h i c d w K Y4=(qh e (fun l=>0<=c/\c<(f:Nat)/\qh e (fun m=>0<=d/\d<(f:Nat)/\∃ j:Int,w.drew.cell? (l.add (Int.toNat c*1))=some (.int .u32 j)/\∃ k:Int,w.drew.cell? (m.add (Int.toNat d*1))=some (.int .u32 k)/\qh e (fun n=>0<=d/\d<(f:Nat)/\zX (n.add (Int.toNat d*1)) (Value.int .u32 j) w.drew (fun o=>qh e (fun p=>0<=c/\c<(f:Nat)/\zX (p.add (Int.toNat c*1)) (Value.int .u32 k) o (fun q=>q8f g e f h i c d q K Y4))))))):=qD (qH [8,0,1,10,9] (qrA K Y4) kr)
theorem qcr:q1K e c d f g h i w K Y4=(qo (decide (c > d)) (qch c w K) (qa2 e f g h i d c w K Y4)):=qD (qH [8,0,1,10,9] (q7G K Y4) (qH [64,8,9,10,0,1] (qrY K Y4) kr))
theorem JU:q1S i a c d e f g h w K Y4 Y9=(qo i (qbj a c d e f g h w K Y4 Y9) (q1K a c h d e f g w K Y4)):=qD kr
theorem qc3:q8g c h g e f i d w K Y4 Y9=(qo (decide (g<=c)) (qh e (fun m=>0<=d/\d<(f:Nat)/\qh e (fun n=>0<=c/\c<(f:Nat)/\∃ j:Int,w.drew.cell? (m.add (Int.toNat d*1))=some (.int .u32 j)/\∃ k:Int,w.drew.cell? (n.add (Int.toNat c*1))=some (.int .u32 k)/\q9 P 148 [(Value.int .u32 j),(Value.int .u32 k)] w.drew (fun o p=>∃ l:Bool,o=(.bool l)/\q1S l h g e f i d c p K Y4 Y9)))) (q1S false h g e f i d c w.drew K Y4 Y9)):=qD (qH [8,9,0,1,10] (q2T K Y4 Y9) (qH [59,8,9,0,1,10] (qtf K Y4 Y9) kr))
theorem qgc:q4Q c d e f g h i w K Y4=(qO (qvZ K Y4) (qi.mk 84 [(10,(Value.int .i64 c)),(8,(Value.int .i64 d)),(9,(Value.int .i64 e)),(0,(Value.slice f g h)),(1,(Value.int .i64 i))] []) w):=qD (qH [8,9,10,0,1] (q98 K Y4) (Qp 4 [8,9,10,0,1] (q3I K Y4) (CSv [8,9,10,0,1] [10,8,9,0,1])))
theorem q2z:q5W i a c d e f g h w K Y4 Y5=(qo i (qkq a c d e f g h w K Y4 Y5) (q4Q c a h d e f g w K Y4)):=qD kr
theorem qc2:q8Y c h g e f i d w K Y4 Y5=(qo (decide (c<=g)) (qh e (fun m=>0<=d/\d<(f:Nat)/\qh e (fun n=>0<=c/\c<(f:Nat)/\∃ j:Int,w.drew.cell? (m.add (Int.toNat d*1))=some (.int .u32 j)/\∃ k:Int,w.drew.cell? (n.add (Int.toNat c*1))=some (.int .u32 k)/\q9 P 148 [(Value.int .u32 j),(Value.int .u32 k)] w.drew (fun o p=>∃ l:Bool,o=(.bool l)/\q5W (!l) h g e f i d c p K Y4 Y5)))) (q5W false h g e f i d c w.drew K Y4 Y5)):=qD (qH [8,10,0,1,9] (q6G K Y4 Y5) (qH [43,8,10,0,1,9] (qy1 K Y4 Y5) kr))
theorem q8u:q9l c d e f g h i w K Y4=(qO (quz K Y4) (qi.mk 84 [(9,(Value.int .i64 c)),(8,(Value.int .i64 d)),(10,(Value.int .i64 e)),(0,(Value.slice f g h)),(1,(Value.int .i64 i))] []) w):=qD (Qp 1 [8,9,10,0,1] (jd K Y4) (qH [10,8,9,0,1] (qkB K Y4) (Qp 2 [8,9,10,0,1] (q6W K Y4) (CSv [8,9,10,0,1] [9,8,10,0,1]))))
theorem qfp:qjc c d j k l m e f g h i n w K=(qO (q8K K) (qi.mk 84 [(9,(Value.int .i64 d)),(8,(Value.int .i64 e)),(10,(Value.int .i64 c)),(0,(Value.slice f g h)),(1,(Value.int .i64 i))] []) w):=Eq.trans (b:=CS P (cA yh 15) none [8] [8] (yt K) (qi.mk 84 [(10,(VI c)),(9,(VI d)),(28,(VI j)),(27,(VI k)),(26,(VI l)),(25,(VI m)),(8,(VI e)),(0,(VS f g h)),(1,(VI i)),(2,(VI n))] []) w) kr (Eq.trans (zh [9] (qjz K) kr) (Eq.trans (Zk 0 [8,9] (q65 K) kr) ((zb (b:=(cA yh 120)) (X':=[8,9]) (H:=[9,8,10,0,1]) kr kr kr).trans kr)))
theorem qfs:ql4 e f g h c d w K=(qjc (IntKind.wrap .i64 (d-1)) (IntKind.wrap .i64 (c+1)) (IntKind.wrap .i64 (d-1)) d (IntKind.wrap .i64 (c+1)) c e f g h c d w K):=qD (qH [9,8,10,0,1] (qy4 K) kr)
theorem qgy:qk8 g e f h c i d w K=(qh e (fun l=>0<=d/\d<(f:Nat)/\qh e (fun m=>0<=c/\c<(f:Nat)/\∃ j:Int,w.drew.cell? (l.add (Int.toNat d*1))=some (.int .u32 j)/\∃ k:Int,w.drew.cell? (m.add (Int.toNat c*1))=some (.int .u32 k)/\qh e (fun n=>0<=c/\c<(f:Nat)/\zX (n.add (Int.toNat c*1)) (Value.int .u32 j) w.drew (fun o=>qh e (fun p=>0<=d/\d<(f:Nat)/\zX (p.add (Int.toNat d*1)) (Value.int .u32 k) o (fun q=>ql4 g e f h c i q K))))))):=Eq.trans (b:=CS P (cA yh 3) none [8] [8] (yt K) (qi.mk 84 [(8,(VI g)),(0,(VS e f h)),(1,(VI c)),(2,(VI i)),(3,(VI d))] []) w) kr (Eq.trans (zh [8,0,1,2] (qD9 K) kr) kr)
theorem qe0:ql6 c d e f g h w K=(qk8 0 c d e f g h w K):=Eq.trans (b:=CS P (cA yh 1) none [8] [8] (yt K) (qi.mk 84 [(0,(VS c d e)),(1,(VI f)),(2,(VI g)),(3,(VI h))] []) w) kr (Eq.trans (zh [8,0,1,2,3] (qBg K) kr) kr)
theorem qzP:f149 a b c d e f w K=(ql6 a b c d e f w K):=kr
theorem qCH a b c d e f w K(h:f149 a b c d e f w K):q9 P 149 [(Value.slice a b c),(Value.int .i64 d),(Value.int .i64 e),(Value.int .i64 f)] w K:=qA yh Tryz.func149 h
end Go.Fx.Tryz
namespace Go.Fx.Tryz
open Go Go.Fx
set_option linter.all false
open Go.Proofs
open Go.Sort (swp swp_size ltInt scanUp scanDown scanUp_ge scanDown_le scanUp_spec partLoop partLoop_eq partition partEqLoop partEqLoop_eq partitionEqual)
variable {w0 w:World} {H X:qE} {K:KT}
set_option maxRecDepth 20000
section
variable {p:Int->Bool} {d:Array Int} {i j:Nat}
theorem q5c(h1:i<=j)(h2:p d[i]! = true):scanUp p d j i=scanUp p d j (i+1):=by
 conv=>lhs;rw[scanUp]
 rw[if_pos (by simp[h1,h2])]
theorem QN(h:¬ (i<=j/\p d[i]! = true)):scanUp p d j i=i:=by
 rw[scanUp,if_neg (by simpa using h)]
theorem qsw(d:Array Int)(i j b:Nat)(hi:i<=b)(hj:j<b):scanUp p d j i<=b:=by
 by_cases h:i<=j+1
 ·have:=(scanUp_spec p d j _ i rfl).2.1 h;omega
 ·rw[QN om];exact hi
theorem Jm(h0:1<=i)(h1:i<=j)(h2:p d[j]! = true):scanDown p d i j=scanDown p d i (j-1):=by
 obtain⟨q,rfl⟩:∃ q,j=q+1:=⟨j-1,by omega⟩
 conv=>lhs;rw[scanDown]
 rw[if_pos (by simp[h1,h2])]
 rfl
theorem jM(h:¬ (i<=j/\p d[j]! = true)):scanDown p d i j=j:=by
 cases j with
 | zero=>rfl
 | succ q=>rw[scanDown,if_neg (by simpa using h)]
end
section
variable {g c:Nat} {T:TypeId} {z:List Value}
abbrev ptE(g c n a:Nat)(i j:Nat):qi:=qi.mk 168 [(10,(Value.int .i64 i)),(8,(Value.int .i64 0)),(9,(Value.bool false)),(11,(Value.int .i64 j)),(0,(Value.slice (some (Addr.mk g 0 none)) n c)),(1,(Value.int .i64 a))] []
abbrev ptF(g c n a:Nat)(i j:Nat):qi:=qi.mk 168 [(11,(Value.int .i64 j)),(8,(Value.int .i64 0)),(9,(Value.bool false)),(0,(Value.slice (some (Addr.mk g 0 none)) n c)),(1,(Value.int .i64 a)),(10,(Value.int .i64 i))] []
def qwR(w0:World)(X:qE)(E:Nat->qi)(p:Int->Bool)(d:Array Int)(a b j I:Nat)(m:Nat)(ee:qi)(w:World):Prop:=
 ∃ i:Nat,a<i/\i<=b/\m=j+1-i/\scanUp p d j i=I/\ee=E i/\St w0 w X
def qwz(w0:World)(X:qE)(E:Nat->qi)(p:Int->Bool)(d:Array Int)(b I J:Nat)(m:Nat)(ee:qi)(w:World):Prop:=
 ∃ j:Nat,j<b/\m=j/\scanDown p d I j=J/\ee=E j/\St w0 w X
def qs8(w0:World)(H:qE)(g c:Nat)(T:TypeId)(z:List Value)(n a b:Nat)(R:Nat × Array Int)(m:Nat)(ee:qi)(w:World):Prop:=
 ∃ (i j:Nat) (d:Array Int),a<i/\i<=b/\j<b/\m=j+1-i/\d.size=n/\partLoop ltInt a i j d=R/\ee=ptE g c n a i j/\St w0 w ((g,Cs (y9 d z) T)::H)
theorem qoA{d:Array Int}{n a b i j:Nat}{R:Nat × Array Int}(h:St w0 w ((g,Cs (y9 d z) T)::H))(ha:a<i)(hi:i<=b)(hj:j<b)(hd:d.size=n)(hb:b<=n)(hn:n<1000000000000)(hR:partLoop ltInt a i j d=R)
  (hK:∀ w',St w0 w' ((g,Cs (y9 (swp R.2 R.1 a) z) T)::H)->K (.tuple [I64 (R.1:Nat),.bool false].toArray) w'):qO (q4h K) (ptE g c n a i j) w:=by
 refine⟨qs8 w0 H g c T z n a b R,⟨j+1-i,i,j,d,ha,hi,hj,rfl,hd,hR,rfl,h⟩,?_⟩
 clear h ha hi hj hd hR
 rintro m ee w7 ⟨i',j',d2,ha',hi',hj',rfl,hd2,hR,rfl,h7⟩
 show q4r ..
 rw[q5w]
 rw[partLoop_eq]at hR
 subst hd2
 refine⟨qwR w0 ((g,Cs (y9 d2 z) T)::H) (fun i=>ptE g c d2.size a i j') (fun x=>ltInt x d2[a]!) d2 a b j' (scanUp (fun x=>ltInt x d2[a]!) d2 j' i'),⟨j'+1-i',i',ha',hi',rfl,rfl,rfl,h7⟩,?_⟩
 have gI:=qsw (p:=fun x=>ltInt x d2[a]!) d2 i' j' b hi' hj'
 have gI0:=scanUp_ge (fun x=>ltInt x d2[a]!) d2 j' i'
 generalize scanUp (fun x=>ltInt x d2[a]!) d2 j' i'=I2 at hR gI gI0
 rintro m ee w8 ⟨i3,ha3,hi3,rfl,hup3,rfl,h8⟩
 show q42 ..
 rw[q6r,qg]
 have after3:∀ w9,St w0 w9 ((g,Cs (y9 d2 z) T)::H)->q1N (j':Int) 0 false (some (Addr.mk g 0 none)) d2.size c a I2 w9 K (fun e' w'=>∃ m,m<j'+1-i'/\qs8 w0 H g c T z d2.size a b R m e' w'):=by
  intro w9 h9
  rw[q8W]
  refine⟨qwz w0 ((g,Cs (y9 d2 z) T)::H) (fun j=>ptF g c d2.size a I2 j) (fun x=>!ltInt x d2[a]!) d2 b I2 (scanDown (fun x=>!ltInt x d2[a]!) d2 I2 j'),⟨j',j',hj',rfl,rfl,rfl,h9⟩,?_⟩
  have gJ:=scanDown_le (fun x=>!ltInt x d2[a]!) d2 I2 j'
  generalize scanDown (fun x=>!ltInt x d2[a]!) d2 I2 j'=J2 at hR gJ
  rintro j4 ee w10 ⟨_,hj4,rfl,hdn4,rfl,h10⟩
  show q45 ..
  rw[q6Z,qg]
  have after4:∀ w11,j4=J2->St w0 w11 ((g,Cs (y9 d2 z) T)::H)->q2d 0 false (j4:Int) (some (Addr.mk g 0 none)) d2.size c a I2 w11 K (fun e' w'=>∃ m,m<j'+1-i'/\qs8 w0 H g c T z d2.size a b R m e' w'):=by
   intro w11 hj h11
   subst hj
   rw[q9p,qg]
   constructor
   ·intro hgt
    have hgt:I2 > j4:=by simpa using hgt
    rw[if_pos hgt]at hR
    subst hR
    rw[q9o]
    refine yk (i:=j4) (j:=a) rfl rfl om om h11 fun w12 h12=>?_
    rw[qaa]
    exact hK w12 h12
   ·intro hle
    have hle:¬ I2 > j4:=by simpa using hle
    rw[if_neg hle]at hR
    rw[qb7]
    refine yk (i:=I2) (j:=j4) rfl rfl om om h11 fun w12 h12=>?_
    have ej:IntKind.wrap .i64 ((j4:Int)-1)=((j4-1:Nat):Int):=by rw[qc om om];omega
    have ei:IntKind.wrap .i64 ((I2:Int)+1)=((I2+1:Nat):Int):=by rw[qc om om];omega
    rw[q9S,ei,ej]
    exact⟨j4-1+1-(I2+1),by omega,I2+1,j4-1,_,by omega,by omega,by omega,rfl,swp_size _ _ _,hR,rfl,h12⟩
  constructor
  ·intro hle
   have hle:I2<=j4:=by simpa using hle
   refine yv (i:=j4) (j:=a) rfl rfl om om h10 (.head _) fun w11 h11=>⟨_,rfl,?_⟩
   rw[q07,qg]
   refine⟨fun hb'=>?_,fun hb'=>?_⟩
   ·rw[q9a]
    refine⟨j4-1,by omega,j4-1,by omega,rfl,?_,?_,h11⟩
    ·rw[<-hdn4];exact(Jm om hle hb').symm
    ·rw[qc om om,show(j4:Int)-1=((j4-1:Nat):Int)by omega]
   ·refine after4 w11 ?_ h11
    rw[<-hdn4];exact(jM (fun hh=>by rw[hh.2]at hb';cases hb')).symm
  ·intro hgt
   have hgt:¬ I2<=j4:=by simpa using hgt
   rw[q07,qb]
   refine after4 _ ?_ h10.drew
   rw[<-hdn4];exact(jM (fun hh=>hgt hh.1)).symm
 constructor
 ·intro hle
  have hle:i3<=j':=by simpa using hle
  refine yv (i:=i3) (j:=a) rfl rfl om om h8 (.head _) fun w9 h9=>⟨_,rfl,?_⟩
  rw[JW,qg]
  refine⟨fun hb'=>?_,fun hb'=>?_⟩
  ·rw[qay]
   refine⟨j'+1-(i3+1),by omega,i3+1,by omega,by omega,rfl,?_,?_,h9⟩
   ·rw[<-hup3];exact(q5c hle hb').symm
   ·rw[qc om om];rfl
  ·have:i3=I2:=by rw[<-hup3];exact(QN (fun hh=>by rw[hh.2]at hb';cases hb')).symm
   rw[this]
   exact after3 w9 h9
 ·intro hgt
  have hgt:¬ i3<=j':=by simpa using hgt
  rw[JW,qb]
  have:i3=I2:=by rw[<-hup3];exact(QN (fun hh=>hgt hh.1)).symm
  rw[this]
  exact after3 _ h8.drew
theorem q4M{d:Array Int}{a b pv:Nat}(h:St w0 w ((g,Cs (y9 d z) T)::H))(hap:a<=pv)(hpb:pv<b)(hb:b<=d.size)(hn:d.size<1000000000000)
  (hK:∀ w',St w0 w' ((g,Cs (y9 (partition ltInt d a b pv).2.2 z) T)::H)->K (.tuple [I64 ((partition ltInt d a b pv).1:Nat),.bool (partition ltInt d a b pv).2.1].toArray) w') :
  q9 P 150 [.slice (some (Addr.mk g 0 none)) d.size c,.int .i64 a,.int .i64 b,.int .i64 pv] w K:=by
 refine qB1 _ _ _ _ _ _ _ _ ?_
 rw[qxr,qhr,qi3]
 refine yk (i:=a) (j:=pv) rfl rfl om om h fun w1 h1=>?_
 have hs1:(swp d a pv).size=d.size:=swp_size _ _ _
 unfold partition at hK
 simp only at hK
 generalize swp d a pv=d1 at h1 hs1 hK
 have ej:IntKind.wrap .i64 ((b:Int)-1)=((b-1:Nat):Int):=by rw[qc om om];omega
 have ei:IntKind.wrap .i64 ((a:Int)+1)=((a+1:Nat):Int):=by rw[qc om om];omega
 rw[qeg,ej,ei,qga,<-hs1]
 rw[<-hs1]at hb hn
 refine⟨qwR w0 ((g,Cs (y9 d1 z) T)::H) (fun i=>ptE g c d1.size a i (b-1)) (fun x=>ltInt x d1[a]!) d1 a b (b-1) (scanUp (fun x=>ltInt x d1[a]!) d1 (b-1) (a+1)),⟨b-1+1-(a+1),a+1,by omega,by omega,rfl,rfl,rfl,h1⟩,?_⟩
 have hI:=qsw (p:=fun x=>ltInt x d1[a]!) d1 (a+1) (b-1) b om om
 have hI0:=scanUp_ge (fun x=>ltInt x d1[a]!) d1 (b-1) (a+1)
 generalize hII:scanUp (fun x=>ltInt x d1[a]!) d1 (b-1) (a+1)=I at hK hI hI0
 rintro m ee w2 ⟨i,hai,hib,rfl,hup,rfl,h2⟩
 show qcm ..
 rw[q9X,qg]
 have after:∀ w3,St w0 w3 ((g,Cs (y9 d1 z) T)::H)->q5T ((b-1:Nat):Int) 0 false (some (Addr.mk g 0 none)) d1.size c a I w3 K:=by
  intro w3 h3
  rw[qd8]
  refine⟨qwz w0 ((g,Cs (y9 d1 z) T)::H) (fun j=>ptF g c d1.size a I j) (fun x=>!ltInt x d1[a]!) d1 b I (scanDown (fun x=>!ltInt x d1[a]!) d1 I (b-1)),⟨b-1,b-1,by omega,rfl,rfl,rfl,h3⟩,?_⟩
  have hJ:=scanDown_le (fun x=>!ltInt x d1[a]!) d1 I (b-1)
  generalize hJJ:scanDown (fun x=>!ltInt x d1[a]!) d1 I (b-1)=J at hK hJ
  rintro j ee w4 ⟨_,hjb,rfl,hdn,rfl,h4⟩
  show q8B ..
  rw[qbs,qg]
  have after2:∀ w5,j=J->St w0 w5 ((g,Cs (y9 d1 z) T)::H)->q2W (j:Int) (some (Addr.mk g 0 none)) d1.size c a 0 false I w5 K:=by
   intro w5 hjJ h5
   subst hjJ
   rw[qc5,qg]
   constructor
   ·intro hgt
    have hgt:I > j:=by simpa using hgt
    simp only[if_pos hgt]at hK
    refine yk (i:=j) (j:=a) rfl rfl om om h5 fun w6 h6=>?_
    rw[q8X]
    exact hK w6 h6
   ·intro hle
    have hle:¬ I > j:=by simpa using hle
    simp only[if_neg hle]at hK
    rw[q9D]
    refine yk (i:=I) (j:=j) rfl rfl om om h5 fun w6 h6=>?_
    have hs2:(swp d1 I j).size=d1.size:=swp_size _ _ _
    have ej:IntKind.wrap .i64 ((j:Int)-1)=((j-1:Nat):Int):=by rw[qc om om];omega
    have ei:IntKind.wrap .i64 ((I:Int)+1)=((I+1:Nat):Int):=by rw[qc om om];omega
    rw[qbS,ei,qaj,ej,qbc]
    exact qoA h6 om om om hs2 hb hn rfl hK
  constructor
  ·intro hle
   have hle:I<=j:=by simpa using hle
   refine yv (i:=j) (j:=a) rfl rfl om om h4 (.head _) fun w5 h5=>⟨_,rfl,?_⟩
   rw[q3o,qg]
   refine⟨fun hb'=>?_,fun hb'=>?_⟩
   ·rw[qaK]
    refine⟨j-1,by omega,j-1,by omega,rfl,?_,?_,h5⟩
    ·rw[<-hdn];exact(Jm om hle hb').symm
    ·rw[qc om om,show(j:Int)-1=((j-1:Nat):Int)by omega]
   ·refine after2 w5 ?_ h5
    rw[<-hdn];exact(jM (fun hh=>by rw[hh.2]at hb';cases hb')).symm
  ·intro hgt
   have hgt:¬ I<=j:=by simpa using hgt
   rw[q3o,qb]
   refine after2 _ ?_ h4.drew
   rw[<-hdn];exact(jM (fun hh=>hgt hh.1)).symm
 constructor
 ·intro hle
  have hle:i<=b-1:=by simp at hle;omega
  refine yv (i:=i) (j:=a) rfl rfl om om h2 (.head _) fun w3 h3=>⟨_,rfl,?_⟩
  rw[q2r,qg]
  refine⟨fun hb'=>?_,fun hb'=>?_⟩
  ·rw[qgQ]
   refine⟨b-1+1-(i+1),by omega,i+1,by omega,by omega,rfl,?_,?_,h3⟩
   ·rw[<-hup];exact(q5c hle hb').symm
   ·rw[qc om om];rfl
  ·have:i=I:=by rw[<-hup];exact(QN (fun hh=>by rw[hh.2]at hb';cases hb')).symm
   rw[this]
   exact after w3 h3
 ·intro hgt
  have hgt:¬ i<=b-1:=by simp at hgt;omega
  rw[q2r,qb]
  have:i=I:=by rw[<-hup];exact(QN (fun hh=>hgt hh.1)).symm
  rw[this]
  exact after _ h2.drew
abbrev peE(g c n a:Nat)(i j:Nat):qi:=qi.mk 84 [(9,(Value.int .i64 i)),(8,(Value.int .i64 0)),(10,(Value.int .i64 j)),(0,(Value.slice (some (Addr.mk g 0 none)) n c)),(1,(Value.int .i64 a))] []
abbrev peF(g c n a:Nat)(i j:Nat):qi:=qi.mk 84 [(10,(Value.int .i64 j)),(8,(Value.int .i64 0)),(9,(Value.int .i64 i)),(0,(Value.slice (some (Addr.mk g 0 none)) n c)),(1,(Value.int .i64 a))] []
def qtb(w0:World)(H:qE)(g c:Nat)(T:TypeId)(z:List Value)(n a b:Nat)(R:Nat × Array Int)(m:Nat)(ee:qi)(w:World):Prop:=
 ∃ (i j:Nat) (d:Array Int),a<i/\i<=b/\j<b/\m=j+1-i/\d.size=n/\partEqLoop ltInt a i j d=R/\ee=peE g c n a i j/\St w0 w ((g,Cs (y9 d z) T)::H)
theorem q86{d:Array Int}{n a b i j:Nat}{R:Nat × Array Int}(h:St w0 w ((g,Cs (y9 d z) T)::H))(ha:a<i)(hi:i<=b)(hj:j<b)(hd:d.size=n)(hb:b<=n)(hn:n<1000000000000)(hR:partEqLoop ltInt a i j d=R)
  (hK:∀ w',St w0 w' ((g,Cs (y9 R.2 z) T)::H)->K (I64 (R.1:Nat)) w'):qO (q8K K) (peE g c n a i j) w:=by
 refine⟨qtb w0 H g c T z n a b R,⟨j+1-i,i,j,d,ha,hi,hj,rfl,hd,hR,rfl,h⟩,?_⟩
 clear h ha hi hj hd hR
 rintro m ee w7 ⟨i',j',d2,ha',hi',hj',rfl,hd2,hR,rfl,h7⟩
 show q9l ..
 rw[q8u]
 rw[partEqLoop_eq]at hR
 subst hd2
 refine⟨qwR w0 ((g,Cs (y9 d2 z) T)::H) (fun i=>peE g c d2.size a i j') (fun x=>!ltInt d2[a]! x) d2 a b j' (scanUp (fun x=>!ltInt d2[a]! x) d2 j' i'),⟨j'+1-i',i',ha',hi',rfl,rfl,rfl,h7⟩,?_⟩
 have gI:=qsw (p:=fun x=>!ltInt d2[a]! x) d2 i' j' b hi' hj'
 have gI0:=scanUp_ge (fun x=>!ltInt d2[a]! x) d2 j' i'
 generalize scanUp (fun x=>!ltInt d2[a]! x) d2 j' i'=I2 at hR gI gI0
 rintro m ee w8 ⟨i3,ha3,hi3,rfl,hup3,rfl,h8⟩
 show q8Y ..
 rw[qc2,qg]
 have after3:∀ w9,St w0 w9 ((g,Cs (y9 d2 z) T)::H)->q4Q (j':Int) 0 I2 (some (Addr.mk g 0 none)) d2.size c a w9 K (fun e' w'=>∃ m,m<j'+1-i'/\qtb w0 H g c T z d2.size a b R m e' w'):=by
  intro w9 h9
  rw[qgc]
  refine⟨qwz w0 ((g,Cs (y9 d2 z) T)::H) (fun j=>peF g c d2.size a I2 j) (fun x=>ltInt d2[a]! x) d2 b I2 (scanDown (fun x=>ltInt d2[a]! x) d2 I2 j'),⟨j',j',hj',rfl,rfl,rfl,h9⟩,?_⟩
  have gJ:=scanDown_le (fun x=>ltInt d2[a]! x) d2 I2 j'
  generalize scanDown (fun x=>ltInt d2[a]! x) d2 I2 j'=J2 at hR gJ
  rintro j4 ee w10 ⟨_,hj4,rfl,hdn4,rfl,h10⟩
  show q8g ..
  rw[qc3,qg]
  have after4:∀ w11,j4=J2->St w0 w11 ((g,Cs (y9 d2 z) T)::H)->q1K 0 I2 (j4:Int) (some (Addr.mk g 0 none)) d2.size c a w11 K (fun e' w'=>∃ m,m<j'+1-i'/\qtb w0 H g c T z d2.size a b R m e' w'):=by
   intro w11 hj h11
   subst hj
   rw[qcr,qg]
   constructor
   ·intro hgt
    have hgt:I2 > j4:=by simpa using hgt
    rw[if_pos hgt]at hR
    subst hR
    rw[q7W]
    exact hK w11 h11
   ·intro hle
    have hle:¬ I2 > j4:=by simpa using hle
    rw[if_neg hle]at hR
    rw[qbg]
    refine yk (i:=I2) (j:=j4) rfl rfl om om h11 fun w12 h12=>?_
    have ej:IntKind.wrap .i64 ((j4:Int)-1)=((j4-1:Nat):Int):=by rw[qc om om];omega
    have ei:IntKind.wrap .i64 ((I2:Int)+1)=((I2+1:Nat):Int):=by rw[qc om om];omega
    rw[q8S,ei,ej]
    exact⟨j4-1+1-(I2+1),by omega,I2+1,j4-1,_,by omega,by omega,by omega,rfl,swp_size _ _ _,hR,rfl,h12⟩
  constructor
  ·intro hle
   have hle:I2<=j4:=by simpa using hle
   refine yv (i:=a) (j:=j4) rfl rfl om om h10 (.head _) fun w11 h11=>⟨_,rfl,?_⟩
   rw[JU,qg]
   refine⟨fun hb'=>?_,fun hb'=>?_⟩
   ·rw[qa6]
    refine⟨j4-1,by omega,j4-1,by omega,rfl,?_,?_,h11⟩
    ·rw[<-hdn4];exact(Jm om hle hb').symm
    ·rw[qc om om,show(j4:Int)-1=((j4-1:Nat):Int)by omega]
   ·refine after4 w11 ?_ h11
    rw[<-hdn4];exact(jM (fun hh=>by rw[hh.2]at hb';cases hb')).symm
  ·intro hgt
   have hgt:¬ I2<=j4:=by simpa using hgt
   rw[JU,qb]
   refine after4 _ ?_ h10.drew
   rw[<-hdn4];exact(jM (fun hh=>hgt hh.1)).symm
 constructor
 ·intro hle
  have hle:i3<=j':=by simpa using hle
  refine yv (i:=a) (j:=i3) rfl rfl om om h8 (.head _) fun w9 h9=>⟨_,rfl,?_⟩
  rw[q2z,qg]
  refine⟨fun hb'=>?_,fun hb'=>?_⟩
  ·rw[qeH]
   refine⟨j'+1-(i3+1),by omega,i3+1,by omega,by omega,rfl,?_,?_,h9⟩
   ·rw[<-hup3];exact(q5c hle hb').symm
   ·rw[qc om om];rfl
  ·have:i3=I2:=by rw[<-hup3];exact(QN (fun hh=>by rw[hh.2]at hb';cases hb')).symm
   rw[this]
   exact after3 w9 h9
 ·intro hgt
  have hgt:¬ i3<=j':=by simpa using hgt
  rw[q2z,qb]
  have:i3=I2:=by rw[<-hup3];exact(QN (fun hh=>hgt hh.1)).symm
  rw[this]
  exact after3 _ h8.drew
theorem Vi{d:Array Int}{a b pv:Nat}(h:St w0 w ((g,Cs (y9 d z) T)::H))(hap:a<=pv)(hpb:pv<b)(hb:b<=d.size)(hn:d.size<1000000000000)
  (hK:∀ w',St w0 w' ((g,Cs (y9 (partitionEqual ltInt d a b pv).2 z) T)::H)->K (I64 ((partitionEqual ltInt d a b pv).1:Nat)) w') :
  q9 P 149 [.slice (some (Addr.mk g 0 none)) d.size c,.int .i64 a,.int .i64 b,.int .i64 pv] w K:=by
 refine qCH _ _ _ _ _ _ _ _ ?_
 rw[qzP,qe0,qgy]
 refine yk (i:=a) (j:=pv) rfl rfl om om h fun w1 h1=>?_
 have hs1:(swp d a pv).size=d.size:=swp_size _ _ _
 unfold partitionEqual at hK
 generalize swp d a pv=d1 at h1 hs1 hK
 have ej:IntKind.wrap .i64 ((b:Int)-1)=((b-1:Nat):Int):=by rw[qc om om];omega
 have ei:IntKind.wrap .i64 ((a:Int)+1)=((a+1:Nat):Int):=by rw[qc om om];omega
 rw[qfs,ej,ei,qfp]
 exact q86 h1 om om om hs1 hb hn rfl hK
end
end Go.Fx.Tryz
namespace Go.Fx.Tryz
set_option maxRecDepth 100000
open Go Go.Fx Go.Proofs
def qV:=ql Tryz.f147
def qKe:=Tryz.f147.results.toList
abbrev yX K:=qr P qKe K
def f147 a b c d e w K:=CS P qV none [6] [6] (yX K) (qz 133 [(VS a b c),(VI d),(VI e)]) w
def qlr a b c d e w K:=SC qV 1 [6] [6] (yX K) 133 [(0,VS a b c),(1,VI d),(2,VI e)] w
abbrev qxc K:=kq qV 1 [6] [6] (yX K)
def qmv a b c d e w K:=SC qV 3 [6] [6] (yX K) 133 [(6,VB false),(0,VS a b c),(1,VI d),(2,VI e)] w
abbrev qBn K:=kq qV 3 [6] [6] (yX K)
def qks a b c d e f g h w K:=SC qV 7 [6] [6] (yX K) 133 [(7,VI a),(12,VI b),(11,VI c),(6,VB false),(0,VS d e f),(1,VI g),(2,VI h)] w
abbrev Vo K:=kq qV 7 [6] [6] (yX K)
abbrev qBL K:=kq qV 14 [] [6] (Vo K)
def qlI a b c d e f g h i w K:=SC qV 29 [] [6] (Vo K) 133 [(8,VI a),(7,VI b),(12,VI c),(11,VI d),(6,VB false),(0,VS e f g),(1,VI h),(2,VI i)] w
abbrev q5Q K:=qp 0 (Vo K)
def qvo K Y4 e w:=zv (fun e w=>CS P (cA qV 116) none [7,6,8,0,2,1] [6] (qv [7,6,8,0,2,1] Y4 (q5Q K)) e w) e w
abbrev Zv K Y4:=qv [7,6,8,0,2,1] Y4 (q5Q K)
def q9G a b c d f g h i w K Y4:=SG qV 116 [7,6,8,0,2,1] [6] (Zv K Y4) 133 [(7,VI a),(6,VB b),(8,VI c),(0,VS d f g),(2,VI h),(1,VI i)] w
abbrev qk4 K Y4:=kq qV 116 [7,6,8,0,2,1] [6] (Zv K Y4)
abbrev qxw K Y4:=kq qV 232 [7,6,0,2,1,8] [6] (qk4 K Y4)
def qkF a b c d f g h i w K Y4:=SG qV 233 [7,6,8,0,2,1] [6] (Zv K Y4) 133 [(7,VI a),(6,VB b),(0,VS c d f),(2,VI g),(1,VI h),(8,VI i)] w
abbrev qjs K Y4:=kq qV 233 [7,6,8,0,2,1] [6] (Zv K Y4)
abbrev zU K Y4:=qp 1 (qjs K Y4)
abbrev qjo K Y4:=kq qV 932 [7,6,0,2,1,8] [6,7,0,2,1,8] (zU K Y4)
abbrev q28 K Y4:=qp 2 (qjo K Y4)
def quT K Y4 Y6 e w:=zv (fun e w=>CS P (cA qV 7456) none [7,6,0,2,1,8] [6,7,0,2,1,8] (qv [7,6,0,2,1,8] Y6 (q28 K Y4)) e w) e w
abbrev YL K Y4 Y6:=qv [7,6,0,2,1,8] Y6 (q28 K Y4)
def qao a b c d f g h i w K Y4 Y6:=SG qV 7456 [7,6,0,2,1,8] [6,7,0,2,1,8] (YL K Y4 Y6) 133 [(7,VI a),(6,VB b),(0,VS c d f),(2,VI g),(1,VI h),(8,VI i)] w
abbrev q35 K Y4 Y6:=kq qV 7456 [7,6,0,2,1,8] [6,7,0,2,1,8] (YL K Y4 Y6)
abbrev qt5 K Y4 Y6:=kq qV 14912 [6,0,2,1,8,7] [6,7,0,2,1,8] (q35 K Y4 Y6)
def q5O a b c d f g h i j w K Y4 Y6:=SG qV 29825 [6,0,2,1,8,7] [6,7,0,2,1,8] (q35 K Y4 Y6) 133 [(32,VB a),(6,VB b),(0,VS c d f),(2,VI g),(1,VI h),(8,VI i),(7,VI j)] w
def qiT a b c d f g h i w K Y4 Y6:=SG qV 14913 [7,6,0,2,1,8] [6,7,0,2,1,8] (YL K Y4 Y6) 133 [(6,VB a),(0,VS b c d),(2,VI f),(1,VI g),(8,VI h),(7,VI i)] w
abbrev qtO K Y4 Y6:=qp 3 (YL K Y4 Y6)
theorem qhI:qiT a c d e f g h i w K Y4 Y6=(Y6 (qi.mk 133 [(7,(Value.int .i64 (IntKind.wrap .i64 (i+1)))),(6,(Value.bool a)),(0,(Value.slice c d e)),(2,(Value.int .i64 f)),(1,(Value.int .i64 g)),(8,(Value.int .i64 h))] []) w):=qD (Qp 3 [6,7,0,2,1,8] (qtO K Y4 Y6) kr)
def q6c a b c d f g h i w K Y4:=SG qV 1865 [7,6,0,2,1,8] [6,7,0,2,1,8] (zU K Y4) 133 [(7,VI a),(0,VS b c d),(2,VI f),(1,VI g),(8,VI h),(6,VB i)] w
abbrev qb0 K Y4:=kq qV 1865 [7,6,0,2,1,8] [6,7,0,2,1,8] (zU K Y4)
abbrev qvM K Y4:=kq qV 3730 [7,0,2,1,8,6] [6,7,0,2,1,8] (qb0 K Y4)
def qbZ a b c d f g h i w K Y4:=SG qV 3731 [7,6,0,2,1,8] [6,7,0,2,1,8] (zU K Y4) 133 [(7,VI a),(0,VS b c d),(2,VI f),(1,VI g),(8,VI h),(6,VB i)] w
abbrev qc7 K Y4:=kq qV 3731 [7,6,0,2,1,8] [6,7,0,2,1,8] (zU K Y4)
abbrev qqZ K Y4:=kq qV 7462 [6,7,0,2,1,8] [6,7,0,2,1,8] (qc7 K Y4)
def q9A a b c d f g h i w K Y4:=SG qV 7463 [7,6,0,2,1,8] [6,7,0,2,1,8] (zU K Y4) 133 [(6,VB a),(7,VI b),(0,VS c d f),(2,VI g),(1,VI h),(8,VI i)] w
abbrev qvR K Y4:=kq qV 7463 [7,6,0,2,1,8] [6,7,0,2,1,8] (zU K Y4)
def q3A a b c d f g h i w K Y4:=SG qV 14927 [7,6,0,2,1,8] [6,7,0,2,1,8] (zU K Y4) 133 [(6,VB a),(7,VI b),(0,VS c d f),(2,VI g),(1,VI h),(8,VI i)] w
abbrev jg K Y4:=kq qV 14927 [7,6,0,2,1,8] [6,7,0,2,1,8] (zU K Y4)
abbrev qrP K Y4:=kq qV 29854 [6,7,0,2,1,8] [6,7,0,2,1,8] (jg K Y4)
def q9e a b c d e f g h i j k l w K Y4:=SC qV 119418 [6,7,0,2,1,8] [6,7,0,2,1,8] (jg K Y4) 133 [(61,VB true),(61,VB a),(60,VI b),(59,VI c),(58,VI d),(6,VB e),(7,VI f),(0,VS g h i),(2,VI j),(1,VI k),(8,VI l)] w
abbrev qsV K Y4:=kq qV 119418 [6,7,0,2,1,8] [6,7,0,2,1,8] (jg K Y4)
def qci a b c d e f g h i j k l m n o w K Y4:=SC qV 238837 [6,7,0,2,1,8] [6,7,0,2,1,8] (jg K Y4) 133 [(9,VI a),(63,VI b),(62,VI c),(61,VB true),(61,VB d),(60,VI e),(59,VI f),(58,VI g),(6,VB h),(7,VI i),(0,VS j k l),(2,VI m),(1,VI n),(8,VI o)] w
abbrev q2Q K Y4:=qp 4 (jg K Y4)
def qpJ K Y4 Y15 e w:=zv (fun e w=>CS P (cA qV 955348) none [6,7,0,2,1,8,9] [6,7,0,2,1,8] (qv [6,7,0,2,1,8,9] Y15 (q2Q K Y4)) e w) e w
abbrev Qx K Y4 Y15:=qv [6,7,0,2,1,8,9] Y15 (q2Q K Y4)
def q4g a b c d f g h i j w K Y4 Y15:=SG qV 955348 [6,7,0,2,1,8,9] [6,7,0,2,1,8] (Qx K Y4 Y15) 133 [(6,VB a),(7,VI b),(0,VS c d f),(2,VI g),(1,VI h),(8,VI i),(9,VI j)] w
abbrev q9g K Y4 Y15:=kq qV 955348 [6,7,0,2,1,8,9] [6,7,0,2,1,8] (Qx K Y4 Y15)
abbrev qvB K Y4 Y15:=kq qV 1910696 [6,7,0,2,1,8,9] [6,7,0,2,1,8] (q9g K Y4 Y15)
def qaL a b c d f g h i j w K Y4 Y15:=SG qV 1910697 [6,7,0,2,1,8,9] [6,7,0,2,1,8] (Qx K Y4 Y15) 133 [(6,VB a),(7,VI b),(0,VS c d f),(2,VI g),(1,VI h),(8,VI i),(9,VI j)] w
abbrev qaM K Y4 Y15:=kq qV 1910697 [6,7,0,2,1,8,9] [6,7,0,2,1,8] (Qx K Y4 Y15)
abbrev q2g K Y4 Y15:=qp 5 (qaM K Y4 Y15)
abbrev q1l K Y4 Y15:=kq qV 7642788 [6,7,0,2,1,8,9] [6,7,0,2,1,8,9] (q2g K Y4 Y15)
abbrev qwa K Y4 Y15:=kq qV 15285576 [6,7,0,2,1,8,9] [6,7,0,2,1,8,9] (q1l K Y4 Y15)
def q88 a b c d f g h i j k w K Y4 Y15:=SG qV 30571153 [6,7,0,2,1,8,9] [6,7,0,2,1,8,9] (q1l K Y4 Y15) 133 [(78,VB a),(6,VB b),(7,VI c),(0,VS d f g),(2,VI h),(1,VI i),(8,VI j),(9,VI k)] w
def QB a b c d f g h i w K Y4:=SG qV 29855 [7,6,0,2,1,8] [6,7,0,2,1,8] (zU K Y4) 133 [(6,VB a),(7,VI b),(0,VS c d f),(2,VI g),(1,VI h),(8,VI i)] w
abbrev qw7 K Y4:=kq qV 29855 [7,6,0,2,1,8] [6,7,0,2,1,8] (zU K Y4)
def qas a b c d e f g h i j k l w K Y4:=SC qV 119422 [7,6,0,2,1,8] [6,7,0,2,1,8] (zU K Y4) 133 [(98,VB true),(98,VB a),(97,VI b),(96,VI c),(95,VI d),(6,VB e),(7,VI f),(0,VS g h i),(2,VI j),(1,VI k),(8,VI l)] w
abbrev qt0 K Y4:=kq qV 119422 [7,6,0,2,1,8] [6,7,0,2,1,8] (zU K Y4)
def qb6 a b c d e f g h i j k l m n o w K Y4:=SC qV 238845 [7,6,0,2,1,8] [6,7,0,2,1,8] (zU K Y4) 133 [(10,VI a),(100,VI b),(99,VI c),(98,VB true),(98,VB d),(97,VI e),(96,VI f),(95,VI g),(6,VB h),(7,VI i),(0,VS j k l),(2,VI m),(1,VI n),(8,VI o)] w
abbrev q1Z K Y4:=qp 6 (zU K Y4)
def qot K Y4 Y21 e w:=zv (fun e w=>CS P (cA qV 955380) none [6,7,0,2,1,8,10] [6,7,0,2,1,8] (qv [6,7,0,2,1,8,10] Y21 (q1Z K Y4)) e w) e w
abbrev Qw K Y4 Y21:=qv [6,7,0,2,1,8,10] Y21 (q1Z K Y4)
def q4C a b c d f g h i j w K Y4 Y21:=SG qV 955380 [6,7,0,2,1,8,10] [6,7,0,2,1,8] (Qw K Y4 Y21) 133 [(6,VB a),(7,VI b),(0,VS c d f),(2,VI g),(1,VI h),(8,VI i),(10,VI j)] w
abbrev q8h K Y4 Y21:=kq qV 955380 [6,7,0,2,1,8,10] [6,7,0,2,1,8] (Qw K Y4 Y21)
abbrev qw9 K Y4 Y21:=kq qV 1910760 [6,7,0,2,1,8,10] [6,7,0,2,1,8] (q8h K Y4 Y21)
def q91 a b c d f g h i j w K Y4 Y21:=SG qV 1910761 [6,7,0,2,1,8,10] [6,7,0,2,1,8] (Qw K Y4 Y21) 133 [(6,VB a),(7,VI b),(0,VS c d f),(2,VI g),(1,VI h),(8,VI i),(10,VI j)] w
abbrev q7J K Y4 Y21:=kq qV 1910761 [6,7,0,2,1,8,10] [6,7,0,2,1,8] (Qw K Y4 Y21)
abbrev q1O K Y4 Y21:=qp 7 (q7J K Y4 Y21)
abbrev q23 K Y4 Y21:=kq qV 7643044 [6,7,0,2,1,8,10] [6,7,0,2,1,8,10] (q1O K Y4 Y21)
abbrev qss K Y4 Y21:=kq qV 15286088 [6,7,0,2,1,8,10] [6,7,0,2,1,8,10] (q23 K Y4 Y21)
def q7M a b c d f g h i j k w K Y4 Y21:=SG qV 30572177 [6,7,0,2,1,8,10] [6,7,0,2,1,8,10] (q23 K Y4 Y21) 133 [(116,VB a),(6,VB b),(7,VI c),(0,VS d f g),(2,VI h),(1,VI i),(8,VI j),(10,VI k)] w
def Zs a b c d f g h i w K Y4:=SG qV 467 [7,6,8,0,2,1] [6] (Zv K Y4) 133 [(7,VI a),(6,VB b),(0,VS c d f),(2,VI g),(1,VI h),(8,VI i)] w
theorem q8R:Zs a c d e f g h i w K Y4=(Y4 (qi.mk 133 [(7,(Value.int .i64 a)),(6,(Value.bool c)),(8,(Value.int .i64 (IntKind.wrap .i64 (i+1)))),(0,(Value.slice d e f)),(2,(Value.int .i64 g)),(1,(Value.int .i64 h))] []) w):=qD kr
def qc6 a b c d f g h i j w K Y4 Y21:=SG qV 15286089 [6,7,0,2,1,8,10] [6,7,0,2,1,8,10] (q1O K Y4 Y21) 133 [(6,VB a),(7,VI b),(0,VS c d f),(2,VI g),(1,VI h),(8,VI i),(10,VI j)] w
def qaF a b c d f g h i j w K Y4 Y21:=SG qV 3821523 [6,7,0,2,1,8,10] [6,7,0,2,1,8] (Qw K Y4 Y21) 133 [(6,VB a),(7,VI b),(0,VS c d f),(2,VI g),(1,VI h),(8,VI i),(10,VI j)] w
theorem q90:qaF a c d e f g h i j w K Y4 Y21=(Y21 (qi.mk 133 [(6,(Value.bool a)),(7,(Value.int .i64 c)),(0,(Value.slice d e f)),(2,(Value.int .i64 g)),(1,(Value.int .i64 h)),(8,(Value.int .i64 i)),(10,(Value.int .i64 (IntKind.wrap .i64 (j+1))))] []) w):=qD kr
theorem qaY:qc6 e f c d g h i j a w K Y4 Y21=(qh c (fun m=>0<=(IntKind.wrap .i64 (a-1))/\(IntKind.wrap .i64 (a-1))<(d:Nat)/\qh c (fun n=>0<=a/\a<(d:Nat)/\∃ k:Int,w.drew.cell? (m.add (Int.toNat (IntKind.wrap .i64 (a-1))*1))=some (.int .u32 k)/\∃ l:Int,w.drew.cell? (n.add (Int.toNat a*1))=some (.int .u32 l)/\qh c (fun o=>0<=a/\a<(d:Nat)/\zX (o.add (Int.toNat a*1)) (Value.int .u32 k) w.drew (fun p=>qh c (fun q=>0<=(IntKind.wrap .i64 (a-1))/\(IntKind.wrap .i64 (a-1))<(d:Nat)/\zX (q.add (Int.toNat (IntKind.wrap .i64 (a-1))*1)) (Value.int .u32 l) p (fun r=>qaF e f c d g h i j a r K Y4 Y21))))))):=qD kr
theorem qbK:q7M j a c d e f g h i k w K Y4 Y21=(qo j (Zs c a d e f g h i w K Y4) (qc6 a c d e f g h i k w K Y4 Y21)):=qD kr
theorem q87:q91 f g d e h i j k c w K Y4 Y21=(qh d (fun o=>0<=c/\c<(e:Nat)/\qh d (fun p=>0<=(IntKind.wrap .i64 (c-1))/\(IntKind.wrap .i64 (c-1))<(e:Nat)/\∃ l:Int,w.drew.cell? (o.add (Int.toNat c*1))=some (.int .u32 l)/\∃ m:Int,w.drew.cell? (p.add (Int.toNat (IntKind.wrap .i64 (c-1))*1))=some (.int .u32 m)/\q9 P 148 [(Value.int .u32 l),(Value.int .u32 m)] w.drew (fun q r=>∃ n:Bool,q=(.bool n)/\q7M (!n) f g d e h i j k c r K Y4 Y21)))):=qD (qH [6,7,0,2,1,8,10] (q7J K Y4 Y21) (Qp 7 [6,7,0,2,1,8,10] (q1O K Y4 Y21) (qH [6,7,0,2,1,8,10] (q23 K Y4 Y21) (qH [116,6,7,0,2,1,8,10] (qss K Y4 Y21) kr))))
theorem q54:q4C d e f g h c i j k w K Y4 Y21=(qo (decide (k<c)) (q91 d e f g h c i j k w K Y4 Y21) (Zs e d f g h c i j w K Y4)):=qD (qH [6,7,0,2,1,8,10] (q8h K Y4 Y21) (qH [103,6,7,0,2,1,8,10] (qw9 K Y4 Y21) kr))
theorem qcb:qb6 a k l m n o p c d e f g h i j w K Y4=(qO (qot K Y4) (qi.mk 133 [(6,(Value.bool c)),(7,(Value.int .i64 d)),(0,(Value.slice e f g)),(2,(Value.int .i64 h)),(1,(Value.int .i64 i)),(8,(Value.int .i64 j)),(10,(Value.int .i64 a))] []) w):=Eq.trans (b:=CS P (cA qV 238845) none [7,6,0,2,1,8] [6,7,0,2,1,8] (zU K Y4) (qi.mk 133 [(10,(VI a)),(100,(VI k)),(99,(VI l)),(98,(VB true)),(98,(VB m)),(97,(VI n)),(96,(VI o)),(95,(VI p)),(6,(VB c)),(7,(VI d)),(0,(VS e f g)),(2,(VI h)),(1,(VI i)),(8,(VI j))] []) w) kr (Eq.trans (Zk 6 [6,7,0,2,1,8] (q1Z K Y4) kr) ((zb (b:=(cA qV 955380)) (X':=[6,7,0,2,1,8]) (H:=[6,7,0,2,1,8,10]) kr kr kr).trans kr))
theorem qcz:qas d e f g h c i j k l m n w K Y4=(qb6 (IntKind.wrap .i64 (c+1)) (IntKind.wrap .i64 (c+1)) c d e f g h c i j k l m n w K Y4):=Eq.trans (b:=CS P (cA qV 119422) none [7,6,0,2,1,8] [6,7,0,2,1,8] (zU K Y4) (qi.mk 133 [(98,(VB true)),(98,(VB d)),(97,(VI e)),(96,(VI f)),(95,(VI g)),(6,(VB h)),(7,(VI c)),(0,(VS i j k)),(2,(VI l)),(1,(VI m)),(8,(VI n))] []) w) kr (Eq.trans (zh [6,7,0,2,1,8,10] (qt0 K Y4) kr) kr)
theorem q9U:QB e c f g h d i j w K Y4=(qo (decide ((IntKind.wrap .i64 (d-c))>=2)) (qas (decide ((IntKind.wrap .i64 (d-c))>=2)) (IntKind.wrap .i64 (d-c)) c d e c f g h d i j w K Y4) (Zs c e f g h d i j w K Y4)):=qD (qH [98,6,7,0,2,1,8] (qw7 K Y4) kr)
def q8P a b c d f g h i j w K Y4 Y15:=SG qV 15285577 [6,7,0,2,1,8,9] [6,7,0,2,1,8,9] (q2g K Y4 Y15) 133 [(6,VB a),(7,VI b),(0,VS c d f),(2,VI g),(1,VI h),(8,VI i),(9,VI j)] w
def q8i a b c d f g h i j w K Y4 Y15:=SG qV 3821395 [6,7,0,2,1,8,9] [6,7,0,2,1,8] (Qx K Y4 Y15) 133 [(6,VB a),(7,VI b),(0,VS c d f),(2,VI g),(1,VI h),(8,VI i),(9,VI j)] w
theorem qbU:q8i a c d e f g h i j w K Y4 Y15=(Y15 (qi.mk 133 [(6,(Value.bool a)),(7,(Value.int .i64 c)),(0,(Value.slice d e f)),(2,(Value.int .i64 g)),(1,(Value.int .i64 h)),(8,(Value.int .i64 i)),(9,(Value.int .i64 (IntKind.wrap .i64 (j-1))))] []) w):=qD kr
theorem qc8:q8P e f c d g h i j a w K Y4 Y15=(qh c (fun m=>0<=(IntKind.wrap .i64 (a-1))/\(IntKind.wrap .i64 (a-1))<(d:Nat)/\qh c (fun n=>0<=a/\a<(d:Nat)/\∃ k:Int,w.drew.cell? (m.add (Int.toNat (IntKind.wrap .i64 (a-1))*1))=some (.int .u32 k)/\∃ l:Int,w.drew.cell? (n.add (Int.toNat a*1))=some (.int .u32 l)/\qh c (fun o=>0<=a/\a<(d:Nat)/\zX (o.add (Int.toNat a*1)) (Value.int .u32 k) w.drew (fun p=>qh c (fun q=>0<=(IntKind.wrap .i64 (a-1))/\(IntKind.wrap .i64 (a-1))<(d:Nat)/\zX (q.add (Int.toNat (IntKind.wrap .i64 (a-1))*1)) (Value.int .u32 l) p (fun r=>q8i e f c d g h i j a r K Y4 Y15))))))):=qD kr
theorem q82:q88 j a c d e f g h i k w K Y4 Y15=(qo j (QB a c d e f g h i w K Y4) (q8P a c d e f g h i k w K Y4 Y15)):=qD kr
theorem q92:qaL f g d e h i j k c w K Y4 Y15=(qh d (fun o=>0<=c/\c<(e:Nat)/\qh d (fun p=>0<=(IntKind.wrap .i64 (c-1))/\(IntKind.wrap .i64 (c-1))<(e:Nat)/\∃ l:Int,w.drew.cell? (o.add (Int.toNat c*1))=some (.int .u32 l)/\∃ m:Int,w.drew.cell? (p.add (Int.toNat (IntKind.wrap .i64 (c-1))*1))=some (.int .u32 m)/\q9 P 148 [(Value.int .u32 l),(Value.int .u32 m)] w.drew (fun q r=>∃ n:Bool,q=(.bool n)/\q88 (!n) f g d e h i j k c r K Y4 Y15)))):=qD (qH [6,7,0,2,1,8,9] (qaM K Y4 Y15) (Qp 5 [6,7,0,2,1,8,9] (q2g K Y4 Y15) (qH [6,7,0,2,1,8,9] (q1l K Y4 Y15) (qH [78,6,7,0,2,1,8,9] (qwa K Y4 Y15) kr))))
theorem q7s:q4g c d e f g h i j k w K Y4 Y15=(qo (decide (k>=1)) (qaL c d e f g h i j k w K Y4 Y15) (QB c d e f g h i j w K Y4)):=qD (qH [6,7,0,2,1,8,9] (q9g K Y4 Y15) (qH [65,6,7,0,2,1,8,9] (qvB K Y4 Y15) kr))
theorem q8I:qci a k l m n o p c d e f g h i j w K Y4=(qO (qpJ K Y4) (qi.mk 133 [(6,(Value.bool c)),(7,(Value.int .i64 d)),(0,(Value.slice e f g)),(2,(Value.int .i64 h)),(1,(Value.int .i64 i)),(8,(Value.int .i64 j)),(9,(Value.int .i64 a))] []) w):=Eq.trans (b:=CS P (cA qV 238837) none [6,7,0,2,1,8] [6,7,0,2,1,8] (jg K Y4) (qi.mk 133 [(9,(VI a)),(63,(VI k)),(62,(VI l)),(61,(VB true)),(61,(VB m)),(60,(VI n)),(59,(VI o)),(58,(VI p)),(6,(VB c)),(7,(VI d)),(0,(VS e f g)),(2,(VI h)),(1,(VI i)),(8,(VI j))] []) w) kr (Eq.trans (Zk 4 [6,7,0,2,1,8] (q2Q K Y4) kr) ((zb (b:=(cA qV 955348)) (X':=[6,7,0,2,1,8]) (H:=[6,7,0,2,1,8,9]) kr kr kr).trans kr))
theorem qaG:q9e d e f g h c i j k l m n w K Y4=(qci (IntKind.wrap .i64 (c-1)) (IntKind.wrap .i64 (c-1)) c d e f g h c i j k l m n w K Y4):=Eq.trans (b:=CS P (cA qV 119418) none [6,7,0,2,1,8] [6,7,0,2,1,8] (jg K Y4) (qi.mk 133 [(61,(VB true)),(61,(VB d)),(60,(VI e)),(59,(VI f)),(58,(VI g)),(6,(VB h)),(7,(VI c)),(0,(VS i j k)),(2,(VI l)),(1,(VI m)),(8,(VI n))] []) w) kr (Eq.trans (zh [6,7,0,2,1,8,9] (qsV K Y4) kr) kr)
theorem q9v:q3A e c f g h i d j w K Y4=(qo (decide ((IntKind.wrap .i64 (c-d))>=2)) (q9e (decide ((IntKind.wrap .i64 (c-d))>=2)) (IntKind.wrap .i64 (c-d)) d c e c f g h i d j w K Y4) (QB e c f g h i d j w K Y4)):=qD (qH [6,7,0,2,1,8] (jg K Y4) (qH [61,6,7,0,2,1,8] (qrP K Y4) kr))
theorem qco:q9A f c d e g h i j w K Y4=(qh d (fun m=>0<=(IntKind.wrap .i64 (c-1))/\(IntKind.wrap .i64 (c-1))<(e:Nat)/\qh d (fun n=>0<=c/\c<(e:Nat)/\∃ k:Int,w.drew.cell? (m.add (Int.toNat (IntKind.wrap .i64 (c-1))*1))=some (.int .u32 k)/\∃ l:Int,w.drew.cell? (n.add (Int.toNat c*1))=some (.int .u32 l)/\qh d (fun o=>0<=c/\c<(e:Nat)/\zX (o.add (Int.toNat c*1)) (Value.int .u32 k) w.drew (fun p=>qh d (fun q=>0<=(IntKind.wrap .i64 (c-1))/\(IntKind.wrap .i64 (c-1))<(e:Nat)/\zX (q.add (Int.toNat (IntKind.wrap .i64 (c-1))*1)) (Value.int .u32 l) p (fun r=>q3A f c d e g h i j r K Y4))))))):=qD (qH [6,7,0,2,1,8] (qvR K Y4) kr)
theorem q7Z:qbZ e f g h c d i j w K Y4=(qo (decide ((IntKind.wrap .i64 (c-d))<50)) (K (Value.bool false) w) (q9A j e f g h c d i w K Y4)):=qD (qH [6,7,0,2,1,8] (qc7 K Y4) (qH [41,7,0,2,1,8,6] (qqZ K Y4) kr))
theorem qi2:q6c c e f g d h i j w K Y4=(qo (c==d) (K (Value.bool true) w) (qbZ c e f g d h i j w K Y4)):=qD (qH [7,0,2,1,8,6] (qb0 K Y4) (qH [37,7,0,2,1,8,6] (qvM K Y4) kr))
theorem q1G:q5O j a c d e f g h i w K Y4 Y6=(qo j (qiT a c d e f g h i w K Y4 Y6) (q6c i c d e f g h a w K Y4)):=qD kr
theorem qbe:qao c g d e h f i j w K Y4 Y6=(qo (decide (c<f)) (qh d (fun n=>0<=c/\c<(e:Nat)/\qh d (fun o=>0<=(IntKind.wrap .i64 (c-1))/\(IntKind.wrap .i64 (c-1))<(e:Nat)/\∃ k:Int,w.drew.cell? (n.add (Int.toNat c*1))=some (.int .u32 k)/\∃ l:Int,w.drew.cell? (o.add (Int.toNat (IntKind.wrap .i64 (c-1))*1))=some (.int .u32 l)/\q9 P 148 [(Value.int .u32 k),(Value.int .u32 l)] w.drew (fun p q=>∃ m:Bool,p=(.bool m)/\q5O (!m) g d e h f i j c q K Y4 Y6)))) (q5O false g d e h f i j c w.drew K Y4 Y6)):=qD (qH [6,0,2,1,8,7] (q35 K Y4 Y6) (qH [32,6,0,2,1,8,7] (qt5 K Y4 Y6) kr))
theorem qhm:qkF c d e f g h i j w K Y4=(qO (quT K Y4) (qi.mk 133 [(7,(Value.int .i64 c)),(6,(Value.bool d)),(0,(Value.slice e f g)),(2,(Value.int .i64 h)),(1,(Value.int .i64 i)),(8,(Value.int .i64 j))] []) w):=qD (qH [7,6,0,2,1,8] (qjs K Y4) (Qp 1 [6,7,0,2,1,8] (zU K Y4) (qH [7,0,2,1,8,6] (qjo K Y4) (Qp 2 [6,7,0,2,1,8] (q28 K Y4) (CSv [6,7,0,2,1,8] [7,6,0,2,1,8])))))
def qbk w K:=SG qV 15 [6] [6] (yX K) 133 [] w
abbrev qsu K:=kq qV 15 [6] [6] (yX K)
theorem q9R:qbk w K=(K (Value.bool false) w):=qD (qH [6] (qsu K) kr)
theorem qb2:q9G d e c f g h i j w K Y4=(qo (decide (c<5)) (qkF d e f g h i j c w K Y4) (qbk w K)):=qD (qH [7,6,0,2,1,8] (qk4 K Y4) (qH [14,7,6,0,2,1,8] (qxw K Y4) kr))
theorem qfX:qlI a c i j d e f g h w K=(qO (qvo K) (qi.mk 133 [(7,(Value.int .i64 c)),(6,(Value.bool false)),(8,(Value.int .i64 a)),(0,(Value.slice d e f)),(2,(Value.int .i64 h)),(1,(Value.int .i64 g))] []) w):=Eq.trans (b:=CS P (cA qV 29) none [] [6] (Vo K) (qi.mk 133 [(8,(VI a)),(7,(VI c)),(12,(VI i)),(11,(VI j)),(6,(VB false)),(0,(VS d e f)),(1,(VI g)),(2,(VI h))] []) w) kr (Eq.trans (Zk 0 [6] (q5Q K) kr) ((zb (b:=(cA qV 116)) (X':=[6]) (H:=[7,6,8,0,2,1]) kr kr kr).trans kr))
theorem qgG:qks c d e f g h i j w K=(qlI 0 c d e f g h i j w K):=Eq.trans (b:=CS P (cA qV 7) none [6] [6] (yX K) (qi.mk 133 [(7,(VI c)),(12,(VI d)),(11,(VI e)),(6,(VB false)),(0,(VS f g h)),(1,(VI i)),(2,(VI j))] []) w) kr (Eq.trans (zh [] (Vo K) kr) (Eq.trans (zh [7,6,8,0,2,1] (qBL K) kr) kr))
theorem qew:qmv d e f c g w K=(qks (IntKind.wrap .i64 (c+1)) (IntKind.wrap .i64 (c+1)) c d e f c g w K):=Eq.trans (b:=CS P (cA qV 3) none [6] [6] (yX K) (qi.mk 133 [(6,(VB false)),(0,(VS d e f)),(1,(VI c)),(2,(VI g))] []) w) kr (Eq.trans (zh [7,6,0,2,1] (qBn K) kr) kr)
theorem qdW:qlr c d e f g w K=(qmv c d e f g w K):=Eq.trans (b:=CS P (cA qV 1) none [6] [6] (yX K) (qi.mk 133 [(0,(VS c d e)),(1,(VI f)),(2,(VI g))] []) w) kr (Eq.trans (zh [6,0,2,1] (qxc K) kr) kr)
theorem qCL:f147 a b c d e w K=(qlr a b c d e w K):=kr
theorem qAz a b c d e w K(h:f147 a b c d e w K):q9 P 147 [(Value.slice a b c),(Value.int .i64 d),(Value.int .i64 e)] w K:=qA qV Tryz.func147 h
end Go.Fx.Tryz
namespace Go.Fx.Tryz
open Go Go.Fx
set_option linter.all false
open Go.Proofs
open Go.Sort (swp swp_size ltInt scanSorted shiftDown shiftUp partialIns partialInsertionSort)
variable {w0 w:World} {H X:qE} {K:KT}
set_option maxRecDepth 20000
section
variable {g c:Nat} {T:TypeId} {z:List Value} {Y4:YT}
theorem Zu:∀ (j:Nat) (d:Array Int),(shiftDown ltInt j d).size=d.size
 | 0,d=>rfl
 | j+1,d=>by
  unfold shiftDown
  split
  ·rfl
  ·rw[Zu j,swp_size]
theorem YW(b:Nat):∀ (m j:Nat) (d:Array Int),b-j=m->(shiftUp ltInt b j d).size=d.size
 | 0,j,d,h=>by rw[shiftUp,if_neg om]
 | m+1,j,d,h=>by
  rw[shiftUp,if_pos om]
  split
  ·rfl
  ·rw[YW b m (j+1) _ om,swp_size]
def qJf(w0:World)(H:qE)(g c:Nat)(T:TypeId)(z:List Value)(n a b i s:Nat)(D:Array Int)(m:Nat)(ee:qi)(w:World):Prop:=
 ∃ (k:Nat) (d:Array Int),i<k/\k<=b/\m=b-k/\d.size=n/\shiftUp ltInt b k d=D/\ee=qi.mk 133 [(6,(Value.bool false)),(7,(Value.int .i64 i)),(0,(Value.slice (some (Addr.mk g 0 none)) n c)),(2,(Value.int .i64 b)),(1,(Value.int .i64 a)),(8,(Value.int .i64 s)),(10,(Value.int .i64 k))] []/\St w0 w ((g,Cs (y9 d z) T)::H)
theorem qHc{d:Array Int}{n a b i s:Nat}(h:St w0 w ((g,Cs (y9 d z) T)::H))(hd:d.size=n)(hi:i<b)(hb:b<=n)(hn:n<1000000000000)
  (hK:∀ w',St w0 w' ((g,Cs (y9 (if b-i>=2 then shiftUp ltInt b (i+1) d else d) z) T)::H)->Zs i false (some (Addr.mk g 0 none)) n c b a s w' K Y4) :
  QB false i (some (Addr.mk g 0 none)) n c b a s w K Y4:=by
 have e1:IntKind.wrap .i64 ((b:Int)-(i:Int))=((b-i:Nat):Int):=by rw[qc om om];omega
 have e2:IntKind.wrap .i64 ((i:Int)+1)=((i+1:Nat):Int):=by rw[qc om om];omega
 rw[q9U,e1,qg]
 refine⟨fun h2=>?_,fun h2=>?_⟩
 ·have h2:b-i>=2:=by simp at h2;omega
  rw[if_pos h2]at hK
  rw[qcz,e2,qcb]
  refine⟨qJf w0 H g c T z n a b i s (shiftUp ltInt b (i+1) d),⟨b-(i+1),i+1,d,by omega,by omega,rfl,hd,rfl,rfl,h⟩,?_⟩
  generalize shiftUp ltInt b (i+1) d=D at hK
  clear h hd
  rintro m ee w1 ⟨k,d,hik,hkb,rfl,hd,hD,rfl,h1⟩
  show q4C ..
  subst hd
  rw[shiftUp]at hD
  rw[q54,qg]
  constructor
  ·intro hlt
   have hlt:k<b:=by simpa using hlt
   rw[if_pos hlt]at hD
   have ek:IntKind.wrap .i64 ((k:Int)-1)=((k-1:Nat):Int):=by rw[qc om om];omega
   rw[q87]
   refine yv (i:=k) (j:=k-1) rfl ek om om h1 (.head _) fun w2 h2=>⟨_,rfl,?_⟩
   rw[qbK,qg]
   refine⟨fun hb'=>?_,fun hb'=>?_⟩
   ·rw[if_pos hb']at hD
    subst hD
    exact hK w2 h2
   ·rw[if_neg (by simp[hb'])]at hD
    rw[qaY]
    refine yk (i:=k) (j:=k-1) rfl ek om om h2 fun w3 h3=>?_
    rw[q90]
    refine⟨b-(k+1),by omega,k+1,_,by omega,by omega,rfl,swp_size _ _ _,hD,?_,h3⟩
    rw[qc om om];rfl
  ·intro hge
   have hge:¬ k<b:=by simpa using hge
   rw[if_neg hge]at hD
   subst hD
   exact hK w1 h1
 ·have h2:¬ b-i>=2:=by simp at h2;omega
  rw[if_neg h2]at hK
  exact hK w h
def qK1(w0:World)(H:qE)(g c:Nat)(T:TypeId)(z:List Value)(n a b i s:Nat)(D:Array Int)(m:Nat)(ee:qi)(w:World):Prop:=
 ∃ (k:Nat) (d:Array Int),k<i/\m=k/\d.size=n/\shiftDown ltInt k d=D/\ee=qi.mk 133 [(6,(Value.bool false)),(7,(Value.int .i64 i)),(0,(Value.slice (some (Addr.mk g 0 none)) n c)),(2,(Value.int .i64 b)),(1,(Value.int .i64 a)),(8,(Value.int .i64 s)),(9,(Value.int .i64 k))] []/\St w0 w ((g,Cs (y9 d z) T)::H)
theorem qFq{d:Array Int}{n a b i s:Nat}(h:St w0 w ((g,Cs (y9 d z) T)::H))(hd:d.size=n)(hai:a<i)(hi:i<b)(hb:b<=n)(hn:n<1000000000000)
  (hK:∀ w',St w0 w' ((g,Cs (y9 (if i-a>=2 then shiftDown ltInt (i-1) d else d) z) T)::H)->QB false i (some (Addr.mk g 0 none)) n c b a s w' K Y4) :
  q3A false i (some (Addr.mk g 0 none)) n c b a s w K Y4:=by
 have e1:IntKind.wrap .i64 ((i:Int)-(a:Int))=((i-a:Nat):Int):=by rw[qc om om];omega
 have e2:IntKind.wrap .i64 ((i:Int)-1)=((i-1:Nat):Int):=by rw[qc om om];omega
 rw[q9v,e1,qg]
 refine⟨fun h2=>?_,fun h2=>?_⟩
 ·have h2:i-a>=2:=by simp at h2;omega
  rw[if_pos h2]at hK
  rw[qaG,e2,q8I]
  refine⟨qK1 w0 H g c T z n a b i s (shiftDown ltInt (i-1) d),⟨i-1,i-1,d,by omega,rfl,hd,rfl,rfl,h⟩,?_⟩
  generalize shiftDown ltInt (i-1) d=D at hK
  clear h hd
  rintro k ee w1 ⟨_,d,hki,rfl,hd,hD,rfl,h1⟩
  show q4g ..
  subst hd
  rw[q7s,qg]
  constructor
  ·intro hge
   obtain⟨q,rfl⟩:∃ q,k=q+1:=⟨k-1,by simp at hge;omega⟩
   have ek:IntKind.wrap .i64 (((q+1:Nat):Int)-1)=(q:Int):=by rw[qc om om];omega
   unfold shiftDown at hD
   rw[q92]
   refine yv (i:=q+1) (j:=q) rfl ek om om h1 (.head _) fun w2 h2=>⟨_,rfl,?_⟩
   rw[q82,qg]
   refine⟨fun hb'=>?_,fun hb'=>?_⟩
   ·rw[if_pos hb']at hD
    subst hD
    exact hK w2 h2
   ·rw[if_neg (by simp[hb'])]at hD
    rw[qc8]
    refine yk (i:=q+1) (j:=q) rfl ek om om h2 fun w3 h3=>?_
    rw[qbU,ek]
    exact⟨q,by omega,q,_,by omega,rfl,swp_size _ _ _,hD,rfl,h3⟩
  ·intro hlt
   have:k=0:=by simp at hlt;omega
   subst this
   have hD:d=D:=hD
   subst hD
   exact hK w1 h1
 ·have h2:¬ i-a>=2:=by simp at h2;omega
  rw[if_neg h2]at hK
  exact hK w h
def qJY(w0:World)(X:qE)(g c:Nat)(d:Array Int)(a b s I:Nat)(m:Nat)(ee:qi)(w:World):Prop:=
 ∃ i:Nat,a<i/\i<=b/\m=b-i/\scanSorted ltInt d b i=I/\ee=qi.mk 133 [(7,(Value.int .i64 i)),(6,(Value.bool false)),(0,(Value.slice (some (Addr.mk g 0 none)) d.size c)),(2,(Value.int .i64 b)),(1,(Value.int .i64 a)),(8,(Value.int .i64 s))] []/\St w0 w X
def qDP(w0:World)(H:qE)(g c:Nat)(T:TypeId)(z:List Value)(n a b:Nat)(R:Array Int × Bool)(m:Nat)(ee:qi)(w:World):Prop:=
 ∃ (i:Nat) (d:Array Int),a<i/\i<=b/\m<=5/\d.size=n/\partialIns ltInt a b m i d=R/\ee=qi.mk 133 [(7,(Value.int .i64 i)),(6,(Value.bool false)),(8,(Value.int .i64 ((5-m:Nat):Int))),(0,(Value.slice (some (Addr.mk g 0 none)) n c)),(2,(Value.int .i64 b)),(1,(Value.int .i64 a))] []/\St w0 w ((g,Cs (y9 d z) T)::H)
theorem qfi{d:Array Int}{a b:Nat}(h:St w0 w ((g,Cs (y9 d z) T)::H))(hab:a<b)(hb:b<=d.size)(hn:d.size<1000000000000)
  (hK:∀ w',St w0 w' ((g,Cs (y9 (partialInsertionSort ltInt d a b).1 z) T)::H)->K (.bool (partialInsertionSort ltInt d a b).2) w') :
  q9 P 147 [.slice (some (Addr.mk g 0 none)) d.size c,.int .i64 a,.int .i64 b] w K:=by
 refine qAz _ _ _ _ _ _ _ ?_
 have ei:IntKind.wrap .i64 ((a:Int)+1)=((a+1:Nat):Int):=by rw[qc om om];omega
 rw[qCL,qdW,qew,ei,qgG,qfX]
 unfold partialInsertionSort at hK
 refine⟨qDP w0 H g c T z d.size a b (partialIns ltInt a b 5 (a+1) d),⟨5,a+1,d,by omega,by omega,by omega,rfl,rfl,rfl,h⟩,?_⟩
 generalize hnn:d.size=n at hb hn
 generalize partialIns ltInt a b 5 (a+1) d=R at hK
 clear h hnn d
 rintro m ee w1 ⟨i,d,hai,hib,hm5,hd,hR,rfl,h1⟩
 show q9G ..
 subst hd
 rw[qb2,qg]
 constructor
 ·intro hlt
  obtain⟨m,rfl⟩:∃ q,m=q+1:=⟨m-1,by simp at hlt;omega⟩
  rw[qhm]
  unfold partialIns at hR
  simp only at hR
  refine⟨qJY w0 ((g,Cs (y9 d z) T)::H) g c d a b (5-(m+1)) (scanSorted ltInt d b i),⟨b-i,i,hai,hib,rfl,rfl,rfl,h1⟩,?_⟩
  generalize scanSorted ltInt d b i=I at hR
  clear h1
  rintro q ee w2 ⟨i2,hai2,hib2,rfl,hI,rfl,h2⟩
  show qao ..
  rw[scanSorted]at hI
  rw[qbe,qg]
  have after:∀ w3,i2=I->St w0 w3 ((g,Cs (y9 d z) T)::H)->q6c i2 (some (Addr.mk g 0 none)) d.size c b a ((5-(m+1):Nat):Int) false w3 K (fun e' w'=>∃ m',m'<m+1/\qDP w0 H g c T z d.size a b R m' e' w'):=by
   intro w3 hi h3
   subst hi
   rw[qi2,qg]
   refine⟨fun he=>?_,fun he=>?_⟩
   ·have he:i2=b:=by simp at he;omega
    rw[if_pos he]at hR
    subst hR
    exact hK w3 h3
   ·have he:i2≠b:=by simp at he;omega
    rw[if_neg he]at hR
    have e1:IntKind.wrap .i64 ((b:Int)-(a:Int))=((b-a:Nat):Int):=by rw[qc om om];omega
    rw[q7Z,e1,qg]
    refine⟨fun h50=>?_,fun h50=>?_⟩
    ·have h50:b-a<50:=by simp at h50;omega
     rw[if_pos h50]at hR
     subst hR
     exact hK w3 h3
    ·have h50:¬ b-a<50:=by simp at h50;omega
     rw[if_neg h50]at hR
     have e2:IntKind.wrap .i64 ((i2:Int)-1)=((i2-1:Nat):Int):=by rw[qc om om];omega
     rw[qco]
     refine yk (i:=i2) (j:=i2-1) rfl e2 om om h3 fun w4 h4=>?_
     refine qFq h4 (swp_size _ _ _) hai2 om hb hn fun w5 h5=>?_
     have hsz:(if i2-a>=2 then shiftDown ltInt (i2-1) (swp d i2 (i2-1))else swp d i2 (i2-1)).size=d.size:=by
      split
      ·rw[Zu,swp_size]
      ·rw[swp_size]
     refine qHc h5 hsz om hb hn fun w6 h6=>?_
     rw[q8R]
     refine⟨m,by omega,i2,_,hai2,hib2,by omega,?_,hR,?_,h6⟩
     ·split
      ·rw[YW _ _ _ _ rfl,hsz]
      ·exact hsz
     ·have:IntKind.wrap .i64 (((5-(m+1):Nat):Int)+1)=((5-m:Nat):Int):=by rw[qc om om];omega
      rw[this]
  constructor
  ·intro hlt2
   have hlt2:i2<b:=by simpa using hlt2
   have e2:IntKind.wrap .i64 ((i2:Int)-1)=((i2-1:Nat):Int):=by rw[qc om om];omega
   refine yv (i:=i2) (j:=i2-1) rfl e2 om om h2 (.head _) fun w3 h3=>⟨_,rfl,?_⟩
   rw[q1G,qg]
   refine⟨fun hb'=>?_,fun hb'=>?_⟩
   ·rw[if_pos (by simp[hlt2];simpa using hb')]at hI
    rw[qhI]
    refine⟨b-(i2+1),by omega,i2+1,by omega,by omega,rfl,hI,?_,h3⟩
    rw[qc om om];rfl
   ·rw[if_neg (by rw[hb'];simp)]at hI
    exact after w3 hI h3
  ·intro hge
   have hge:¬ i2<b:=by simpa using hge
   rw[if_neg (by simp[hge])]at hI
   rw[q1G,qb]
   exact after _ hI h2.drew
 ·intro hge
  have:m=0:=by simp at hge;omega
  subst this
  have hR:(d,false)=R:=hR
  subst hR
  rw[q9R]
  exact hK w1 h1
end
end Go.Fx.Tryz
namespace Go.Fx.Tryz
set_option maxRecDepth 100000
open Go Go.Fx Go.Proofs
def yV:=ql Tryz.f106
def qKj:=Tryz.f106.results.toList
abbrev jc K:=qr P qKj K
def f106 a b c d e f w K:=CS P yV none [] [] (jc K) (qz 134 [(VS a b c),(VI d),(VI e),(VI f)]) w
def qmP a b c d e f w K:=SC yV 1 [] [] (jc K) 134 [(0,VS a b c),(1,VI d),(2,VI e),(3,VI f)] w
abbrev qyo K:=kq yV 1 [] [] (jc K)
def qiK a b c d e f w K:=SC yV 3 [] [] (jc K) 134 [(8,VB true),(0,VS a b c),(1,VI d),(2,VI e),(3,VI f)] w
abbrev qDe K:=kq yV 3 [] [] (jc K)
def qnS a b c d e f w K:=SC yV 7 [] [] (jc K) 134 [(9,VB true),(8,VB true),(0,VS a b c),(1,VI d),(2,VI e),(3,VI f)] w
abbrev q6J K:=qp 0 (jc K)
def quc K Y3 e w:=zv (fun e w=>CS P (cA yV 28) none [2,1,0,9,8,3] [] (qv [2,1,0,9,8,3] Y3 (q6J K)) e w) e w
abbrev qav K Y3:=qv [2,1,0,9,8,3] Y3 (q6J K)
def q3f a b c d f g h i w K Y3:=SG yV 28 [2,1,0,9,8,3] [] (qav K Y3) 134 [(2,VI a),(1,VI b),(0,VS c d f),(9,VB g),(8,VB h),(3,VI i)] w
abbrev yr K Y3:=qp 1 (qav K Y3)
abbrev qyT K Y3:=kq yV 56 [2,1,0,9,8,3] [2,1,0,9,8,3] (yr K Y3)
def qk3 a b c d f g h i j w K Y3:=SG yV 227 [2,1,0,9,8,3] [2,1,0,9,8,3] (yr K Y3) 134 [(2,VI a),(1,VI b),(0,VS c d f),(9,VB g),(8,VB h),(3,VI i),(10,VI j)] w
abbrev qjU K Y3:=kq yV 227 [2,1,0,9,8,3] [2,1,0,9,8,3] (yr K Y3)
abbrev qCY K Y3:=kq yV 454 [2,1,0,9,8,10,3] [2,1,0,9,8,3] (qjU K Y3)
def qn6 a b c d f g h i j w K Y3:=SG yV 455 [2,1,0,9,8,3] [2,1,0,9,8,3] (yr K Y3) 134 [(2,VI a),(1,VI b),(0,VS c d f),(9,VB g),(8,VB h),(10,VI i),(3,VI j)] w
abbrev q93 K Y3:=kq yV 455 [2,1,0,9,8,3] [2,1,0,9,8,3] (yr K Y3)
abbrev qvg K Y3:=kq yV 910 [2,1,0,9,8,3,10] [2,1,0,9,8,3] (q93 K Y3)
def q1d a b c d f g h i j w K Y3:=SG yV 911 [2,1,0,9,8,3] [2,1,0,9,8,3] (yr K Y3) 134 [(2,VI a),(1,VI b),(0,VS c d f),(9,VB g),(8,VB h),(3,VI i),(10,VI j)] w
abbrev qwv K Y3:=kq yV 911 [2,1,0,9,8,3] [2,1,0,9,8,3] (yr K Y3)
def q0x a b c d f g h i j k l w K Y3:=SG yV 3647 [2,1,0,9,8,3] [2,1,0,9,8,3] (yr K Y3) 134 [(2,VI a),(1,VI b),(0,VS c d f),(9,VB g),(8,VB h),(3,VI i),(11,VI j),(10,VI k),(12,VI l)] w
abbrev q1D K Y3:=kq yV 3647 [2,1,0,9,8,3] [2,1,0,9,8,3] (yr K Y3)
abbrev qrt K Y3:=kq yV 7294 [2,0,9,8,3,11,1,10] [2,1,0,9,8,3] (q1D K Y3)
def VY a b c d f g h i j k l w K Y3:=SG yV 14589 [2,0,9,8,3,11,1,10] [2,1,0,9,8,3] (q1D K Y3) 134 [(68,VB a),(2,VI b),(1,VI c),(0,VS d f g),(9,VB h),(8,VB i),(3,VI j),(11,VI k),(10,VI l)] w
def Vb a b c d f g h i j k w K Y3:=SG yV 7295 [2,1,0,9,8,3] [2,1,0,9,8,3] (yr K Y3) 134 [(2,VI a),(0,VS b c d),(9,VB f),(8,VB g),(3,VI h),(11,VI i),(1,VI j),(10,VI k)] w
abbrev q2y K Y3:=kq yV 7295 [2,1,0,9,8,3] [2,1,0,9,8,3] (yr K Y3)
abbrev qti K Y3:=kq yV 14590 [2,0,3,1,10,11] [2,1,0,9,8,3] (q2y K Y3)
def q1B a b c d f g h i j k l w K Y3:=SG yV 29181 [2,0,3,1,10,11] [2,1,0,9,8,3] (q2y K Y3) 134 [(87,VB a),(2,VI b),(0,VS c d f),(9,VB g),(8,VB h),(3,VI i),(11,VI j),(1,VI k),(10,VI l)] w
def q2P a b c d f g h i w K Y3:=SG yV 14591 [2,1,0,9,8,3] [2,1,0,9,8,3] (yr K Y3) 134 [(2,VI a),(0,VS b c d),(3,VI f),(1,VI g),(10,VI h),(11,VI i)] w
abbrev qrd K Y3:=kq yV 14591 [2,1,0,9,8,3] [2,1,0,9,8,3] (yr K Y3)
theorem qbv:q2P d e f g i h j k w K Y3=(q9 P 150 [(Value.slice e f g),(Value.int .i64 h),(Value.int .i64 d),(Value.int .i64 k)] w (fun n m=>∃ c:Int,∃ l:Bool,n=(.tuple #[(Value.int .i64 c),(Value.bool l)])/\(8:Int)≠0/\qo (decide ((IntKind.wrap .i64 (c-h))<(IntKind.wrap .i64 (d-c)))) (q9 P 106 [(Value.slice e f g),(Value.int .i64 h),(Value.int .i64 c),(Value.int .i64 i)] m (fun o p=>o=(.tuple #[])/\Y3 (qi.mk 134 [(2,(Value.int .i64 d)),(1,(Value.int .i64 (IntKind.wrap .i64 (c+1)))),(0,(Value.slice e f g)),(9,(Value.bool l)),(8,(Value.bool (decide ((IntKind.wrap .i64 (c-h))>=(IntKind.wrap .i64 (j.tdiv 8)))))),(3,(Value.int .i64 i))] []) p)) (q9 P 106 [(Value.slice e f g),(Value.int .i64 (IntKind.wrap .i64 (c+1))),(Value.int .i64 d),(Value.int .i64 i)] m (fun q r=>q=(.tuple #[])/\Y3 (qi.mk 134 [(2,(Value.int .i64 c)),(1,(Value.int .i64 h)),(0,(Value.slice e f g)),(9,(Value.bool l)),(8,(Value.bool (decide ((IntKind.wrap .i64 (d-c))>=(IntKind.wrap .i64 (j.tdiv 8)))))),(3,(Value.int .i64 i))] []) r)))):=qD (qH [2,0,3,14,1,10,15] (qrd K Y3) kr)
theorem JM:q1B i a c d e j k f g h l w K Y3=(qo i (q9 P 149 [(Value.slice c d e),(Value.int .i64 h),(Value.int .i64 a),(Value.int .i64 g)] w (fun n o=>∃ m:Int,n=(.int .i64 m)/\Y3 (qi.mk 134 [(2,(Value.int .i64 a)),(1,(Value.int .i64 m)),(0,(Value.slice c d e)),(9,(Value.bool j)),(8,(Value.bool k)),(3,(Value.int .i64 f))] []) o)) (q2P a c d e f h l g w K Y3)):=qD kr
theorem qff:Vb g e f h i j k d c l w K Y3=(qo (decide (c > 0)) (qh e (fun p=>0<=(IntKind.wrap .i64 (c-1))/\(IntKind.wrap .i64 (c-1))<(f:Nat)/\qh e (fun q=>0<=d/\d<(f:Nat)/\∃ m:Int,w.drew.cell? (p.add (Int.toNat (IntKind.wrap .i64 (c-1))*1))=some (.int .u32 m)/\∃ n:Int,w.drew.cell? (q.add (Int.toNat d*1))=some (.int .u32 n)/\q9 P 148 [(Value.int .u32 m),(Value.int .u32 n)] w.drew (fun r s=>∃ o:Bool,r=(.bool o)/\q1B (!o) g e f h i j k d c l s K Y3)))) (q1B false g e f h i j k d c l w.drew K Y3)):=qD (qH [2,0,3,1,10,11] (q2y K Y3) (qH [87,2,0,9,8,3,11,1,10] (qti K Y3) kr))
theorem q38:VY l a c d e f g h i j k w K Y3=(qo l (q9 P 147 [(Value.slice d e f),(Value.int .i64 c),(Value.int .i64 a)] w (fun o m=>∃ n:Bool,o=(.bool n)/\qo n (K (Value.tuple #[]) m) (Vb a d e f g h i j c k m K Y3))) (Vb a d e f g h i j c k w K Y3)):=qD kr
theorem qfY:q0x e f g h i c d j k l m w K Y3=(qo d (qo c (VY (m==1) e f g h i c d j k l w K Y3) (VY false e f g h i c d j k l w K Y3)) (VY false e f g h i c d j k l w K Y3)):=qD (qH [2,0,9,8,3,11,1,10] (q1D K Y3) (qH [68,2,1,0,9,8,3,11,10] (qrt K Y3) kr))
theorem qgL:q1d c d e f g h i j k w K Y3=(q9 P 145 [(Value.slice e f g),(Value.int .i64 d),(Value.int .i64 c)] w (fun o n=>∃ l:Int,∃ m:Int,o=(.tuple #[(Value.int .i64 l),(Value.int .i64 m)])/\qo (m==2) (q9 P 146 [(Value.slice e f g),(Value.int .i64 d),(Value.int .i64 c)] n (fun p q=>p=(.tuple #[])/\q0x c d e f g h i j (IntKind.wrap .i64 ((IntKind.wrap .i64 (c-1))-(IntKind.wrap .i64 (l-d)))) k 1 q K Y3)) (q0x c d e f g h i j l k m n K Y3))):=qD (qH [2,1,0,9,8,3,10,11,12] (qwv K Y3) kr)
theorem qd3:qn6 c d e f g i h j k w K Y3=(qo (!h) (q9 P 144 [(Value.slice e f g),(Value.int .i64 d),(Value.int .i64 c)] w (fun l m=>l=(.tuple #[])/\q1d c d e f g i h (IntKind.wrap .i64 (k-1)) j m K Y3)) (q1d c d e f g i h k j w K Y3)):=qD (qH [2,1,0,9,8,3,10] (q93 K Y3) (qH [35,2,1,0,9,8,10,3] (qvg K Y3) kr))
theorem qdR:qk3 c d e f g i j h k w K Y3=(qo (h==0) (q9 P 143 [(Value.slice e f g),(Value.int .i64 d),(Value.int .i64 c)] w (fun l m=>l=(.tuple #[])/\K (Value.tuple #[]) m)) (qn6 c d e f g i j k h w K Y3)):=qD (qH [2,1,0,9,8,10,3] (qjU K Y3) (qH [29,2,1,0,9,8,3,10] (qCY K Y3) kr))
theorem JN:q3f c d e f g h i j w K Y3=(qo (decide ((IntKind.wrap .i64 (c-d))<=12)) (q9 P 142 [(Value.slice e f g),(Value.int .i64 d),(Value.int .i64 c)] w (fun k l=>k=(.tuple #[])/\K (Value.tuple #[]) l)) (qk3 c d e f g h i j (IntKind.wrap .i64 (c-d)) w K Y3)):=qD (Qp 1 [2,1,0,9,8,3] (yr K Y3) (qH [2,1,0,9,8,3,10] (qyT K Y3) kr))
theorem q2N:qnS a c d e f g w K=(qO (quc K) (qi.mk 134 [(2,(Value.int .i64 f)),(1,(Value.int .i64 e)),(0,(Value.slice a c d)),(9,(Value.bool true)),(8,(Value.bool true)),(3,(Value.int .i64 g))] []) w):=Eq.trans (b:=CS P (cA yV 7) none [] [] (jc K) (qi.mk 134 [(9,(VB true)),(8,(VB true)),(0,(VS a c d)),(1,(VI e)),(2,(VI f)),(3,(VI g))] []) w) kr (Eq.trans (Zk 0 [] (q6J K) kr) ((zb (b:=(cA yV 28)) (X':=[]) (H:=[2,1,0,9,8,3]) kr kr kr).trans kr))
theorem q1n:qiK c d e f g h w K=(qnS c d e f g h w K):=Eq.trans (b:=CS P (cA yV 3) none [] [] (jc K) (qi.mk 134 [(8,(VB true)),(0,(VS c d e)),(1,(VI f)),(2,(VI g)),(3,(VI h))] []) w) kr (Eq.trans (zh [2,1,0,9,8,3] (qDe K) kr) kr)
theorem q1P:qmP c d e f g h w K=(qiK c d e f g h w K):=Eq.trans (b:=CS P (cA yV 1) none [] [] (jc K) (qi.mk 134 [(0,(VS c d e)),(1,(VI f)),(2,(VI g)),(3,(VI h))] []) w) kr (Eq.trans (zh [2,1,0,8,3] (qyo K) kr) kr)
theorem qkM:f106 a b c d e f w K=(qmP a b c d e f w K):=kr
theorem qkf a b c d e f w K(h:f106 a b c d e f w K):q9 P 106 [(Value.slice a b c),(Value.int .i64 d),(Value.int .i64 e),(Value.int .i64 f)] w K:=qA yV Tryz.func106 h
end Go.Fx.Tryz
namespace Go.Fx.Tryz
open Go Go.Fx
set_option linter.all false
open Go.Proofs
open Go.Sort (swp ltInt pdq Below rd SWO swo_ltInt insertionSort_holds heapSort_holds partialInsertionSort_holds partition_holds partitionEqual_holds reverseRange_holds breakPatterns_holds choosePivot_holds pdq_sorts Hint rd_facts round_eq round_part pdq_small pdq_heap pdq_done pdq_eq pdq_left pdq_right choosePivot breakPatterns reverseRange partialInsertionSort partition partitionEqual)
variable {w0 w:World} {H X:qE} {K:KT}
set_option maxRecDepth 20000
section
variable {g c:Nat} {T:TypeId} {z:List Value}
def q1V(w0:World)(H:qE)(g c:Nat)(T:TypeId)(z:List Value)(n M:Nat)(D:Array Int)(m:Nat)(ee:qi)(w:World):Prop:=
 ∃ (a b limit:Nat) (wb wp:Bool) (d:Array Int),m=b-a/\m<=M/\a<=b/\b<=n/\limit<=100/\d.size=n/\Below ltInt a b d/\pdq ltInt d a b limit wb wp=D/\
  ee=qi.mk 134 [(2,(Value.int .i64 b)),(1,(Value.int .i64 a)),(0,(Value.slice (some (Addr.mk g 0 none)) n c)),(9,(Value.bool wp)),(8,(Value.bool wb)),(3,(Value.int .i64 limit))] []/\St w0 w ((g,Cs (y9 d z) T)::H)
theorem qKo(h:Hint):(qjm h==2)=decide (h=.decreasing):=by cases h<;>rfl
theorem qIN(h:Hint):(qjm h==1)=decide (h=.increasing):=by cases h<;>rfl
theorem qFC{N n M:Nat}{D:Array Int}{d3:Array Int}{a b lim pv:Nat}{wb wp:Bool}{m:Nat}
  (ih:∀ {w:World} {K:KT} {d:Array Int} {a b limit:Nat},b-a<N->St w0 w ((g,Cs (y9 d z) T)::H)->a<=b->b<=d.size->d.size<1000000000000->limit<=100->Below ltInt a b d->
   (∀ w',St w0 w' ((g,Cs (y9 (pdq ltInt d a b limit true true) z) T)::H)->K (.tuple [].toArray) w')->q9 P 106 [.slice (some (Addr.mk g 0 none)) d.size c,.int .i64 a,.int .i64 b,.int .i64 limit] w K)
  (h:St w0 w ((g,Cs (y9 d3 z) T)::H)) (hd:d3.size=n) (hab:12<b-a) (hb:b<=n) (hn:n<1000000000000) (hlim:lim<=100) (hp:a<=pv/\pv<b) (hB:Below ltInt a b d3) (hM:b-a<=M) (hN:b-a<=N) (hm:m=b-a)
  (he:(decide (a > 0)&&!ltInt d3[a-1]! d3[pv]!)=true->pdq ltInt (partitionEqual ltInt d3 a b pv).2 (partitionEqual ltInt d3 a b pv).1 b lim wb wp=D)
  (hl:(decide (a > 0)&&!ltInt d3[a-1]! d3[pv]!)=false->(partition ltInt d3 a b pv).1-a<b-(partition ltInt d3 a b pv).1->pdq ltInt (pdq ltInt (partition ltInt d3 a b pv).2.2 a (partition ltInt d3 a b pv).1 lim true true) ((partition ltInt d3 a b pv).1+1) b lim (decide ((partition ltInt d3 a b pv).1-a>=(b-a) / 8)) (partition ltInt d3 a b pv).2.1=D)
  (hr:(decide (a > 0)&&!ltInt d3[a-1]! d3[pv]!)=false->¬ (partition ltInt d3 a b pv).1-a<b-(partition ltInt d3 a b pv).1->pdq ltInt (pdq ltInt (partition ltInt d3 a b pv).2.2 ((partition ltInt d3 a b pv).1+1) b lim true true) a (partition ltInt d3 a b pv).1 lim (decide (b-(partition ltInt d3 a b pv).1>=(b-a) / 8)) (partition ltInt d3 a b pv).2.1=D) :
  Vb b (some (Addr.mk g 0 none)) n c wp wb lim pv a ((b-a:Nat):Int) w K (fun e' w'=>∃ m',m'<m/\q1V w0 H g c T z n M D m' e' w'):=by
 subst hd
 have s11:∀ w1,(decide (a > 0)&&!ltInt d3[a-1]! d3[pv]!)=false->St w0 w1 ((g,Cs (y9 d3 z) T)::H)->q2P b (some (Addr.mk g 0 none)) d3.size c lim a ((b-a:Nat):Int) pv w1 K (fun e' w'=>∃ m',m'<m/\q1V w0 H g c T z d3.size M D m' e' w'):=by
  intro w1 hc h1
  rw[qbv]
  refine q4M h1 hp.1 hp.2 hb hn fun w2 h2=>⟨_,_,rfl,by omega,?_⟩
  obtain⟨r1,r2,r3,r4,r5,r6,r7⟩:=round_part swo_ltInt (partition_holds ltInt) (d3:=d3) (d4:=(partition ltInt d3 a b pv).2.2) (mid:=(partition ltInt d3 a b pv).1) (ap:=(partition ltInt d3 a b pv).2.1) hp.1 hp.2 hb hB rfl
  have hl:=hl hc
  have hr:=hr hc
  generalize (partition ltInt d3 a b pv).1=mid at *
  generalize (partition ltInt d3 a b pv).2.1=ap at *
  generalize (partition ltInt d3 a b pv).2.2=d4 at *
  have e1:IntKind.wrap .i64 ((mid:Int)-(a:Int))=((mid-a:Nat):Int):=by rw[qc om om];omega
  have e2:IntKind.wrap .i64 ((b:Int)-(mid:Int))=((b-mid:Nat):Int):=by rw[qc om om];omega
  have e3:IntKind.wrap .i64 (((b-a:Nat):Int).tdiv 8)=(((b-a) / 8:Nat):Int):=by rw[Int.tdiv_eq_ediv_of_nonneg om,qc om om];omega
  have e4:IntKind.wrap .i64 ((mid:Int)+1)=((mid+1:Nat):Int):=by rw[qc om om];omega
  rw[e1,e2,e3,e4,qg,<-r3]
  refine⟨fun hlt=>?_,fun hge=>?_⟩
  ·have hlt:mid-a<b-mid:=by simp at hlt;omega
   refine ih om h2 r1 om om hlim r4 fun w3 h3=>⟨rfl,?_⟩
   obtain⟨q1,q2⟩:=pdq_sorts ltInt swo_ltInt d4 a mid lim true true r1 om r4
   have q3:=(r6 _ q1 q2).1
   refine⟨b-(mid+1),by omega,mid+1,b,lim,_,_,_,rfl,by omega,by omega,by omega,hlim,q1.1,q3,hl hlt,?_,h3⟩
   have:decide (((mid-a:Nat):Int)>=(((b-a) / 8:Nat):Int))=decide (mid-a>=(b-a) / 8):=by
    rw[Bool.eq_iff_iff];simp only[decide_eq_true_eq];omega
   rw[this]
  ·have hge:¬ mid-a<b-mid:=by simp at hge;omega
   refine ih om h2 om om om hlim r5 fun w3 h3=>⟨rfl,?_⟩
   obtain⟨q1,q2⟩:=pdq_sorts ltInt swo_ltInt d4 (mid+1) b lim true true om om r5
   have q3:=(r7 _ q1 q2).1
   refine⟨mid-a,by omega,a,mid,lim,_,_,_,rfl,by omega,by omega,by omega,hlim,q1.1,q3,hr hge,?_,h3⟩
   have:decide (((b-mid:Nat):Int)>=(((b-a) / 8:Nat):Int))=decide (b-mid>=(b-a) / 8):=by
    rw[Bool.eq_iff_iff];simp only[decide_eq_true_eq];omega
   rw[this]
 rw[qff,qg]
 constructor
 ·intro ha0
  have ha0:a > 0:=by simp at ha0;omega
  have e1:IntKind.wrap .i64 ((a:Int)-1)=((a-1:Nat):Int):=by rw[qc om om];omega
  refine yv (i:=a-1) (j:=pv) e1 rfl om om h (.head _) fun w1 h1=>⟨_,rfl,?_⟩
  rw[JM,qg]
  refine⟨fun hn'=>?_,fun hn'=>?_⟩
  ·have hc:(decide (a > 0)&&!ltInt d3[a-1]! d3[pv]!)=true:=by simp[ha0];simpa using hn'
   have he:=he hc
   refine Vi h1 hp.1 hp.2 hb hn fun w2 h2=>⟨_,rfl,?_⟩
   obtain⟨r1,r2,r3,r4,_⟩:=round_eq swo_ltInt (partitionEqual_holds (lt:=ltInt)) (d3:=d3) (d4:=(partitionEqual ltInt d3 a b pv).2) (mid:=(partitionEqual ltInt d3 a b pv).1) ha0 hp.1 hp.2 hb hB (by simpa using hn') rfl
   exact⟨b-(partitionEqual ltInt d3 a b pv).1,by omega,_,b,lim,wb,wp,_,rfl,by omega,r2,hb,hlim,r3,r4,he,rfl,h2⟩
  ·exact s11 w1 (by rw[hn',Bool.and_false]) h1
 ·intro ha0
  have ha0:¬ a > 0:=by simp at ha0;omega
  rw[JM,qb]
  exact s11 _ (by simp[ha0]) h.drew
theorem qv0:∀ (N:Nat) {w:World} {K:KT} {d:Array Int} {a b limit:Nat},b-a<N->St w0 w ((g,Cs (y9 d z) T)::H)->a<=b->b<=d.size->d.size<1000000000000->limit<=100->Below ltInt a b d->
  (∀ w',St w0 w' ((g,Cs (y9 (pdq ltInt d a b limit true true) z) T)::H)->K (.tuple [].toArray) w')->q9 P 106 [.slice (some (Addr.mk g 0 none)) d.size c,.int .i64 a,.int .i64 b,.int .i64 limit] w K
 | 0,_,_,_,_,_,_,hN,_,_,_,_,_,_,_=>absurd hN (Nat.not_lt_zero _)
 | N+1,w,K,d,a,b,limit,hN,h,hab,hb,hn,hlim,hB,hK=>by
  refine qkf _ _ _ _ _ _ _ _ ?_
  rw[qkM,q1P,q1n,q2N]
  refine⟨q1V w0 H g c T z d.size (b-a) (pdq ltInt d a b limit true true),⟨b-a,a,b,limit,true,true,d,rfl,Nat.le_refl _,hab,hb,hlim,rfl,hB,rfl,rfl,h⟩,?_⟩
  generalize pdq ltInt d a b limit true true=D at hK
  have hM:b-a<=N:=by omega
  generalize b-a=M at hM
  generalize hnn:d.size=n at hb hn
  clear h hab hb hB hN hlim hnn
  rintro m ee w1 ⟨a,b,limit,wb,wp,d,hm,hmM,hab,hb,hlim,hd,hB,hD,rfl,h1⟩
  show q3f ..
  have el:IntKind.wrap .i64 ((b:Int)-(a:Int))=((b-a:Nat):Int):=by rw[qc om om];omega
  subst hd
  rw[JN,el,qg]
  constructor
  ·intro h12
   have h12:b-a<=12:=by simp at h12;omega
   rw[pdq_small h12]at hD
   subst hD
   exact q5l h1 hab hb hn fun w2 h2=>⟨rfl,hK w2 h2⟩
  ·intro h12
   have h12:¬ b-a<=12:=by simp at h12;omega
   rw[qdR,qg]
   constructor
   ·intro h0
    have h0:limit=0:=by simp at h0;omega
    rw[pdq_heap h12 h0]at hD
    subst hD
    exact qx5 h1 hab hb hn fun w2 h2=>⟨rfl,hK w2 h2⟩
   ·intro h0
    have h0:¬ limit=0:=by simp at h0;omega
    obtain⟨k1,k2,k3,k4,k5,k6,k7,k8⟩:=rd_facts (lt:=ltInt) (d:=d) (a:=a) (b:=b) (limit:=limit) (wb:=wb) (wp:=wp) swo_ltInt partialInsertionSort_holds reverseRange_holds om hb hB
    have kl:(rd ltInt d a b limit wb wp).lim<=100:=Nat.le_trans Go.Sort.rd_lim_le hlim
    have t9:∀ w2,(rd ltInt d a b limit wb wp).pi.2=false->St w0 w2 ((g,Cs (y9 (rd ltInt d a b limit wb wp).pi.1 z) T)::H)->
      Vb b (some (Addr.mk g 0 none)) d.size c wp wb (rd ltInt d a b limit wb wp).lim (rd ltInt d a b limit wb wp).pivot a ((b-a:Nat):Int) w2 K (fun e' w'=>∃ m',m'<m/\q1V w0 H g c T z d.size M D m' e' w'):=by
     intro w2 hpi h2
     refine qFC (N:=N) (fun q1 q2 q3 q4 q5 q6 q7 q8=>qv0 N q1 q2 q3 q4 q5 q6 q7 q8) h2 k7 om hb hn kl k6 k8 om om hm (fun hc=>?_) (fun hc hlt=>?_) (fun hc hge=>?_)
     ·rw[<-hD]
      have ha0:a > 0:=by simp at hc;exact hc.1
      have hnl:ltInt (rd ltInt d a b limit wb wp).pi.1[a-1]! (rd ltInt d a b limit wb wp).pi.1[(rd ltInt d a b limit wb wp).pivot]! = false:=by simp at hc;exact hc.2
      obtain⟨r1,r2,_⟩:=round_eq swo_ltInt (partitionEqual_holds (lt:=ltInt)) (d3:=(rd ltInt d a b limit wb wp).pi.1) (pivot:=(rd ltInt d a b limit wb wp).pivot) (d4:=(partitionEqual ltInt (rd ltInt d a b limit wb wp).pi.1 a b (rd ltInt d a b limit wb wp).pivot).2) (mid:=(partitionEqual ltInt (rd ltInt d a b limit wb wp).pi.1 a b (rd ltInt d a b limit wb wp).pivot).1) ha0 k6.1 k6.2 (by rw[k7];exact hb) k8 hnl rfl
      exact(pdq_eq h12 h0 hpi hc ⟨r1,r2⟩).symm
     ·rw[<-hD]
      obtain⟨r1,r2,_⟩:=partition_holds ltInt swo_ltInt (rd ltInt d a b limit wb wp).pi.1 a b (rd ltInt d a b limit wb wp).pivot k6.1 k6.2 (by rw[k7];exact hb)
      exact(pdq_left h12 h0 hpi hc ⟨r1,r2⟩ hlt).symm
     ·rw[<-hD]
      obtain⟨r1,r2,_⟩:=partition_holds ltInt swo_ltInt (rd ltInt d a b limit wb wp).pi.1 a b (rd ltInt d a b limit wb wp).pivot k6.1 k6.2 (by rw[k7];exact hb)
      exact(pdq_right h12 h0 hpi hc ⟨r1,r2⟩ hge).symm
    have t7:∀ w2,St w0 w2 ((g,Cs (y9 (rd ltInt d a b limit wb wp).d2 z) T)::H)->
      q0x b a (some (Addr.mk g 0 none)) d.size c wp wb (rd ltInt d a b limit wb wp).lim (rd ltInt d a b limit wb wp).pivot ((b-a:Nat):Int) (qjm (rd ltInt d a b limit wb wp).hint) w2 K (fun e' w'=>∃ m',m'<m/\q1V w0 H g c T z d.size M D m' e' w'):=by
     intro w2 h2
     have no:(wb&&wp&&decide ((rd ltInt d a b limit wb wp).hint=.increasing))=false->VY false b a (some (Addr.mk g 0 none)) d.size c wp wb (rd ltInt d a b limit wb wp).lim (rd ltInt d a b limit wb wp).pivot ((b-a:Nat):Int) w2 K (fun e' w'=>∃ m',m'<m/\q1V w0 H g c T z d.size M D m' e' w'):=by
      intro hc
      have hp:=Go.Sort.rd_pi_no hc
      rw[q38,qb]
      refine t9 w2 (by rw[hp]) ?_
      rw[hp]
      exact h2
     rw[qfY,qg]
     refine⟨fun hwb=>?_,fun hwb=>no (by rw[hwb];rfl)⟩
     rw[qg]
     refine⟨fun hwp=>?_,fun hwp=>no (by rw[hwp,Bool.and_false];rfl)⟩
     rw[qIN]
     cases hh:decide ((rd ltInt d a b limit wb wp).hint=.increasing)with
     | false=>exact no (by rw[hh,Bool.and_false])
     | true=>
      have hp:=Go.Sort.rd_pi_yes (lt:=ltInt) (d:=d) (a:=a) (b:=b) (limit:=limit) (wb:=wb) (wp:=wp) (by rw[hwb,hwp]at hh ⊢;rw[hh];rfl)
      rw[q38,qe,<-k4]
      refine qfi h2 om om om fun w3 h3=>⟨_,rfl,?_⟩
      rw[qg]
      refine⟨fun hy=>?_,fun hy=>?_⟩
      ·rw[pdq_done h12 h0 (by rw[hp];exact hy)]at hD
       subst hD
       rw[hp]at hK
       exact hK w3 h3
      ·rw[k4]
       refine t9 w3 (by rw[hp];exact hy) ?_
       rw[hp]
       exact h3
    have t6:∀ w2,St w0 w2 ((g,Cs (y9 (rd ltInt d a b limit wb wp).d1 z) T)::H)->
      q1d b a (some (Addr.mk g 0 none)) d.size c wp wb (rd ltInt d a b limit wb wp).lim ((b-a:Nat):Int) w2 K (fun e' w'=>∃ m',m'<m/\q1V w0 H g c T z d.size M D m' e' w'):=by
     intro w2 h2
     rw[qgL,<-k1]
     refine qu7 (.head _) h2 om om om fun w3 h3=>⟨_,_,rfl,?_⟩
     have hc:(rd ltInt d a b limit wb wp).c=choosePivot ltInt (rd ltInt d a b limit wb wp).d1 a b:=Go.Sort.rd_c
     rw[<-hc,qKo,qg]
     refine⟨fun hdec=>?_,fun hdec=>?_⟩
     ·have hdec:(rd ltInt d a b limit wb wp).c.2=.decreasing:=by simpa using hdec
      obtain⟨x1,x2,x3⟩:=Go.Sort.rd_dec hdec
      refine qhP h3 om om om fun w4 h4=>⟨rfl,?_⟩
      have e1:IntKind.wrap .i64 (IntKind.wrap .i64 ((b:Int)-1)-IntKind.wrap .i64 (((rd ltInt d a b limit wb wp).c.1:Int)-(a:Int)))=((rd ltInt d a b limit wb wp).pivot:Int):=by
       rw[x2,qc (x:=(b:Int)-1) om om,qc (x:=((rd ltInt d a b limit wb wp).c.1:Int)-(a:Int)) om om,qc om om]
       omega
      rw[e1,k1]
      have:=t7 w4 (by rw[x1];exact h4)
      rw[x3]at this
      exact this
     ·have hdec:(rd ltInt d a b limit wb wp).c.2≠.decreasing:=by simpa using hdec
      obtain⟨x1,x2,x3⟩:=Go.Sort.rd_not hdec
      have:=t7 w3 (by rw[x1];exact h3)
      rw[x2,x3]at this
      rw[k1]
      exact this
    rw[qd3,qg]
    refine⟨fun hwb=>?_,fun hwb=>?_⟩
    ·have hwb:wb=false:=by simpa using hwb
     subst hwb
     obtain⟨x1,x2⟩:=Go.Sort.rd_false (lt:=ltInt) (d:=d) (a:=a) (b:=b) (limit:=limit) (wp:=wp)
     refine qsG h1 hab hb hn fun w2 h2=>⟨rfl,?_⟩
     have e1:IntKind.wrap .i64 ((limit:Int)-1)=((limit-1:Nat):Int):=by rw[qc om om];omega
     rw[e1]
     have:=t6 w2 (by rw[x1];exact h2)
     rw[x2]at this
     exact this
    ·have hwb:wb=true:=by simpa using hwb
     subst hwb
     obtain⟨x1,x2⟩:=Go.Sort.rd_true (lt:=ltInt) (d:=d) (a:=a) (b:=b) (limit:=limit) (wp:=wp)
     have:=t6 w1 (by rw[x1];exact h1)
     rw[x2]at this
     exact this
end
end Go.Fx.Tryz
namespace Go.Fx.Tryz
set_option maxRecDepth 100000
open Go Go.Fx Go.Proofs
def c61:=ql Tryz.f61
def qME:=Tryz.f61.results.toList
abbrev qI3 K:=qr P qME K
def f61 a b c w K:=CS P c61 none [] [] (qI3 K) (qz 11 [(VS a b c)]) w
theorem qHy:f61 b a c w K=(q9 P 107 [(Value.int .u64 (IntKind.wrap .u64 ((a:Nat):Int)))] w (fun e f=>∃ d:Int,e=(.int .i64 d)/\q9 P 106 [(Value.slice b a c),(Value.int .i64 0),(Value.int .i64 ((a:Nat):Int)),(Value.int .i64 d)] f (fun g h=>g=(.tuple #[])/\K (Value.tuple #[]) h))):=kr
theorem qIm a b c w K(h:f61 a b c w K):q9 P 61 [(Value.slice a b c)] w K:=qA c61 Tryz.func61 h
def c28:=ql Tryz.f28
def qLI:=Tryz.f28.results.toList
abbrev qfu K:=qr P qLI K
def f28 a b w K:=CS P c28 none [4,5] [4,5] (qfu K) (qz 25 [(VP a),(Value.int .u32 b)]) w
def quO a b c w K:=SG c28 7 [4,5] [4,5] (qfu K) 25 [(4,VQ a),(1,Value.int .u32 b),(0,VP c)] w
def qrJ a b w K:=SG c28 31 [4,5] [4,5] (qfu K) 25 [(4,VQ a),(6,VQ b)] w
theorem qps:qrJ a b w K=(qS 3 b w (fun e=>q9 P 62 [(Value.agg e)] w (fun f g=>∃ c:Array Value,f=(.agg c)/\zW 3 a c g (fun d=>qS 3 a d (fun h=>K (Value.tuple #[(Value.agg h),(Value.int .i64 0)]) d))))):=kr
theorem qpR:quO a b c w K=(qh c (fun k=>∃ d:Option Nat,w.cell? (k.add 3)=some (.map d)/\∃ e:Array Value,∃ f:Bool,(∀ wq,vA w wq->(Instr.lookup 105 (Value.map d) (Value.int .u32 b) true).run P wq=.ok (.tuple #[(Value.agg e),(Value.bool f)]) wq)/\qu (qx P 41) 41 w (fun g l=>zW 3 (Addr.mk g 0 none) e l (fun h=>qo (!f) (∃ i:Array Value,(∀ wq,(Instr.build 41 #[]).run P wq=.ok (.agg i) wq)/\zW 3 a i h (fun j=>qS 3 a j (fun m=>K (Value.tuple #[(Value.agg m),(Value.int .i64 211)]) j))) (qrJ a (Addr.mk g 0 none) h K))))):=kr
theorem qGK:f28 a c w K=(qu (qx P 41) 41 w (fun b h=>q9 P 53 [(Value.pointer a)] h (fun i d=>∃ e:Bool,i=(.bool e)/\qo e (∃ f:Array Value,(∀ wq,(Instr.build 41 #[]).run P wq=.ok (.agg f) wq)/\zW 3 (Addr.mk b 0 none) f d (fun g=>qS 3 (Addr.mk b 0 none) g (fun j=>K (Value.tuple #[(Value.agg j),(Value.int .i64 5)]) g))) (quO (Addr.mk b 0 none) c a d K)))):=kr
theorem qH0 a b w K(h:f28 a b w K):q9 P 28 [(Value.pointer a),(Value.int .u32 b)] w K:=qA c28 Tryz.func28 h
def c31:=ql Tryz.f31
def qMs:=Tryz.f31.results.toList
abbrev qF0 K:=qr P qMs K
def f31 a w K:=CS P c31 none [] [] (qF0 K) (qz 17 [(VP a)]) w
theorem qFv:f31 a w K=(q9 P 53 [(Value.pointer a)] w (fun l c=>∃ e:Bool,l=(.bool e)/\qo (!e) (qh a (fun d=>∃ b:Int,c.drew.cell? (d.add 10)=some (.int .i64 b)/\q9 P 27 [(Value.pointer a)] c.drew (fun m f=>∃ (g:OA) (h i:Nat),m=(.slice g h i)/\f.cell? (d.add 10)=some (.int .i64 b)/\q9 P 60 [(Value.pointer a),(Value.slice g h i)] f (fun n j=>∃ (o:OA) (k p:Nat),n=(.slice o k p)/\j.cell? (d.add 10)=some (.int .i64 b)/\qh a (fun q=>zX (q.add 10) (Value.int .i64 (IntKind.wrap .i64 (b+((k:Nat):Int)))) j (fun r=>K (Value.tuple #[]) r)))))) (K (Value.tuple #[]) c))):=kr
theorem qFL a w K(h:f31 a w K):q9 P 31 [(Value.pointer a)] w K:=qA c31 Tryz.func31 h
def c35:=ql Tryz.f35
def qMH:=Tryz.f35.results.toList
abbrev q33 K:=qr P qMH K
def f35 a w K:=CS P c35 none [2] [2] (q33 K) (qz 74 [(VP a)]) w
def qsh a b w K:=SG c35 7 [2] [2] (q33 K) 74 [(0,VP a),(2,VQ b)] w
def q6A a b c w K:=SG c35 15 [2] [2] (q33 K) 74 [(0,VP a),(2,VQ b),(3,VQ c)] w
abbrev qFD K:=kq c35 15 [2] [2] (q33 K)
abbrev qvV K:=qp 0 (qFD K)
def qBE K Y2 e w:=zv (fun e w=>CS P (cA c35 244) none [0,2,3,43,41,42] [2,3] (qv [0,2,3,43,41,42] Y2 (qvV K)) e w) e w
abbrev q1g K Y2:=qv [0,2,3,43,41,42] Y2 (qvV K)
def qiW a b c d f g h i w K Y2:=SG c35 244 [0,2,3,43,41,42] [2,3] (q1g K Y2) 74 [(0,VP a),(2,VQ b),(3,VQ c),(43,VI d),(41,VS f g h),(42,VI i)] w
def qdC a b c d f g h i w K Y2:=SG c35 979 [0,2,3,43,41,42] [2,3] (q1g K Y2) 74 [(0,VP a),(2,VQ b),(3,VQ c),(41,VS d f g),(42,VI h),(43,VI i)] w
abbrev qzd K Y2:=kq c35 979 [0,2,3,43,41,42] [2,3] (q1g K Y2)
abbrev qjp K Y2:=qp 1 (qzd K Y2)
abbrev qAK K Y2:=kq c35 15667 [0,2,3,41,42,43] [2,3,0,41,42,43] (qjp K Y2)
abbrev qkR K Y2:=qp 2 (qAK K Y2)
def qBs K Y2 Y4 e w:=zv (fun e w=>CS P (cA c35 250676) none [49,0,6,47,2,3,41,42,43,48] [2,3,0,41,42,43,6] (qv [49,0,6,47,2,3,41,42,43,48] Y4 (qkR K Y2)) e w) e w
abbrev q6K K Y2 Y4:=qv [49,0,6,47,2,3,41,42,43,48] Y4 (qkR K Y2)
def qlF a b c d f g h i j k l m n o p q w K Y2 Y4:=SG c35 250676 [49,0,6,47,2,3,41,42,43,48] [2,3,0,41,42,43,6] (q6K K Y2 Y4) 74 [(49,VI a),(0,VP b),(6,VS c d f),(47,VS g h i),(2,VQ j),(3,VQ k),(41,VS l m n),(42,VI o),(43,VI p),(48,VI q)] w
def qwk a b c d f g h i j k l m n o p q w K Y2 Y4:=SG c35 1002707 [49,0,6,47,2,3,41,42,43,48] [2,3,0,41,42,43,6] (q6K K Y2 Y4) 74 [(0,VP a),(47,VS b c d),(2,VQ f),(3,VQ g),(41,VS h i j),(42,VI k),(43,VI l),(48,VI m),(49,VI n),(6,VS o p q)] w
def qsL a b c d f g h i j k l m n o p q w K Y2 Y4:=SG c35 2005415 [49,0,6,47,2,3,41,42,43,48] [2,3,0,41,42,43,6] (q6K K Y2 Y4) 74 [(0,VP a),(6,VS b c d),(47,VS f g h),(2,VQ i),(3,VQ j),(41,VS k l m),(42,VI n),(43,VI o),(48,VI p),(49,VI q)] w
theorem qpx:qsL a b c d e f g h i j k l m n o p w K Y2 Y4=(Y4 (qi.mk 74 [(49,(Value.int .i64 (IntKind.wrap .i64 (p+1)))),(0,(Value.pointer a)),(6,(Value.slice b c d)),(47,(Value.slice e f g)),(2,(Value.pointer (some h))),(3,(Value.pointer (some i))),(41,(Value.slice j k l)),(42,(Value.int .i64 m)),(43,(Value.int .i64 n)),(48,(Value.int .i64 o))] []) w):=kr
theorem qpF:qwk b c d g h i j k l m n o a p q r w K Y2 Y4=(qh c (fun b0=>0<=a/\a<(d:Nat)/\∃ e:Int,w.cell? (b0.add (Int.toNat a*1))=some (.int .u32 e)/\qh b (fun c0=>∃ s:Option Nat,w.cell? (c0.add 3)=some (.map s)/\∃ t:Array Value,(∀ wq,vA w wq->(Instr.lookup 105 (Value.map s) (Value.int .u32 e) false).run P wq=.ok (.agg t) wq)/\q9 P 62 [(Value.agg t)] w (fun d0 e0=>∃ u:Array Value,d0=(.agg u)/\∃ f:Array Value,(∀ wq,(Instr.build 77 #[(0,(Value.int .u32 e)),(1,(Value.agg u))]).run P wq=.ok (.agg f) wq)/\qJ 4 [(Value.agg f)]/\qu (([(Value.agg f)].map fun(v:Value)=>v.cells.toList).flatten.toArray) 77 e0 (fun f0 g0=>∃ (x:OA) (y z:Nat),∃ a0:World,(Builtin.append_ #[75,75] 75 #[(Value.slice p q r),(Value.slice (some (Addr.mk f0 0 none)) 1 1)]).run P g0=.ok (.slice x y z) a0/\qsL b x y z c d g h i j k l m n o a a0 K Y2 Y4))))):=kr
def qre a b c d f g h i j k l w K Y2:=SG c35 31335 [0,2,3,41,42,43] [2,3,0,41,42,43] (qjp K Y2) 74 [(0,VP a),(2,VQ b),(3,VQ c),(41,VS d f g),(42,VI h),(43,VI i),(6,VS j k l)] w
def qsE a b c d f g h i w K Y2:=SG c35 1959 [0,2,3,43,41,42] [2,3] (q1g K Y2) 74 [(0,VP a),(2,VQ b),(3,VQ c),(41,VS d f g),(42,VI h),(43,VI i)] w
theorem qqi:qsE a b c d e f g h w K Y2=(Y2 (qi.mk 74 [(0,(Value.pointer a)),(2,(Value.pointer (some b))),(3,(Value.pointer (some c))),(43,(Value.int .i64 (IntKind.wrap .i64 (h+1)))),(41,(Value.slice d e f)),(42,(Value.int .i64 g))] []) w):=kr
theorem qpg:qre e f a g h i j k b c d w K Y2=(∃ (l:OA) (m n:Nat),w.cell? (a.add 3)=some (.slice l m n)/\qJ 1 [(Value.slice b c d)]/\qu (([(Value.slice b c d)].map fun(v:Value)=>v.cells.toList).flatten.toArray) 75 w (fun s t=>∃ (o:OA) (p q:Nat),∃ r:World,(Builtin.append_ #[71,71] 71 #[(Value.slice l m n),(Value.slice (some (Addr.mk s 0 none)) 1 1)]).run P t=.ok (.slice o p q) r/\zX (a.add 3) (Value.slice o p q) r (fun u=>qsE e f a g h i j k u K Y2))):=kr
theorem qes:qlF a b c d e n o p f g h i j k l m w K Y2 Y4=(qo (decide (a<m)) (qwk b n o p f g h i j k l m a c d e w K Y2 Y4) (qre b f g h i j k l c d e w K Y2)):=kr
theorem qqp:qdC e f g b c h i a w K Y2=(qh b (fun l=>0<=a/\a<(c:Nat)/\∃ (j:OA) (d k:Nat),w.cell? (l.add (Int.toNat a*1))=some (.slice j d k)/\qO (qBs K Y2) (qi.mk 74 [(49,(Value.int .i64 0)),(0,(Value.pointer e)),(6,(Value.slice none 0 0)),(47,(Value.slice j d k)),(2,(Value.pointer (some f))),(3,(Value.pointer (some g))),(41,(Value.slice b c h)),(42,(Value.int .i64 i)),(43,(Value.int .i64 a)),(48,(Value.int .i64 ((d:Nat):Int)))] []) w)):=kr
def qu5 a b w K:=SG c35 31 [2] [2] (q33 K) 74 [(2,VQ a),(3,VQ b)] w
theorem qov:qu5 a b w K=(qS 9 b w (fun d=>zW 9 a d w (fun c=>qS 9 a c (fun e=>K (Value.agg e) c)))):=kr
theorem qdv:qiW e a b c f g h d w K Y2=(qo (decide (c<d)) (qdC e a b f g h d c w K Y2) (qu5 a b w K)):=kr
theorem qoa:q6A a c d w K=(qh a (fun g=>∃ (e:OA) (b f:Nat),w.cell? (g.add 4)=some (.slice e b f)/\qO (qBE K) (qi.mk 74 [(0,(Value.pointer a)),(2,(Value.pointer (some c))),(3,(Value.pointer (some d))),(43,(Value.int .i64 0)),(41,(Value.slice e b f)),(42,(Value.int .i64 ((b:Nat):Int)))] []) w)):=kr
theorem qor:qsh a i w K=(qh a (fun j=>qh a (fun k=>qh a (fun l=>qh a (fun c0=>qh a (fun m=>qh a (fun n=>qS 3 j w.drew (fun h=>∃ d:Int,w.drew.cell? (k.add 7)=some (.int .i64 d)/\∃ e:Int,w.drew.cell? (l.add 8)=some (.int .u32 e)/\∃ (o:OA) (p q:Nat),w.drew.cell? (c0.add 5)=some (.slice o p q)/\∃ f:Int,w.drew.cell? (m.add 9)=some (.int .i64 f)/\∃ g:Int,w.drew.cell? (n.add 10)=some (.int .i64 g)/\(q9 P 75 [(Value.slice o p q)] w.drew (fun d0 b=>∃ (r:OA) (s t:Nat),d0=(.slice r s t)/\b.cell? (n.add 10)=some (.int .i64 g)/\b.cell? (m.add 9)=some (.int .i64 f)/\b.cell? (l.add 8)=some (.int .u32 e)/\b.cell? (k.add 7)=some (.int .i64 d)/\Qv 3 j h b/\∃ u:Array Value,(∀ wq,(Instr.build 73 #[(0,(Value.agg h)),(2,(Value.int .i64 d)),(3,(Value.int .u32 e)),(4,(Value.slice r s t)),(5,(Value.int .i64 f)),(6,(Value.int .i64 g))]).run P wq=.ok (.agg u) wq)/\qu (qx P 73) 73 b (fun v e0=>zW 9 (Addr.mk v 0 none) u e0 (fun f0=>q6A a i (Addr.mk v 0 none) f0 K))))/\(qu (qx P 73) 73 w.drew (fun x g0=>q9 P 75 [(Value.slice o p q)] g0 (fun h0 c=>∃ (y:OA) (z a0:Nat),h0=(.slice y z a0)/\c.cell? (n.add 10)=some (.int .i64 g)/\c.cell? (m.add 9)=some (.int .i64 f)/\c.cell? (l.add 8)=some (.int .u32 e)/\c.cell? (k.add 7)=some (.int .i64 d)/\Qv 3 j h c/\∃ b0:Array Value,(∀ wq,(Instr.build 73 #[(0,(Value.agg h)),(2,(Value.int .i64 d)),(3,(Value.int .u32 e)),(4,(Value.slice y z a0)),(5,(Value.int .i64 f)),(6,(Value.int .i64 g))]).run P wq=.ok (.agg b0) wq)/\zW 9 (Addr.mk x 0 none) b0 c (fun i0=>q6A a i (Addr.mk x 0 none) i0 K)))))))))))):=kr
theorem qFQ:f35 a w K=(qu (qx P 73) 73 w (fun b g=>q9 P 53 [(Value.pointer a)] g (fun h c=>∃ d:Bool,h=(.bool d)/\qo d (∃ e:Array Value,(∀ wq,(Instr.build 73 #[]).run P wq=.ok (.agg e) wq)/\zW 9 (Addr.mk b 0 none) e c (fun f=>qS 9 (Addr.mk b 0 none) f (fun i=>K (Value.agg i) f))) (qsh a (Addr.mk b 0 none) c K)))):=kr
theorem qGs a w K(h:f35 a w K):q9 P 35 [(Value.pointer a)] w K:=qA c35 Tryz.func35 h
def c41:=ql Tryz.f41
def qLH:=Tryz.f41.results.toList
abbrev q7t K:=qr P qLH K
def f41 a b c w K:=CS P c41 none [6,7] [6,7] (q7t K) (qz 48 [(VP a),(Value.int .u32 b),(VI c)]) w
def qwH a b c d w K:=SG c41 15 [6,7] [6,7] (q7t K) 48 [(2,VI a),(1,Value.int .u32 b),(0,VP c),(8,VQ d)] w
abbrev qGF K:=kq c41 31 [6,7] [6,7] (q7t K)
def q6q a b c d f w K:=SG c41 125 [10,2,1,0] [6,7] (qGF K) 48 [(35,VB a),(10,Value.int .u32 b),(2,VI c),(1,Value.int .u32 d),(0,VP f)] w
def quG a b c d w K:=SG c41 63 [6,7] [6,7] (q7t K) 48 [(10,Value.int .u32 a),(2,VI b),(1,Value.int .u32 c),(0,VP d)] w
theorem qqv:quG a b c d w K=(∃ e:Array Value,(∀ wq,(Instr.build 142 #[(0,(Value.int .u32 c)),(1,(Value.int .i64 b))]).run P wq=.ok (.agg e) wq)/\q9 P 80 [(Value.pointer d),(Value.agg e),(Value.int .u32 a)] w (fun g h=>g=(.tuple #[])/\∃ f:Array Value,(∀ wq,(Instr.build 142 #[(0,(Value.int .u32 c)),(1,(Value.int .i64 b))]).run P wq=.ok (.agg f) wq)/\q9 P 81 [(Value.pointer d),(Value.agg f),(Value.int .u32 a)] h (fun i j=>i=(.tuple #[])/\K (Value.tuple #[(Value.bool true),(Value.int .i64 0)]) j))):=kr
theorem q4f:q6q a b c d e w K=(qo a (K (Value.tuple #[(Value.bool false),(Value.int .i64 0)]) w) (quG b c d e w K)):=kr
theorem qqH:qwH b c a d w K=(∃ g:Int,w.cell? (d.add 2)=some (.int .u32 g)/\q9 P 21 [(Value.pointer a),(Value.int .u32 g)] w (fun j e=>∃ f:Int,∃ h:Bool,j=(.tuple #[(Value.int .u32 f),(Value.bool h)])/\qo (!h) (q6q true f b c a e K) (qS 5 d e (fun k=>q9 P 79 [(Value.agg k)] e (fun l m=>∃ i:Bool,l=(.bool i)/\q6q (!i) f b c a m K))))):=kr
theorem qF8:f41 a b c w K=(q9 P 78 [(Value.pointer a),(Value.int .u32 b),(Value.int .i64 c)] w (fun h i=>∃ e:Array Value,∃ d:Int,h=(.tuple #[(Value.agg e),(Value.int .i64 d)])/\qu (qx P 62) 62 i (fun f j=>zW 5 (Addr.mk f 0 none) e j (fun g=>qo (d != 0) (K (Value.tuple #[(Value.bool false),(Value.int .i64 d)]) g) (qwH c b a (Addr.mk f 0 none) g K))))):=kr
theorem qHL a b c w K(h:f41 a b c w K):q9 P 41 [(Value.pointer a),(Value.int .u32 b),(Value.int .i64 c)] w K:=qA c41 Tryz.func41 h
def c42:=ql Tryz.f42
def qLz:=Tryz.f42.results.toList
abbrev qtH K:=qr P qLz K
def f42 a b c w K:=CS P c42 none [6] [6] (qtH K) (qz 31 [(VP a),(Value.int .u32 b),(VI c)]) w
def qst a b c d w K:=SG c42 15 [6] [6] (qtH K) 31 [(7,VQ a),(2,VI b),(1,Value.int .u32 c),(0,VP d)] w
theorem qoP:qst d a b c w K=(∃ e:Array Value,(∀ wq,(Instr.build 142 #[(0,(Value.int .u32 b)),(1,(Value.int .i64 a))]).run P wq=.ok (.agg e) wq)/\q9 P 80 [(Value.pointer c),(Value.agg e),(Value.int .u32 0)] w (fun i f=>i=(.tuple #[])/\∃ g:Array Value,(∀ wq,(Instr.build 142 #[(0,(Value.int .u32 b)),(1,(Value.int .i64 a))]).run P wq=.ok (.agg g) wq)/\∃ h:Int,f.cell? (d.add 4)=some (.int .u32 h)/\q9 P 82 [(Value.pointer c),(Value.agg g),(Value.int .u32 h)] f (fun j k=>j=(.tuple #[])/\K (Value.int .i64 0) k))):=kr
theorem qIb:f42 a b c w K=(q9 P 78 [(Value.pointer a),(Value.int .u32 b),(Value.int .i64 c)] w (fun h i=>∃ e:Array Value,∃ d:Int,h=(.tuple #[(Value.agg e),(Value.int .i64 d)])/\qu (qx P 62) 62 i (fun f j=>zW 5 (Addr.mk f 0 none) e j (fun g=>qo (d != 0) (K (Value.int .i64 d) g) (qst (Addr.mk f 0 none) c b a g K))))):=kr
theorem qHu a b c w K(h:f42 a b c w K):q9 P 42 [(Value.pointer a),(Value.int .u32 b),(Value.int .i64 c)] w K:=qA c42 Tryz.func42 h
def c70:=ql Tryz.f70
def qLo:=Tryz.f70.results.toList
abbrev qH3 K:=qr P qLo K
def f70 a w K:=CS P c70 none [2] [2] (qH3 K) (qz 9 [a]) w
theorem qEe:f70 d w K=(q9 P 114 [d] w (fun e f=>∃ (a:OA) (b c:Nat),e=(.slice a b c)/\q9 P 61 [(Value.slice a b c)] f (fun g h=>g=(.tuple #[])/\K (Value.slice a b c) h))):=kr
theorem qHE a w K(h:f70 a w K):q9 P 70 [a] w K:=qA c70 Tryz.func70 h
def c71:=ql Tryz.f71
def qLw:=Tryz.f71.results.toList
abbrev qEd K:=qr P qLw K
def f71 a w K:=CS P c71 none [2] [2] (qEd K) (qz 4 [(Value.map a)]) w
theorem qGI:f71 a w K=(qu #[(Value.map a)] 105 w (fun b c=>K (Value.func (.func 115) #[] #[(Value.pointer (some (Addr.mk b 0 none)))]) c)):=kr
theorem qFb a w K(h:f71 a w K):q9 P 71 [(Value.map a)] w K:=qA c71 Tryz.func71 h
def qIF:=ql Tryz.f114
def qKm:=Tryz.f114.results.toList
abbrev qyw K:=qr P qKm K
def f114 a w K:=CS P qIF none [2] [2] (qyw K) (qz 5 [a]) w
theorem qCI:f114 a w K=(q9 P 155 [(Value.slice none 0 0),a] w (fun e f=>∃ (b:OA) (c d:Nat),e=(.slice b c d)/\K (Value.slice b c d) f)):=kr
theorem qBw a w K(h:f114 a w K):q9 P 114 [a] w K:=qA qIF Tryz.func114 h
def qtK:=ql Tryz.f115
def qJd:=Tryz.f115.results.toList
abbrev qjv K:=qr P qJd K
def f115 a b w K:=CS P qtK none [] [] (qjv K) (qz 14 [a,(VP (some b))]) w
abbrev qmM K:=qp 0 (qjv K)
def quv K Y0 e w:=zv (fun e w=>CS P (cA qtK 12) none [0,5] [] (qv [0,5] Y0 (qmM K)) e w) e w
abbrev q9q K Y0:=qv [0,5] Y0 (qmM K)
def q1W a b w K Y0:=SG qtK 12 [0,5] [] (q9q K Y0) 14 [(0,a),(5,VQ b)] w
def qnX a b w K Y0:=SG qtK 51 [0,5] [] (q9q K Y0) 14 [(0,a),(5,VQ b)] w
theorem qgn:qnX a b w K Y0=(∃ (k14 g:Value) (c:World),(Instr.entry (Value.pointer (some b))).run P w=.ok (.tuple #[k14,g]) c/\∃ d:Int,k14=(.int .u32 d)/\yJ P a [(Value.int .u32 d)] c (fun h e=>∃ f:Bool,h=(.bool f)/\qo (!f) (K (Value.tuple #[]) e) (Y0 (qi.mk 14 [(0,a),(5,(Value.pointer (some b)))] []) e))):=kr
theorem JF:q1W b a w K Y0=((∃ c:World,(Instr.next (Value.pointer (some a)) false 0).run P w=.ok (.tuple #[.bool false]) c/\K (Value.tuple #[]) c)\/∃ (k9 e:Value) (d:World),(Instr.next (Value.pointer (some a)) false 0).run P w=.ok (.tuple #[.bool true,k9,e]) d/\qnX b a d K Y0):=kr
theorem qx0:f115 a b w K=(∃ c:Option Nat,w.cell? b=some (.map c)/\∃ (d:Nat) (e:World),(Instr.range 105 (Value.map c)).run P w=.ok (.pointer (some (Addr.mk d 0 none))) e/\qO (quv K) (qi.mk 14 [(0,a),(5,(Value.pointer (some (Addr.mk d 0 none))))] []) e):=kr
theorem qzJ a b w K(h:f115 a b w K):q9 P 115 [a,(Value.pointer (some b))] w K:=qA qtK Tryz.func115 h
def q7q:=ql Tryz.f155
def quA:=Tryz.f155.results.toList
abbrev q70 K:=qr P quA K
def f155 a b c d w K:=CS P q7q none [4] [4] (q70 K) (qz 13 [(VS a b c),d]) w
abbrev qBB K:=kq q7q 3 [4] [4] (q70 K)
abbrev qn8 K:=qp 0 (qBB K)
def qaw(a:Addr)(b:OA)(c e l:Nat)(R:LoopState->Option Code->Loop)(post:Option Code->World->Prop)(args:List Value)(W:World):Prop:=args.length=1/\CS P (cA q7q 52) (some l) [2,5] [] (jt P (cA q7q 53) l R post) { zj (qi.mk 13 [(2,(VP (some a))),(4,(VS b c e))] []) [7] args with d:=[] } W
abbrev qtz(l:Nat)(R:LoopState->Option Code->Loop)(post:Option Code->World->Prop):Exit->YT:=jt P (cA q7q 53) l R post
def qa9(a:Addr)(b:OA)(c d:Nat)(e:Int)(w:World)(l:Nat)(R:LoopState->Option Code->Loop)(post:Option Code->World->Prop):Prop:=CS P (cA q7q 52) (some l) [2,5] [] (qtz l R post) (qi.mk 13 [(7,(Value.int .u32 e)),(2,(VP (some a))),(4,(VS b c d))] []) w
def qmZ a b w l R post:=Yf P (cA q7q 53) (some l) [] [] (q3h l R post) (qi.mk 13 [(2,(VP (some a))),(5,(Value.int .u32 b))] []) w
theorem qhw:qmZ a b w l R post=(∃ (c:OA) (d e:Nat),w.cell? a=some (.slice c d e)/\qJ 1 [(Value.int .u32 b)]/\qu (([(Value.int .u32 b)].map fun(v:Value)=>v.cells.toList).flatten.toArray) 24 w (fun k m=>∃ (f:OA) (g h:Nat),∃ i:World,(Builtin.append_ #[22,22] 22 #[(Value.slice c d e),(Value.slice (some (Addr.mk k 0 none)) 1 1)]).run P m=.ok (.slice f g h) i/\zX a (Value.slice f g h) i (fun j=>j.heap[l]?=some (.loop (R .busy none))/\post none (j.putObj l (.loop (R .ready none)))))):=kr
theorem qb3:qa9 a c d e b w l R post=(w.heap[l]?=some (.loop (R .ready none))/\qmZ a b (w.putObj l (.loop (R .busy none))) l R post):=kr
theorem q83:qaw b c d e l R post [(Value.int .u32 a)] w=([(Value.int .u32 a)].length=1/\qa9 b c d e a w l R post):=kr
def qa7(a:Addr)(b:OA)(c e:Nat)(d:List Deferred)(w:World)(K:KT):Prop:=(qn8 K) .normal (qi.mk 13 [(2,(VP (some a))),(4,(VS b c e))] d) w
def qjJ a d w K:=Yf P (cA q7q 7) none [4] [4] (q70 K) (qi.mk 13 [(2,(VP (some a)))] d) w
theorem qhe:qjJ a d w K=(∃ (b:OA) (c e:Nat),w.cell? a=some (.slice b c e)/\zn P quA (qi.mk 13 [(4,(Value.slice b c e)),(12,(Value.slice b c e)),(2,(Value.pointer (some a)))] d) K d w):=kr
theorem q7K:qa7 a b c e d w K=(qjJ a d w K):=kr
theorem qAU:f155 a b c d w K=(qu #[(Value.slice a b c)] 22 w (fun e f=>jR P (qn8 K) (qi.mk 13 [(2,(Value.pointer (some (Addr.mk e 0 none)))),(4,(Value.slice none 0 0))] []) f d (qaw (Addr.mk e 0 none) none 0 0))):=kr
theorem qCV a b c d w K(h:f155 a b c d w K):q9 P 155 [(Value.slice a b c),d] w K:=qA q7q Tryz.func155 h
end Go.Fx.Tryz
namespace Go.Fx.Tryz
open Go Go.Fx
set_option linter.all false
open Go.Proofs
open Go.Sort (ltInt pdq bitsLen)
variable {w0 w:World} {H:qE} {K:KT}
set_option maxRecDepth 20000
theorem qe8{v0:Value}{b1 mb clk:Nat}{t1:TypeId}{es:Array MapEntry}{X0:qE}(Fr:List Int->List (Nat × Obj)->Prop)(h:St w0 w X0)(hF0:Fr [] X0)
  (hFm:∀ vis X,Fr vis X->(b1,Cs [.map (some mb)] t1)∈X/\(mb,.map es clk)∈X) (hst:MapKept.Stamped es clk) (hks:∀ e∈es.toList,∃ k:Int,e.key=.int .u32 k)
  (hy:∀ vis k W X it o,vis.length<es.size->Fr vis X->w0.heap.size<=it->St w0 W ((it,o)::X)->yJ P v0 [.int .u32 k] W fun r W'=>r=.bool true/\∃ X',Fr (vis++[k]) X'/\St w0 W' ((it,o)::X'))
  (hK:∀ W vis X it o,(es.toList.map (·.key)).Perm (vis.map jX)->Fr vis X->w0.heap.size<=it->St w0 W ((it,o)::X)->K (.tuple [].toArray) W) :
  q9 P 115 [v0,.pointer (some (Addr.mk b1 0 none))] w K:=by
 refine qzJ _ _ _ _ ?_
 rw[qx0]
 refine⟨some mb,by rw[qw (h.has _ _ (hFm _ _ hF0).1)];rfl,w.heap.size,_,ZI (by kernel_rfl:P.underlying 105=some (.map 24 41)) (h.has _ _ (hFm _ _ hF0).2),?_⟩
 have hit:=h.le
 have h1:=h.alloc (.mapIter (some mb) clk #[] clk)
 generalize hi:w.heap.size=it at hit h1
 refine Yv (es:=es) (fun vis seen w'=>∃ ks X,vis.map (·.key)=ks.map jX/\Fr ks X/\St w0 w' ((it,.mapIter (some mb) clk seen clk)::X)) ⟨[],X0,rfl,hF0,h1⟩ ?_ ?_
 ·rintro vis seen w1 hv ⟨ks,X,hk,hF,hw⟩ Y
  show q1W ..
  rw[JF]
  refine .inl ⟨w1,j9 (hw.get (k:=0) rfl) (hw.has _ _ (.tail _ (hFm _ _ hF).2)) hst hv.over,hK w1 ks X it _ ?_ hF hit hw⟩
  rw[<-hk]
  have:=hv.perm.map (·.key)
  rwa [List.append_nil]at this
 ·rintro vis rem seen w1 hr hv ⟨ks,X,hk,hF,hw⟩ Y hY
  show q1W ..
  rw[JF]
  have hm:=hw.has _ _ (.tail _ (hFm _ _ hF).2)
  obtain⟨e,w2,he,hn,hw2,hk2,hrun⟩:=je (P:=P) (hw.get (k:=0) rfl) hm hst (hv.more hst hr)
  obtain⟨k,hek⟩:=hks e he
  have h3:St w0 (w2.putObj it (.mapIter (some mb) clk (seen.push e.born) clk)) ((it,.mapIter (some mb) clk (seen.push e.born) clk)::X):=(hw.same hw2 hk2).put (k:=0) rfl _
  refine .inr ⟨_,_,_,hrun,?_⟩
  rw[qgn]
  refine⟨e.key,e.val,_,ZJ (h3.get (k:=0) rfl) (h3.has _ _ (.tail _ (hFm _ _ hF).2)) (by simp) (ZO hst he),k,hek,?_⟩
  have hlt:ks.length<es.size:=by
   have h5:=hv.perm.length_eq
   have h6:=congrArg List.length hk
   have h7:0<rem.length:=List.length_pos_iff.2 hr
   simp at h5 h6
   omega
  refine j5 ?_ (hy ks k _ X it _ hlt hF hit h3)
  rintro r W' ⟨rfl,X',hF',h4⟩
  refine⟨true,rfl,?_⟩
  rw[Bool.not_true,qb]
  exact hY e W' he hn ⟨ks++[k],X',by rw[List.map_append,List.map_append,hk];simp[hek],hF',h4⟩
theorem qIB:yq P 115=true:=kr
theorem qgB{KK:Exit->YT}{e:qi}{round:Nat->(LoopState->Option Code->Loop)->(Option Code->World->Prop)->List Value->World->Prop}
  (h:St w0 w H) {b1 mb clk:Nat} {t1:TypeId} {es:Array MapEntry} (hst:MapKept.Stamped es clk) (hks:∀ e∈es.toList,∃ k:Int,e.key=.int .u32 k)
  (I:List Int->List (Nat × Obj)->Prop) (I0:I [] H) (hI:∀ vis H',I vis H'->(b1,Cs [.map (some mb)] t1)∈H'/\(mb,.map es clk)∈H')
  (hround:∀ l l' R post vis k W H' it o,vis.length<es.size->I vis H'->St w0 W ((l,.loop (R .ready none))::(l',.deferred (some []))::(it,o)::H')->w0.heap.size<=l->w0.heap.size<=l'->w0.heap.size<=it->
   (∀ W' H'',I (vis++[k]) H''->St w0 W' ((l,.loop (R .ready none))::(l',.deferred (some []))::(it,o)::H'')->post none W')->round l R post [.int .u32 k] W)
  (hend:∀ W H' l' vis,w0.heap.size<=l'->(es.toList.map (·.key)).Perm (vis.map jX)->I vis H'->St w0 W ((l',.deferred (some []))::H')->KK .normal { e with d:=mk l'::e.d } W) :
  jR P KK e w (.func (.func 115) #[] #[.pointer (some (Addr.mk b1 0 none))]) round:=by
 refine⟨qIB,fun R hy=>?_⟩
 have h1:=(h.alloc (.deferred (some []))).alloc (.loop (R .ready none))
 have hsz:(w.alloc (.deferred (some []))).heap.size=w.heap.size+1:=by simp
 rw[hsz]at h1
 have hle:w0.heap.size<=w.heap.size:=h.le
 refine qe8 (mb:=mb) (t1:=t1) (fun vis X=>∃ H',I vis H'/\X=(w.heap.size+1,.loop (R .ready none))::(w.heap.size,.deferred (some []))::H') h1 ⟨H,I0,rfl⟩ ?_ hst hks ?_ ?_
 ·rintro vis X ⟨H',hi,rfl⟩
  exact⟨.tail _ (.tail _ (hI vis H' hi).1),.tail _ (.tail _ (hI vis H' hi).2)⟩
 ·rintro vis k W X it o hlt ⟨H',hi,rfl⟩ hit hs
  have hs':St w0 W ((w.heap.size+1,.loop (R .ready none))::(w.heap.size,.deferred (some []))::(it,o)::H'):=hs.perm ((List.Perm.swap _ _ _).trans ((List.Perm.swap _ _ _).cons _))
  refine j5 ?_ (hy [.int .u32 k] W (fun j W'=>match j with
   | none=>∃ H'',I (vis++[k]) H''/\St w0 W' ((w.heap.size+1,.loop (R .ready none))::(w.heap.size,.deferred (some []))::(it,o)::H'')
   | some _=>False)
   (hround _ _ R _ vis k W H' it o hlt hi hs' om om hit (fun W' H'' h1 h2=>⟨H'',h1,h2⟩)) (hs'.get (k:=0) rfl))
  rintro v W' ⟨j,rfl,hj⟩
  cases j with
  | none=>
   obtain⟨H'',h2,h3⟩:=hj
   exact⟨rfl,_,⟨H'',h2,rfl⟩,h3.perm (((List.Perm.swap _ _ _).cons _).trans (List.Perm.swap _ _ _))⟩
  | some c=>exact hj.elim
 ·rintro W vis X it o hp ⟨H',hi,rfl⟩ hit hs
  have hs:=hs.tail hit
  refine⟨.ready,none,hs.get (k:=0) rfl,by simp,?_⟩
  exact hend _ H' _ vis hle hp hi ((hs.put (k:=0) rfl _).tail om)
theorem qpA(sa:Option Addr)(sl sc:Nat)(v2:Value)(r:List (Nat × Value))(d0:List Deferred)(w:World)(K:KT) :
  zn P quA (qi.mk 13 ((4,(Value.slice sa sl sc))::(12,v2)::r) d0) K [] w=K (Value.slice sa sl sc) w:=kr
theorem qig{b1 mb clk:Nat}{t1:TypeId}{es:Array MapEntry}(h:St w0 w H)(hb:(b1,Cs [.map (some mb)] t1)∈H)(hm:(mb,.map es clk)∈H)(hst:MapKept.Stamped es clk)(hks:∀ e∈es.toList,∃ k:Int,e.key=.int .u32 k)(hn:es.size<1000000)
  (hK:∀ w' a c (ks:List Int) Lo,(es.toList.map (·.key)).Perm (ks.map jX)->zu 1 24 (.slice a ks.length c) ks.length (ks.map jX) Lo->qF w0 Lo->St w0 w' (Lo++H)->K (.slice a ks.length c) w') :
  q9 P 114 [.func (.func 115) #[] #[.pointer (some (Addr.mk b1 0 none))]] w K:=by
 refine qBw _ _ _ ?_
 rw[qCI]
 refine qCV _ _ _ _ _ _ ?_
 rw[qAU]
 refine h.newC fun n2 w1 hn2 h1=>?_
 have h1:St w0 w1 ((n2,Cs [.slice none 0 0] 22)::H):=h1
 refine qgB (mb:=mb) (t1:=t1) h1 hst hks (fun vis H'=>vis.length<=es.size/\∃ oa oc Lo,H'=(n2,Cs [.slice oa vis.length oc] 22)::(Lo++H)/\zu 1 24 (.slice oa vis.length oc) vis.length (vis.map jX) Lo/\qF w0 Lo)
  ⟨Nat.zero_le _,none,0,[],rfl,zu.nil 1 24,qF.nil w0⟩ ?_ ?_ ?_
 ·rintro vis H' ⟨_,oa,oc,Lo,rfl,_,_⟩
  exact⟨.tail _ (List.mem_append_right _ hb),.tail _ (List.mem_append_right _ hm)⟩
 ·rintro l l' R post vis k W H' it o hlt ⟨hvl,oa,oc,Lo,rfl,hS,hN⟩ hs hl hl' hit hpost
  rw[q83]
  refine⟨rfl,?_⟩
  rw[qb3]
  refine⟨hs.get (k:=0) rfl,?_⟩
  have h2:=hs.put (k:=0) rfl (.loop (R .busy none))
  rw[qhw]
  refine⟨oa,vis.length,oc,h2.cell (k:=3) rfl,⟨rfl,trivial⟩,h2.newC fun n13 w3 hn13 h3=>?_⟩
  have h3:St w0 w3 ([(n13,Cs [jX k] 24),(l,.loop (R .busy none)),(l',.deferred (some [])),(it,o),(n2,Cs [.slice oa vis.length oc] 22)]++(Lo++H)):=h3
  obtain⟨ga,cap,w4,L',hr,hS',h4,hN'⟩:=St.append (P:=P) 22 22 24 Tryz.t24 (.int .u32 0) 1 4 Tryz.underlying22 kr rfl rfl rfl rfl om (xs:=vis.map jX)
   (A:=[(n13,Cs [jX k] 24),(l,.loop (R .busy none)),(l',.deferred (some [])),(it,o),(n2,Cs [.slice oa vis.length oc] 22)]) (news:=[jX k]) h3 hS hN (j:=0) rfl rfl (fun u hu=>by rw[List.mem_singleton.1 hu];rfl) (by simp[maxLen];omega) om
  refine⟨_,_,_,w4,hr,?_⟩
  have h4:St w0 w4 ((n13,Cs [jX k] 24)::(l,.loop (R .busy none))::(l',.deferred (some []))::(it,o)::(n2,Cs [.slice oa vis.length oc] 22)::(L'++H)):=h4
  refine h4.st1 (k:=4) rfl (by simp) rfl fun w5 h5=>⟨h5.get (k:=1) rfl,?_⟩
  have h6:=(h5.put (k:=1) rfl (.loop (R .ready none))).tail hn13
  have e1:(vis++[k]).length=vis.length+1:=by simp
  have e2:(vis++[k]).map jX=vis.map jX++[jX k]:=by simp
  refine hpost _ ((n2,Cs [.slice (some ⟨ga,0,none⟩) (vis.length+1) cap] 22)::(L'++H)) ⟨by omega,_,cap,L',by rw[e1],by rw[e1,e2];exact hS',hN'⟩ h6
 ·rintro W H' l' vis hl' hp ⟨_,oa,oc,Lo,rfl,hS,hN⟩ hs
  show qa7 ..
  rw[q7K,qhe]
  refine⟨oa,vis.length,oc,hs.cell (k:=1) rfl,?_⟩
  refine⟨hs.get (k:=0) rfl,?_⟩
  have h5:=hs.put (k:=0) rfl (.deferred none)
  rw[qpA]
  refine⟨oa,_,oc,rfl,hK _ oa oc vis Lo hp hS hN ?_⟩
  exact(h5.tail hl').tail hn2
theorem qwW(h:St w0 w H){n:Nat}(hn:n<4611686018427387904)(hK:∀ w',St w0 w' H->K (I64 (bitsLen n:Nat)) w'):q9 P 107 [.int .u64 (n:Nat)] w K:=by
 refine Zm (Any.bits_Len (Go.Proofs.SlLaysF0.n15.bits (P:=P) (ρ:=Tryz.sort_ren) { Tryz.sortPow with }) (n:Int) w om om) ?_
 rintro e w' ⟨rfl,rfl⟩
 refine⟨_,rfl,?_⟩
 have:=hK w' h
 rw[Int.toNat_natCast,Go.Proofs.bitLen_eq _ om]
 exact this
theorem q8w{a:Option Addr}{c:Nat}{ks:List Int}{Lo:qE}(h:St w0 w (Lo++H))(hS:zu 1 24 (.slice a ks.length c) ks.length (ks.map jX) Lo)(hn:ks.length<1000000)
  (hK:∀ w' Lo',zu 1 24 (.slice a ks.length c) ks.length ((ks.mergeSort fun x y=>decide (x<=y)).map jX) Lo'->(qF w0 Lo->qF w0 Lo')->St w0 w' (Lo'++H)->K (.tuple [].toArray) w') :
  q9 P 61 [.slice a ks.length c] w K:=by
 refine qIm _ _ _ _ _ ?_
 rw[qHy]
 have e6:IntKind.wrap .u64 (ks.length:Int)=(ks.length:Int):=by
  simp only[IntKind.wrap,IntKind.bits,IntKind.signed]
  simp
  omega
 rw[e6]
 refine qwW h om fun w1 h1=>⟨_,rfl,?_⟩
 have hbl:bitsLen ks.length<=62:=(Go.Sort.bitsLen_le_iff _ 62).2 om
 rcases hS.2 with⟨e1,e2,e3⟩ | ⟨g,cap,cur,e1,rfl,h3,h4,h5,h6⟩
 ·-- no number
  have hz:ks=[]:=List.eq_nil_of_length_eq_zero e2
  subst hz
  obtain⟨rfl,rfl⟩:a=none/\c=0:=by simpa using e1
  subst e3
  refine qkf _ _ _ _ _ _ _ _ ?_
  rw[qkM,q1P,q1n,q2N]
  refine⟨fun m ee w=>m=0/\ee=qi.mk 134 [(2,(Value.int .i64 0)),(1,(Value.int .i64 0)),(0,(Value.slice none 0 0)),(9,(Value.bool true)),(8,(Value.bool true)),(3,(Value.int .i64 (bitsLen 0:Nat)))] []/\St w0 w H,⟨0,rfl,rfl,h1⟩,?_⟩
  rintro m ee w2 ⟨rfl,rfl,h2⟩
  show q3f ..
  rw[JN,show IntKind.wrap .i64 ((0:Int)-0)=0 by decide,show decide ((0:Int)<=12)=true by decide,qe]
  refine qlL _ _ _ _ _ _ _ ?_
  rw[qmh,q3e,q26]
  refine⟨fun m ee w=>m=0/\ee=qi.mk 49 [(0,(Value.slice none 0 0)),(6,(Value.int .i64 1)),(1,(Value.int .i64 0)),(2,(Value.int .i64 0))] []/\St w0 w H,⟨0,rfl,rfl,h2⟩,?_⟩
  rintro m ee w3 ⟨rfl,rfl,h3⟩
  show q1p ..
  rw[q08,show decide ((1:Int)<0)=false by decide,qb]
  exact⟨rfl,rfl,hK w3 [] (by simpa using hS) (fun hN=>hN) h3⟩
 ·obtain⟨rfl,rfl⟩:a=some ⟨g,0,none⟩/\c=cap:=by simpa using e1
  have hcur:cur=y9 ks.toArray (cur.drop ks.length):=by
   have:cur.take (ks.length*1)=ks.map jX:=h6
   rw[Nat.mul_one]at this
   show cur=ks.toArray.toList.map jX++cur.drop ks.length
   rw[List.toList_toArray,<-this,List.take_append_drop]
  have h1:St w0 w1 ((g,Cs cur 24)::H):=h1
  generalize hz:cur.drop ks.length=z at hcur
  have hzl:z.length=c-ks.length:=by rw[<-hz,List.length_drop,h5];omega
  subst hcur
  have hsz:ks.toArray.size=ks.length:=by simp
  rw[<-hsz]
  rw[<-hsz]at hbl
  refine qv0 (a:=0) (b:=ks.toArray.size) (limit:=bitsLen ks.toArray.size) (ks.toArray.size+1) om h1 om om om om (.inl rfl) fun w2 h2=>⟨rfl,?_⟩
  have hs:(pdq ltInt ks.toArray 0 ks.toArray.size (bitsLen ks.toArray.size) true true).toList=ks.mergeSort (fun x y=>decide (x<=y)):=Go.Sort.sortInt ks
  refine hK w2 [(g,Cs (y9 (pdq ltInt ks.toArray 0 ks.toArray.size (bitsLen ks.toArray.size) true true) z) 24)] ?_ (fun hN=>by simpa [qF]using hN) h2
  rw[hsz]at hs ⊢
  refine⟨by simp,.inr ⟨g,c,_,rfl,rfl,h3,h4,?_,?_⟩⟩
  ·show(List.map jX _++z).length=_
   rw[hs,List.length_append,List.length_map,List.length_mergeSort,hzl]
   omega
  ·show(List.map jX _++z).take _=_
   rw[hs,List.take_left' (by simp)]
end Go.Fx.Tryz
namespace Go.Fx.Tryz
set_option maxRecDepth 100000
open Go Go.Fx Go.Proofs
def Q7:=ql Tryz.f18
def qKV:=Tryz.f18.results.toList
abbrev zB K:=qr P qKV K
def f18 a b w K:=CS P Q7 none [4,5,6] [4,5,6] (zB K) (qz 173 [(VP a),(Value.agg b)]) w
def qrM a b w K:=SC Q7 1 [4,5,6] [4,5,6] (zB K) 173 [(0,VP a),(1,Value.agg b)] w
abbrev qFK K:=kq Q7 1 [4,5,6] [4,5,6] (zB K)
def qv4 a b c d e f g h w K:=SC Q7 3 [4,5,6] [4,5,6] (zB K) 173 [(6,VI a),(5,VS b c d),(4,Value.int .u32 e),(3,VQ f),(0,VP g),(1,Value.agg h)] w
abbrev qvi K:=kq Q7 3 [4,5,6] [4,5,6] (zB K)
abbrev qHA K:=kq Q7 6 [5,0,4,6,3] [4,5,6] (qvi K)
def qtx a b c d f g h w K:=SG Q7 7 [4,5,6] [4,5,6] (zB K) 173 [(5,VS a b c),(0,VP d),(4,Value.int .u32 f),(6,VI g),(3,VQ h)] w
abbrev qIh K:=kq Q7 7 [4,5,6] [4,5,6] (zB K)
def quQ a b c d e f g h i j k l m n o p q r s t u v x y z a0 b0 w K:=SC Q7 15 [4,5,6] [4,5,6] (zB K) 173 [(8,VI a),(7,VS b c d),(19,VI e),(18,VS f g h),(14,(Value.tuple #[(VS i j k),(VI l)])),(17,(Value.tuple #[(VS m n o),(VI p)])),(16,VS q r s),(15,VQ t),(5,VS u v x),(0,VP y),(4,Value.int .u32 z),(6,VI a0),(3,VQ b0)] w
abbrev qwJ K:=kq Q7 15 [4,5,6] [4,5,6] (zB K)
abbrev qGd K:=kq Q7 30 [5,0,4,6,3,7] [4,5,6] (qwJ K)
def qrC a b c d f g h i j k w K:=SG Q7 31 [4,5,6] [4,5,6] (zB K) 173 [(5,VS a b c),(0,VP d),(4,Value.int .u32 f),(6,VI g),(3,VQ h),(7,VS i j k)] w
abbrev qdT K:=kq Q7 31 [4,5,6] [4,5,6] (zB K)
abbrev qHe K:=kq Q7 62 [5,0,4,6,3] [4,5,6] (qdT K)
def q4V a b c d f g h i w K:=SG Q7 125 [5,0,4,6,3] [4,5,6] (qdT K) 173 [(29,VB a),(5,VS b c d),(0,VP f),(4,Value.int .u32 g),(6,VI h),(3,VQ i)] w
def qrl a b c d f g h w K:=SG Q7 63 [4,5,6] [4,5,6] (zB K) 173 [(5,VS a b c),(0,VP d),(4,Value.int .u32 f),(6,VI g),(3,VQ h)] w
abbrev qnM K:=kq Q7 63 [4,5,6] [4,5,6] (zB K)
abbrev qyg K:=kq Q7 126 [5,0,4,6,3] [4,5,6] (qnM K)
def qr4 a b c d f g h w K:=SG Q7 127 [4,5,6] [4,5,6] (zB K) 173 [(5,VS a b c),(0,VP d),(4,Value.int .u32 f),(6,VI g),(3,VQ h)] w
abbrev q7D K:=kq Q7 127 [4,5,6] [4,5,6] (zB K)
abbrev qB7 K:=kq Q7 254 [5,0,4,6,3] [4,5,6] (q7D K)
def q6b a b c d f g h i w K:=SG Q7 509 [5,0,4,6,3] [4,5,6] (q7D K) 173 [(53,VB a),(5,VS b c d),(0,VP f),(4,Value.int .u32 g),(6,VI h),(3,VQ i)] w
def qgw a b c d f g h w K:=SG Q7 255 [4,5,6] [4,5,6] (zB K) 173 [(5,VS a b c),(0,VP d),(4,Value.int .u32 f),(6,VI g),(3,VQ h)] w
abbrev qjj K:=kq Q7 255 [4,5,6] [4,5,6] (zB K)
abbrev q6k K:=qp 0 (qjj K)
def qwM K Y10 e w:=zv (fun e w=>CS P (cA Q7 2040) none [5,0,4,6,3] [4,5,6,0,3] (qv [5,0,4,6,3] Y10 (q6k K)) e w) e w
abbrev Vq K Y10:=qv [5,0,4,6,3] Y10 (q6k K)
def q9r a b c d f g h w K Y10:=SG Q7 2040 [5,0,4,6,3] [4,5,6,0,3] (Vq K Y10) 173 [(5,VS a b c),(0,VP d),(4,Value.int .u32 f),(6,VI g),(3,VQ h)] w
abbrev q6j K Y10:=kq Q7 2040 [5,0,4,6,3] [4,5,6,0,3] (Vq K Y10)
abbrev qDd K Y10:=kq Q7 4080 [0,4,6,3,5] [4,5,6,0,3] (q6j K Y10)
def q0E a b c d f g h i w K Y10:=SG Q7 8161 [0,4,6,3,5] [4,5,6,0,3] (q6j K Y10) 173 [(79,VB a),(0,VP b),(4,Value.int .u32 c),(6,VI d),(3,VQ f),(5,VS g h i)] w
def qkm a b c d f g h w K Y10:=SG Q7 4081 [5,0,4,6,3] [4,5,6,0,3] (Vq K Y10) 173 [(0,VP a),(4,Value.int .u32 b),(6,VI c),(3,VQ d),(5,VS f g h)] w
abbrev ZZ K Y10:=qp 1 (Vq K Y10)
abbrev qxO K Y10:=kq Q7 8162 [5,0,4,6,3] [4,5,6,0,3] (ZZ K Y10)
def q5I a b c d f g h w K Y10:=SG Q7 16325 [5,0,4,6,3] [4,5,6,0,3] (ZZ K Y10) 173 [(0,VP a),(4,Value.int .u32 b),(6,VI c),(3,VQ d),(5,VS f g h)] w
abbrev qCx K Y10:=kq Q7 16325 [5,0,4,6,3] [4,5,6,0,3] (ZZ K Y10)
def ql2 a b c d f g h i j k w K Y10:=SG Q7 32651 [5,0,4,6,3] [4,5,6,0,3] (ZZ K Y10) 173 [(0,VP a),(4,Value.int .u32 b),(6,VI c),(3,VQ d),(11,VS f g h),(5,VS i j k)] w
abbrev qz8 K Y10:=kq Q7 32651 [5,0,4,6,3] [4,5,6,0,3] (ZZ K Y10)
theorem qhZ:ql2 c e f g h d i j k l w K Y10=(qh c (fun r=>∃ m:Int,w.cell? (r.add 9)=some (.int .i64 m)/\qh c (fun s=>zX (s.add 9) (Value.int .i64 (IntKind.wrap .i64 (m+((d:Nat):Int)))) w (fun t=>∃ (n:OA) (o p:Nat),∃ q:World,(Builtin.append_ #[22,22] 22 #[(Value.slice j k l),(Value.slice h d i)]).run P t=.ok (.slice n o p) q/\Y10 (qi.mk 173 [(5,(Value.slice n o p)),(0,(Value.pointer c)),(4,(Value.int .u32 e)),(6,(Value.int .i64 f)),(3,(Value.pointer (some g)))] []) q)))):=qD (qH [0,4,6,3,11,5] (qz8 K Y10) kr)
theorem qeV:q5I c d e f g h i w K Y10=(qh c (fun s=>qh c (fun t=>∃ (k:OA) (l u:Nat),w.drew.cell? (s.add 4)=some (.slice k l u)/\∃ j:Int,w.drew.cell? (t.add 7)=some (.int .i64 j)/\qh k (fun v=>0<=j/\j<(l:Nat)/\∃ (m:OA) (n o:Nat),w.drew.cell? (v.add (Int.toNat j*1))=some (.slice m n o)/\q9 P 60 [(Value.pointer c),(Value.slice m n o)] w.drew (fun x y=>∃ (p:OA) (q r:Nat),x=(.slice p q r)/\ql2 c d e f p q r g h i y K Y10))))):=qD (qH [0,4,6,3,11,5] (qCx K Y10) kr)
theorem qgU:qkm c d e f g h i w K Y10=(qh c (fun l=>qh c (fun m=>∃ k:Int,w.drew.cell? (l.add 7)=some (.int .i64 k)/\∃ j:Int,w.drew.cell? m=some (.int .i64 j)/\j≠0/\qh c (fun n=>zX (n.add 7) (Value.int .i64 ((IntKind.wrap .i64 (k+1)).tmod j)) w.drew (fun o=>q5I c d e f g h i o K Y10))))):=qD (Qp 1 [4,5,6,0,3] (ZZ K Y10) (qH [0,4,6,3,5] (qxO K Y10) kr))
def q0Q a b c d f w K:=SG Q7 511 [4,5,6] [4,5,6] (zB K) 173 [(5,VS a b c),(0,VP d),(3,VQ f)] w
abbrev qyE K:=kq Q7 511 [4,5,6] [4,5,6] (zB K)
def q6D a b c d w K:=SG Q7 4095 [4,5,6] [4,5,6] (zB K) 173 [(5,VS a b c),(0,VP d)] w
abbrev qzX K:=kq Q7 4095 [4,5,6] [4,5,6] (zB K)
def q0Y a b c d w K:=SG Q7 8191 [4,5,6] [4,5,6] (zB K) 173 [(5,VS a b c),(0,VP d)] w
abbrev qxq K:=kq Q7 8191 [4,5,6] [4,5,6] (zB K)
theorem qef:q0Y d e f c w K=(qh c (fun j=>∃ g:Int,w.cell? (j.add 8)=some (.int .u32 g)/\q9 P 63 [(Value.pointer c),(Value.int .u32 g)] w (fun k h=>k=(.tuple #[])/\qh c (fun l=>∃ i:Int,h.cell? (l.add 8)=some (.int .u32 i)/\K (Value.tuple #[(Value.int .u32 i),(Value.slice d e f),(Value.int .i64 0)]) h)))):=qD (qH [5,0] (qxq K) kr)
theorem qgM:q6D g h i c w K=(qh c (fun m=>qh c (fun n=>qh c (fun x=>qh c (fun y=>qh c (fun e0=>∃ (j:OA) (k o:Nat),w.drew.cell? (m.add 4)=some (.slice j k o)/\∃ d:Int,w.drew.cell? (n.add 7)=some (.int .i64 d)/\∃ (p:OA) (q z:Nat),w.drew.cell? (x.add 4)=some (.slice p q z)/\∃ e:Int,w.drew.cell? (y.add 7)=some (.int .i64 e)/\qh p (fun a0=>0<=e/\e<(q:Nat)/\∃ (r:OA) (s t:Nat),w.drew.cell? (a0.add (Int.toNat e*1))=some (.slice r s t)/\∃ u:Int,w.drew.cell? (e0.add 8)=some (.int .u32 u)/\qJ 1 [(Value.int .u32 u)]/\qu (([(Value.int .u32 u)].map fun(v:Value)=>v.cells.toList).flatten.toArray) 24 w.drew (fun f0 f=>f.cell? (a0.add (Int.toNat e*1))=some (.slice r s t)/\f.cell? (y.add 7)=some (.int .i64 e)/\f.cell? (x.add 4)=some (.slice p q z)/\f.cell? (n.add 7)=some (.int .i64 d)/\f.cell? (m.add 4)=some (.slice j k o)/\∃ (b0:OA) (c0 d0:Nat),∃ l:World,(Builtin.append_ #[22,22] 22 #[(Value.slice r s t),(Value.slice (some (Addr.mk f0 0 none)) 1 1)]).run P f=.ok (.slice b0 c0 d0) l/\l.cell? (n.add 7)=some (.int .i64 d)/\l.cell? (m.add 4)=some (.slice j k o)/\qh j (fun g0=>0<=d/\d<(k:Nat)/\zX (g0.add (Int.toNat d*1)) (Value.slice b0 c0 d0) l (fun h0=>q0Y g h i c h0 K)))))))))):=qD (qH [5,0] (qzX K) kr)
theorem qdl:q0Q d e f c g w K=(q9 P 61 [(Value.slice d e f)] w (fun r l=>r=(.tuple #[])/\qh c (fun s=>∃ m:Int,l.cell? (s.add 8)=some (.int .u32 m)/\qh c (fun t=>zX (t.add 8) (Value.int .u32 (IntKind.wrap .u32 (m+1))) l (fun h=>qh c (fun n=>qh c (fun o=>∃ i:Option Nat,h.drew.cell? (n.add 3)=some (.map i)/\∃ j:Int,h.drew.cell? (o.add 8)=some (.int .u32 j)/\qS 3 g h.drew (fun u=>q9 P 62 [(Value.agg u)] h.drew (fun v k=>∃ p:Array Value,v=(.agg p)/\k.cell? (o.add 8)=some (.int .u32 j)/\k.cell? (n.add 3)=some (.map i)/\∃ q:World,(Instr.mapUpdate 105 (Value.map i) (Value.int .u32 j) (Value.agg p)).run P k=.ok () q/\q6D d e f c q K))))))))):=qD (qH [5,0,3] (qyE K) kr)
theorem q1j:q0E g a h i c d e f w K Y10=(qo g (qkm a h i c d e f w K Y10) (q0Q d e f a c w K)):=qD kr
theorem qb8:q9r e f g c h i d w K Y10=(qh c (fun u=>qh c (fun m=>∃ n:Int,w.drew.cell? (u.add 7)=some (.int .i64 n)/\∃ (o:OA) (k p:Nat),w.drew.cell? (d.add 2)=some (.slice o k p)/\∃ l:Int,w.drew.cell? (m.add 1)=some (.int .i64 l)/\q9 P 58 [(Value.pointer c),(Value.int .i64 n)] w.drew (fun v j=>∃ q:Int,v=(.int .i64 q)/\j.cell? (m.add 1)=some (.int .i64 l)/\j.cell? (d.add 2)=some (.slice o k p)/\qo (decide ((IntKind.wrap .i64 (q+((k:Nat):Int))) > l)) (q0E true c h i d e f g j K Y10) (qh c (fun x=>∃ r:Option Nat,j.cell? (x.add 3)=some (.map r)/\∃ s:Int,(∀ wq,vA j wq->(Builtin.len_ #[105] 3 #[(Value.map r)]).run P wq=.ok (.int .i64 s) wq)/\q9 P 59 [(Value.pointer c)] j (fun y z=>∃ t:Int,y=(.int .i64 t)/\q0E (decide (s>=t)) c h i d e f g z K Y10))))))):=qD (qH [0,4,6,3,5] (q6j K Y10) (qH [79,0,4,6,3,5] (qDd K Y10) kr))
theorem qq2:qgw c d e f g h i w K=(qO (qwM K) (qi.mk 173 [(5,(Value.slice c d e)),(0,(Value.pointer f)),(4,(Value.int .u32 g)),(6,(Value.int .i64 h)),(3,(Value.pointer (some i)))] []) w):=qD (qH [5,0,3] (qjj K) (Qp 0 [4,5,6,0,3] (q6k K) (CSv [4,5,6,0,3] [5,0,4,6,3])))
theorem q4A:q6b a c d e f g h i w K=(qo a (K (Value.tuple #[(Value.int .u32 0),(Value.slice none 0 0),(Value.int .i64 2)]) w) (qgw c d e f g h i w K)):=qD kr
theorem qqP:qr4 e f g c h i d w K=(qh c (fun m=>∃ (n:OA) (j o:Nat),w.drew.cell? (d.add 2)=some (.slice n j o)/\∃ k:Int,w.drew.cell? (m.add 1)=some (.int .i64 k)/\qo (decide ((((j:Nat):Int):Int) > k)) (q6b true e f g c h i d w.drew K) (qh c (fun p=>∃ l:Int,w.drew.cell? (p.add 8)=some (.int .u32 l)/\q6b (l==2147483647) e f g c h i d w.drew K)))):=qD (qH [5,0,4,6,3] (q7D K) (qH [53,5,0,4,6,3] (qB7 K) kr))
theorem qqk:qrl e f g c h i d w K=(∃ j:Int,w.cell? d=some (.int .u32 j)/\q9 P 21 [(Value.pointer c),(Value.int .u32 j)] w (fun m k=>∃ n:Int,∃ l:Bool,m=(.tuple #[(Value.int .u32 n),(Value.bool l)])/\qo l (K (Value.tuple #[(Value.int .u32 0),(Value.slice none 0 0),(Value.int .i64 5)]) k) (qr4 e f g c h i d k K))):=qD (qH [5,0,4,6,3] (qnM K) (qH [5,0,4,6,3,10] (qyg K) kr))
theorem q4m:q4V a c d e f g h i w K=(qo a (K (Value.tuple #[(Value.int .u32 0),(Value.slice none 0 0),(Value.int .i64 1)]) w) (qrl c d e f g h i w K)):=qD kr
theorem qq4:qrC d e f g h i c j k l w K=(∃ (m:OA) (n o:Nat),w.cell? (c.add 1)=some (.slice m n o)/\q9 P 55 [(Value.slice m n o)] w (fun s p=>∃ q:Bool,s=(.bool q)/\qo (!q) (q4V true d e f g h i c p K) (q9 P 56 [(Value.slice j k l),(Value.func (.func 57) #[] #[])] p (fun t u=>∃ r:Bool,t=(.bool r)/\q4V r d e f g h i c u K)))):=qD (qH [5,0,4,6,3] (qdT K) (qH [29,5,0,4,6,3] (qHe K) kr))
theorem q4t:quQ c d e f n o p q r s t u v x y z a0 b0 c0 d0 g h i j k l m w K=(qo (c != 0) (K (Value.tuple #[(Value.int .u32 0),(Value.slice none 0 0),(Value.int .i64 170)]) w) (qrC g h i j k l m d e f w K)):=Eq.trans (b:=CS P (cA Q7 15) none [4,5,6] [4,5,6] (zB K) (qi.mk 173 [(8,(VI c)),(7,(VS d e f)),(19,(VI n)),(18,(VS o p q)),(14,(Value.tuple #[(VS r s t),(VI u)])),(17,(Value.tuple #[(VS v x y),(VI z)])),(16,(VS a0 b0 c0)),(15,(VP (some d0))),(5,(VS g h i)),(0,(VP j)),(4,(Value.int .u32 k)),(6,(VI l)),(3,(VP (some m)))] []) w) kr (Eq.trans (zh [5,0,4,6,3,7] (qwJ K) kr) (Eq.trans (zh [21,5,0,4,6,3,7] (qGd K) kr) kr))
theorem qqC:qtx h i j k l m c w K=(∃ (n:OA) (o p:Nat),w.cell? (c.add 2)=some (.slice n o p)/\q9 P 54 [(Value.slice n o p)] w (fun q r=>∃ (d:OA) (e f:Nat),∃ g:Int,q=(.tuple #[(Value.slice d e f),(Value.int .i64 g)])/\quQ g d e f g d e f d e f g d e f g n o p (c.add 2) h i j k l m c r K)):=qD (qH [5,0,4,6,3,7,8] (qIh K) kr)
theorem qoN:qv4 d e f g h i c j w K=(q9 P 53 [(Value.pointer c)] w (fun m k=>∃ l:Bool,m=(.bool l)/\qo l (K (Value.tuple #[(Value.int .u32 0),(Value.slice none 0 0),(Value.int .i64 5)]) k) (qtx e f g c h d i k K))):=Eq.trans (b:=CS P (cA Q7 3) none [4,5,6] [4,5,6] (zB K) (qi.mk 173 [(6,(VI d)),(5,(VS e f g)),(4,(Value.int .u32 h)),(3,(VP (some i))),(0,(VP c)),(1,(Value.agg j))] []) w) kr (Eq.trans (zh [5,0,4,6,3] (qvi K) kr) (Eq.trans (zh [13,5,0,4,6,3] (qHA K) kr) kr))
theorem qq5:qrM d c w K=(qu c 41 w (fun e f=>qv4 0 none 0 0 0 (Addr.mk e 0 none) d c f K)):=Eq.trans (b:=CS P (cA Q7 1) none [4,5,6] [4,5,6] (zB K) (qi.mk 173 [(0,(VP d)),(1,(Value.agg c))] []) w) kr (Eq.trans (zh [5,0,4,6,3] (qFK K) kr) kr)
theorem qFV:f18 a b w K=(qrM a b w K):=kr
theorem qEg a b w K(h:f18 a b w K):q9 P 18 [(Value.pointer a),(Value.agg b)] w K:=qA Q7 Tryz.func18 h
def c20:=ql Tryz.f20
def qMN:=Tryz.f20.results.toList
abbrev q5L K:=qr P qMN K
def f20 a b w K:=CS P c20 none [4] [4] (q5L K) (qz 41 [(VP a),(Value.agg b)]) w
def qul a b c d f w K:=SG c20 7 [4] [4] (q5L K) 41 [(3,VQ a),(4,VS b c d),(0,VP f)] w
abbrev qEP K:=kq c20 15 [4] [4] (q5L K)
abbrev qvO K:=qp 0 (qEP K)
def qDB K Y1 e w:=zv (fun e w=>CS P (cA c20 244) none [5,3,14,4,0] [4,0,5] (qv [5,3,14,4,0] Y1 (qvO K)) e w) e w
abbrev qln K Y1:=qv [5,3,14,4,0] Y1 (qvO K)
def q6y a b c d f g h i j w K Y1:=SG c20 244 [5,3,14,4,0] [4,0,5] (qln K Y1) 41 [(5,VS a b c),(3,VQ d),(14,VQ f),(4,VS g h i),(0,VP j)] w
def qvP a b c d w K:=SG c20 31 [4] [4] (q5L K) 41 [(0,VP a),(5,VS b c d)] w
theorem qoZ:qvP a c d e w K=(q9 P 60 [(Value.pointer a),(Value.slice c d e)] w (fun j f=>∃ (g:OA) (b h:Nat),j=(.slice g b h)/\qh a (fun k=>∃ i:Int,f.cell? (k.add 10)=some (.int .i64 i)/\qh a (fun l=>zX (l.add 10) (Value.int .i64 (IntKind.wrap .i64 (i+((b:Nat):Int)))) f (fun m=>K (Value.slice g b h) m))))):=kr
def quu a b c d f g h i j w K Y1:=SG c20 979 [5,3,14,4,0] [4,0,5] (qln K Y1) 41 [(3,VQ a),(14,VQ b),(4,VS c d f),(0,VP g),(5,VS h i j)] w
theorem qoT:quu a b c d e f g h i w K Y1=(∃ (k38 k:Value) (l:World),(Instr.entry (Value.pointer (some b))).run P w=.ok (.tuple #[k38,k]) l/\∃ j:Int,k38=(.int .u32 j)/\∃ m:Array Value,k=(.agg m)/\qu (qx P 41) 41 l (fun n a0=>zW 3 (Addr.mk n 0 none) m a0 (fun o=>∃ (p:OA) (q r:Nat),o.cell? ((Addr.mk n 0 none).add 1)=some (.slice p q r)/\q9 P 65 [(Value.slice p q r),(Value.func (.func 66) #[] #[(Value.pointer (some a))])] o (fun b0 s=>∃ t:Bool,b0=(.bool t)/\qo t (qJ 1 [(Value.int .u32 j)]/\qu (([(Value.int .u32 j)].map fun(v:Value)=>v.cells.toList).flatten.toArray) 24 s (fun c0 d0=>∃ (u:OA) (x y:Nat),∃ z:World,(Builtin.append_ #[22,22] 22 #[(Value.slice g h i),(Value.slice (some (Addr.mk c0 0 none)) 1 1)]).run P d0=.ok (.slice u x y) z/\Y1 (qi.mk 41 [(5,(Value.slice u x y)),(3,(Value.pointer (some a))),(14,(Value.pointer (some b))),(4,(Value.slice c d e)),(0,(Value.pointer f))] []) z)) (Y1 (qi.mk 41 [(5,(Value.slice g h i)),(3,(Value.pointer (some a))),(14,(Value.pointer (some b))),(4,(Value.slice c d e)),(0,(Value.pointer f))] []) s))))):=kr
theorem q2b:q6y b c d f a g h i e w K Y1=((∃ j:World,(Instr.next (Value.pointer (some a)) false 0).run P w=.ok (.tuple #[.bool false]) j/\qvP e b c d j K)\/∃ (k21 l:Value) (k:World),(Instr.next (Value.pointer (some a)) false 0).run P w=.ok (.tuple #[.bool true,k21,l]) k/\quu f a g h i e b c d k K Y1):=kr
theorem qpk:qul b c d e a w K=(qh a (fun i=>∃ f:Option Nat,w.cell? (i.add 3)=some (.map f)/\∃ (g:Nat) (h:World),(Instr.range 105 (Value.map f)).run P w=.ok (.pointer (some (Addr.mk g 0 none))) h/\qO (qDB K) (qi.mk 41 [(5,(Value.slice none 0 0)),(3,(Value.pointer (some b))),(14,(Value.pointer (some (Addr.mk g 0 none)))),(4,(Value.slice c d e)),(0,(Value.pointer a))] []) h)):=kr
theorem qHd:f20 a b w K=(qu b 36 w (fun e f=>q9 P 53 [(Value.pointer a)] f (fun g c=>∃ d:Bool,g=(.bool d)/\qo d (K (Value.slice none 0 0) c) (qul (Addr.mk e 0 none) none 0 0 a c K)))):=kr
theorem qEI a b w K(h:f20 a b w K):q9 P 20 [(Value.pointer a),(Value.agg b)] w K:=qA c20 Tryz.func20 h
def c21:=ql Tryz.f21
def qMS:=Tryz.f21.results.toList
abbrev qu1 K:=qr P qMS K
def f21 a b w K:=CS P c21 none [4,5] [4,5] (qu1 K) (qz 19 [(VP a),(Value.int .u32 b)]) w
def qvD a b w K:=SG c21 7 [4,5] [4,5] (qu1 K) 19 [(1,Value.int .u32 a),(0,VP b)] w
theorem qpq:qvD b c w K=(q9 P 68 [(Value.pointer c),(Value.int .u32 b)] w (fun d e=>∃ a:Int,∃ f:Int,d=(.tuple #[(Value.int .u32 a),(Value.int .i64 f)])/\K (Value.tuple #[(Value.int .u32 a),(Value.bool (a != 0))]) e)):=kr
theorem qI5:f21 a b w K=(q9 P 53 [(Value.pointer a)] w (fun e c=>∃ d:Bool,e=(.bool d)/\qo d (K (Value.tuple #[(Value.int .u32 0),(Value.bool false)]) c) (qvD b a c K))):=kr
theorem qHp a b w K(h:f21 a b w K):q9 P 21 [(Value.pointer a),(Value.int .u32 b)] w K:=qA c21 Tryz.func21 h
def c23:=ql Tryz.f23
def qMr:=Tryz.f23.results.toList
abbrev Yu K:=qr P qMr K
def f23 a w K:=CS P c23 none [2] [2] (Yu K) (qz 56 [(VP a)]) w
def qry a b w K:=SG c23 7 [2] [2] (Yu K) 56 [(0,VP a),(2,VQ b)] w
def qtY a b c w K:=SG c23 15 [2] [2] (Yu K) 56 [(3,VQ a),(0,VP b),(2,VQ c)] w
abbrev qIg K:=kq c23 15 [2] [2] (Yu K)
abbrev qv9 K:=qp 0 (qIg K)
def qxA K Y2 e w:=zv (fun e w=>CS P (cA c23 244) none [29,3,0,2,28] [2,3,0] (qv [29,3,0,2,28] Y2 (qv9 K)) e w) e w
abbrev q51 K Y2:=qv [29,3,0,2,28] Y2 (qv9 K)
def qmB a b c d f w K Y2:=SG c23 244 [29,3,0,2,28] [2,3,0] (q51 K Y2) 56 [(29,VI a),(3,VQ b),(0,VP c),(2,VQ d),(28,VI f)] w
def qt6 a b c d f w K Y2:=SG c23 979 [29,3,0,2,28] [2,3,0] (q51 K Y2) 56 [(3,VQ a),(0,VP b),(2,VQ c),(28,VI d),(29,VI f)] w
def qqY a b c d f w K Y2:=SG c23 1959 [29,3,0,2,28] [2,3,0] (q51 K Y2) 56 [(3,VQ a),(0,VP b),(2,VQ c),(28,VI d),(29,VI f)] w
theorem qqx:qqY a b c d e w K Y2=(Y2 (qi.mk 56 [(29,(Value.int .i64 (IntKind.wrap .i64 (e+1)))),(3,(Value.pointer (some a))),(0,(Value.pointer b)),(2,(Value.pointer (some c))),(28,(Value.int .i64 d))] []) w):=kr
theorem qoh:qt6 a b e f c w K Y2=(∃ d:Int,w.drew.cell? (a.add 1)=some (.int .i64 d)/\q9 P 58 [(Value.pointer b),(Value.int .i64 c)] w.drew (fun i g=>∃ h:Int,i=(.int .i64 h)/\g.cell? (a.add 1)=some (.int .i64 d)/\zX (a.add 1) (Value.int .i64 (IntKind.wrap .i64 (d+h))) g (fun j=>qqY a b e f c j K Y2))):=kr
def qw1 a b c w K:=SG c23 31 [2] [2] (Yu K) 56 [(3,VQ a),(2,VQ b),(0,VP c)] w
abbrev qzM K:=kq c23 31 [2] [2] (Yu K)
abbrev qmX K:=qp 2 (qzM K)
def qzb K Y6 e w:=zv (fun e w=>CS P (cA c23 500) none [3,44,2] [2,3] (qv [3,44,2] Y6 (qmX K)) e w) e w
abbrev qnj K Y6:=qv [3,44,2] Y6 (qmX K)
def q6d a b c w K Y6:=SG c23 500 [3,44,2] [2,3] (qnj K Y6) 56 [(3,VQ a),(44,VQ b),(2,VQ c)] w
def quN a b w K:=SG c23 63 [2] [2] (Yu K) 56 [(2,VQ a),(3,VQ b)] w
theorem qpO:quN a b w K=(qS 5 b w (fun d=>zW 5 a d w (fun c=>qS 5 a c (fun e=>K (Value.agg e) c)))):=kr
def qwe a b c w K Y6:=SG c23 2003 [3,44,2] [2,3] (qnj K Y6) 56 [(3,VQ a),(44,VQ b),(2,VQ c)] w
theorem qod:qwe a c d w K Y6=(∃ (k70 e:Value) (b:World),(Instr.entry (Value.pointer (some c))).run P w=.ok (.tuple #[k70,e]) b/\∃ f:Option Nat,e=(.map f)/\∃ g:Int,b.cell? (a.add 2)=some (.int .i64 g)/\∃ h:Int,(∀ wq,vA b wq->(Builtin.len_ #[124] 3 #[(Value.map f)]).run P wq=.ok (.int .i64 h) wq)/\zX (a.add 2) (Value.int .i64 (IntKind.wrap .i64 (g+h))) b (fun i=>Y6 (qi.mk 56 [(3,(Value.pointer (some a))),(44,(Value.pointer (some c))),(2,(Value.pointer (some d)))] []) i)):=kr
theorem q2J:q6d b a c w K Y6=((∃ d:World,(Instr.next (Value.pointer (some a)) false 0).run P w=.ok (.tuple #[.bool false]) d/\quN c b d K)\/∃ (k59 f:Value) (e:World),(Instr.next (Value.pointer (some a)) false 0).run P w=.ok (.tuple #[.bool true,k59,f]) e/\qwe b a c e K Y6):=kr
theorem qqn:qw1 a b c w K=(qh c (fun g=>∃ d:Option Nat,w.cell? (g.add 6)=some (.map d)/\∃ (e:Nat) (f:World),(Instr.range 107 (Value.map d)).run P w=.ok (.pointer (some (Addr.mk e 0 none))) f/\qO (qzb K) (qi.mk 56 [(3,(Value.pointer (some a))),(44,(Value.pointer (some (Addr.mk e 0 none)))),(2,(Value.pointer (some b)))] []) f)):=kr
theorem qde:qmB a b c d e w K Y2=(qo (decide (a<e)) (qt6 b c d e a w K Y2) (qw1 b d c w K)):=kr
theorem qpn:qtY b a c w K=(qh a (fun e=>∃ (f:OA) (d g:Nat),w.cell? (e.add 4)=some (.slice f d g)/\qO (qxA K) (qi.mk 56 [(29,(Value.int .i64 0)),(3,(Value.pointer (some b))),(0,(Value.pointer a)),(2,(Value.pointer (some c))),(28,(Value.int .i64 ((d:Nat):Int)))] []) w)):=kr
theorem qou:qry a b w K=(qh a (fun i=>qh a (fun j=>qh a (fun k=>∃ c:Option Nat,w.drew.cell? (i.add 3)=some (.map c)/\∃ d:Int,(∀ wq,vA w.drew wq->(Builtin.len_ #[105] 3 #[(Value.map c)]).run P wq=.ok (.int .i64 d) wq)/\∃ e:Int,w.drew.cell? (j.add 9)=some (.int .i64 e)/\∃ f:Int,w.drew.cell? (k.add 10)=some (.int .i64 f)/\∃ g:Array Value,(∀ wq,(Instr.build 47 #[(0,(Value.int .i64 d)),(3,(Value.int .i64 e)),(4,(Value.int .i64 f))]).run P wq=.ok (.agg g) wq)/\qu (qx P 47) 47 w.drew (fun h l=>zW 5 (Addr.mk h 0 none) g l (fun m=>qtY (Addr.mk h 0 none) a b m K)))))):=kr
theorem qHF:f23 a w K=(qu (qx P 47) 47 w (fun b g=>q9 P 53 [(Value.pointer a)] g (fun h c=>∃ d:Bool,h=(.bool d)/\qo d (∃ e:Array Value,(∀ wq,(Instr.build 47 #[]).run P wq=.ok (.agg e) wq)/\zW 5 (Addr.mk b 0 none) e c (fun f=>qS 5 (Addr.mk b 0 none) f (fun i=>K (Value.agg i) f))) (qry a (Addr.mk b 0 none) c K)))):=kr
theorem qI4 a w K(h:f23 a w K):q9 P 23 [(Value.pointer a)] w K:=qA c23 Tryz.func23 h
def c27:=ql Tryz.f27
def qLi:=Tryz.f27.results.toList
abbrev qt1 K:=qr P qLi K
def f27 a w K:=CS P c27 none [2] [2] (qt1 K) (qz 11 [(VP a)]) w
def qs6 a w K:=SG c27 7 [2] [2] (qt1 K) 11 [(0,VP a)] w
theorem qoF:qs6 a w K=(qh a (fun g=>∃ b:Option Nat,w.cell? (g.add 3)=some (.map b)/\q9 P 71 [(Value.map b)] w (fun h i=>∃ c:Value,h=c/\q9 P 70 [c] i (fun j k=>∃ (d:OA) (e f:Nat),j=(.slice d e f)/\K (Value.slice d e f) k)))):=kr
theorem qHU:f27 a w K=(q9 P 53 [(Value.pointer a)] w (fun d b=>∃ c:Bool,d=(.bool c)/\qo c (K (Value.slice none 0 0) b) (qs6 a b K))):=kr
theorem qGu a w K(h:f27 a w K):q9 P 27 [(Value.pointer a)] w K:=qA c27 Tryz.func27 h
end Go.Fx.Tryz
namespace Go.Fx.Ch
def EX.zero:EX:=⟨0,0,0,0,0⟩
def zA(s:qd)(id slot:Int):EX × Int:=match lk s.items id with
 | none=>(EX.zero,211)
 | some _=>match(qB s.items id).find? fun e=>e.slot==slot with
  | none=>(EX.zero,1)
  | some x=>(x,0)
end Go.Fx.Ch
namespace Go.Fx.Tryz
open Go Go.Fx Go.Fx.Ch
open Go.Proofs
set_option linter.all false
set_option maxRecDepth 20000
variable {w0 w:World} {H G:qE} {K:KT} {s:qd} {L:qQ} {q:LB}
theorem q6P(hL:L.Ok w0 q s){c:Nat}(hc:c<s.rows.length):∃ sa sc,(L.rv.map (·.1))[c]?=some (.slice sa s.rows[c].length sc)/\∀ w',St w0 w' (L.bl q s++H)->vo w' 1 (.slice sa s.rows[c].length sc) s.rows[c].length (s.rows[c].map U):=by
 obtain⟨a,v,b,e0,hal,hv,hset⟩:=hL.rows.split (List.getElem?_eq_getElem hc)
 obtain⟨sa,sc,hsv⟩:=hv.form
 refine⟨sa,sc,?_,fun w' h'=>?_⟩
 ·rw[e0,List.map_append,List.getElem?_append_right (by simp;omega)]
  simp[hal,hsv]
 ·rw[<-hsv]
  refine hv.row fun u hu=>h'.has _ _ (List.mem_append_left _ (.tail _ (.tail _ (.tail _ (.tail _ (.tail _ (List.mem_append_left _ ?_)))))))
  rw[e0]
  simp only[List.map_append,List.map_cons,List.flatten_append,List.flatten_cons,List.mem_append]
  exact .inr (.inl hu)
def qR(items:List (Int × TR))(l:List Int):Int:=(l.map fun id=>((qj items id).code.length:Int)).sum
theorem yQ{items:List (Int × TR)}(h:∀ id,(qj items id).code.length<1000000):∀ l:List Int,0<=qR items l/\qR items l<=l.length*1000000
 | []=>by simp[qR]
 | x::l=>by
  obtain⟨h1,h2⟩:=yQ h l
  have:=h x
  unfold qR at *
  simp only[List.map_cons,List.sum_cons,List.length_cons]
  omega
theorem qQ.Ok.codeLen(hL:L.Ok w0 q s)(h:St w0 w (L.bl q s++H))(id:Int):(qj s.items id).code.length<1000000:=by
 obtain⟨v,hv,_⟩:=hL.its.look (w:=w) (h.get (k:=2) rfl) id
 obtain⟨⟨sv,cv,_,_,hB⟩,_,_⟩:=hv
 exact hB.len
theorem q3X(h:St w0 w (L.bl q s++H))(hL:L.Ok w0 q s){c:Nat}(hc:c<s.rows.length)(hr:s.rows[c].length<1000000000)
  (hK:∀ w',St w0 w' (L.bl q s++H)->K (J (zt s c)) w'):q9 P 58 [.pointer (some ⟨q.cb,0,none⟩),J c] w K:=by
 refine qHx _ _ _ _ ?_
 rw[qEj]
 obtain⟨sa,sc,hrv,hrow⟩:=q6P (H:=H) hL hc
 refine⟨some ⟨q.rb,0,none⟩,s.rows.length,s.rows.length,by rw[qa];exact h.cell (k:=1) rfl,by omega,by omega,sa,s.rows[c].length,sc,?_,?_⟩
 ·rw[qa,Int.toNat_natCast,Nat.mul_one,Nat.zero_add]
  rw[h.cell (k:=4) rfl];exact hrv
 have hfs:zt s c=qR s.items s.rows[c]:=by unfold zt qR;rw[List.getElem?_eq_getElem hc];rfl
 rw[hfs]at hK
 generalize s.rows[c]=r at *
 have hcode:=hL.codeLen h
 refine⟨fun m e' w'=>∃ j:Nat,j<=r.length/\m=r.length-j/\e'=qi.mk 32 [(16,J j),(0,.pointer (some ⟨q.cb,0,none⟩)),(5,J (qR s.items (r.take j))),(14,.slice sa r.length sc),(4,J 0),(15,J r.length)] []/\St w0 w' (L.bl q s++H),⟨_,0,by omega,rfl,rfl,h⟩,?_⟩
 rintro m e' w' ⟨j,hj,rfl,rfl,hs⟩
 show qkE ..
 rw[qec,qg]
 refine⟨fun hlt=>?_,fun hge=>?_⟩
 ·have hlt:j<r.length:=by have:=of_decide_eq_true hlt;omega
  rw[qqQ]
  obtain⟨ad,cp,hac,_⟩:=(hrow w' hs).ldA hlt
  injection hac with hac _ _
  subst hac
  obtain⟨v,hv,hlk,_⟩:=hL.its.look (w:=w') (hs.get (k:=2) rfl) r[j]
  obtain⟨⟨sv,cv,rfl,hS,hB⟩,_,_⟩:=hv
  obtain⟨ca,cc,rfl⟩:=((hB.bytes (w0:=w0) (H:=L.bl q s++H) fun u hu=>List.mem_append_left _ (L.G_mem q s u hu)).row w' hs).form
  refine⟨by omega,by omega,r[j],by rw[Int.toNat_natCast];exact j7 (hrow w' hs) hlt,some q.ib,by rw[qa];exact hs.cell (k:=1) rfl,_,hlk,ca,(qj s.items r[j]).code.length,cc,rfl,?_⟩
  rw[qpt]
  have hb:=yQ hcode (r.take j)
  have hb2:=yQ hcode (r.take (j+1))
  have hst:qR s.items (r.take (j+1))=qR s.items (r.take j)+((qj s.items r[j]).code.length:Nat):=by
   rw[zx r hlt]
   unfold qR
   rw[List.map_append,List.sum_append]
   show _+(_+0)=_
   rw[Int.add_zero]
  have hl1:(r.take j).length<=r.length:=by rw[List.length_take];omega
  have hl2:(r.take (j+1)).length<=r.length:=by rw[List.length_take];omega
  refine⟨r.length-(j+1),by omega,j+1,by omega,rfl,?_,hs⟩
  rw[hst,qc (x:=(j:Int)+1) om om,qc om om];rfl
 ·have:j=r.length:=by have:=of_decide_eq_false hge;omega
  subst this
  rw[List.take_length,qpP]
  exact hK w' hs
theorem QQ(h:St w0 w (L.bl q s++H))(hK:K (.bool false) w):q9 P 53 [.pointer (some ⟨q.cb,0,none⟩)] w K:=by
 refine qD5 (slots:=((2 ^ s.k:Nat):Int)) (fun b hb=>by cases hb;rw[qa];exact h.cell (k:=1) rfl) ?_
 have:(((2 ^ s.k:Nat):Int)==0)=false:=by
  have:0<2 ^ s.k:=Nat.pow_pos (by decide)
  generalize 2 ^ s.k=x at *
  simp;omega
 rw[this];exact hK
theorem q0C(h:St w0 w (L.bl q s++H))(hL:L.Ok w0 q s)(hg:zD H){at_:Int}(h0:0<=at_)(h1:at_<4294967296)
  (hK:∀ w',St w0 w' (L.bl q s++H)->K (.tuple [U (zO s at_).1,.bool ((zO s at_).1 != 0)].toArray) w'):q9 P 21 [.pointer (some ⟨q.cb,0,none⟩),U at_] w K:=by
 refine qHp _ _ _ _ ?_
 rw[qI5]
 refine QQ h ⟨_,rfl,?_⟩
 simp only[qb]
 rw[qpq]
 exact qyh h (hL.known hg) (fun u hu=>List.mem_append_left _ (L.G_mem q s u hu)) h0 h1 fun w' h'=>⟨_,_,rfl,hK w' h'⟩
theorem qyS(wq:World):(Instr.build 41 ([]:List (Nat × Value)).toArray).run P wq=.ok (.agg #[U 0,.slice none 0 0,.slice none 0 0]) wq:=kr
theorem qiy(wq:World):(Instr.build 62 ([]:List (Nat × Value)).toArray).run P wq=.ok (.agg #[J 0,J 0,U 0,J 0,U 0]) wq:=kr
theorem qFw(h:St w0 w (L.bl q s++H))(hL:L.Ok w0 q s){id:Int}
  (hN:lk s.items id=none->∀ w',St w0 w' (L.bl q s++H)->K (.tuple [.agg #[U 0,.slice none 0 0,.slice none 0 0],J 211].toArray) w')
  (hK:∀ t,lk s.items id=some t->∀ w' sv' cv' L1 M,zu 2 36 sv' t.sp.length (t.sp.map QK).flatten L1->qF w0 L1->zu 1 5 cv' t.code.length (t.code.map B) M->qF w0 M->St w0 w' (M++(L1++(L.bl q s++H)))->K (.tuple [.agg (yc t.at_ sv' cv').toArray,J 0].toArray) w') :
  q9 P 28 [.pointer (some ⟨q.cb,0,none⟩),U id] w K:=by
 refine qH0 _ _ _ _ ?_
 rw[qGK,Q5]
 refine h.newC fun n2 w3 hn2 h3=>?_
 have h3':St w0 w3 (L.bl q s++((n2,Cs [U 0,.slice none 0 0,.slice none 0 0] 41)::H)):=h3.perm (qm fun c=>by simp only[List.map_append,List.map_cons,List.sum_append,List.sum_cons];omega)
 refine QQ h3' ⟨_,rfl,?_⟩
 simp only[qb]
 rw[qpR]
 obtain⟨v,hv,_,hlk⟩:=hL.its.look (w:=w3) (h3'.get (k:=2) rfl) id
 obtain⟨⟨sv,cv,rfl,hS,hB⟩,_,_⟩:=hv
 have h4:St w0 w3 ((n2,Cs [U 0,.slice none 0 0,.slice none 0 0] 41)::(L.bl q s++H)):=h3
 obtain⟨sa,sc,e1⟩:=((hS.spans (w0:=w0) (H:=L.bl q s++H) fun u hu=>List.mem_append_left _ (L.G_mem q s u hu)).row w h).form
 obtain⟨ca,cc,e2⟩:=((hB.bytes (w0:=w0) (H:=L.bl q s++H) fun u hu=>List.mem_append_left _ (L.G_mem q s u hu)).row w h).form
 subst e1;subst e2
 refine⟨some q.ib,by rw[qa];exact h4.cell (k:=2) rfl,_,_,hlk,?_⟩
 rw[Q5]
 refine h4.newC fun n17 w18 hn17 h18=>h18.stA (k:=0) rfl rfl (by simp) (by simp[yc,Value.oneCell']) fun w19 h19=>?_
 have h19:St w0 w19 ((n17,Cs (yc (qj s.items id).at_ (.slice sa (qj s.items id).sp.length sc) (.slice ca (qj s.items id).code.length cc)) 41)::(n2,Cs [U 0,.slice none 0 0,.slice none 0 0] 41)::(L.bl q s++H)):=h19
 cases hi:lk s.items id with
 | none=>
  simp only[Option.isSome_none,Bool.not_false,qe]
  refine⟨_,qyS,h19.stA (k:=1) rfl rfl (by simp) (by simp[Value.oneCell']) fun w21 h21=>h21.ldA (k:=1) rfl (by simp[zw]) ?_⟩
  exact hN hi w21 ((h21.tail hn17).tail hn2)
 | some t=>
  simp only[Option.isSome_some,Bool.not_true,qb]
  rw[qps]
  have hio:qj s.items id=t:=by unfold qj;rw[hi];rfl
  rw[hio]at h19 hS hB
  refine h19.ldA (k:=0) rfl (by simp[yc]) ?_
  have up:∀ u∈L.G,u∈((n17,Cs (yc t.at_ (.slice sa t.sp.length sc) (.slice ca t.code.length cc)) 41)::(n2,Cs [U 0,.slice none 0 0,.slice none 0 0] 41)::(L.bl q s++H)):=fun u hu=>.tail _ (.tail _ (List.mem_append_left _ (L.G_mem q s u hu)))
  refine Jy h19 (hS.spans up) (hB.bytes up) fun w27 sv' cv' L1 M h1 h2 h3 h4 h27=>⟨_,rfl,?_⟩
  obtain⟨sa',sc',e1⟩:=h1.form
  obtain⟨ca',cc',e2⟩:=h3.form
  subst e1;subst e2
  have h28:St w0 w27 ((n17,Cs (yc t.at_ (.slice sa t.sp.length sc) (.slice ca t.code.length cc)) 41)::(n2,Cs [U 0,.slice none 0 0,.slice none 0 0] 41)::(M++(L1++(L.bl q s++H)))):=h27.perm (qm fun c=>by simp only[List.map_append,List.map_cons,List.sum_append,List.sum_cons];omega)
  refine h28.stA (k:=1) rfl rfl (by simp) (by simp[yc,Value.oneCell']) fun w29 h29=>h29.ldA (k:=1) rfl (by simp[zw]) ?_
  exact hK t hi w29 _ _ L1 M h1 h2 h3 h4 ((h29.tail hn17).tail hn2)
theorem qpH{l:List EX}{p:EX->Bool}:(q1q p l<0/\l.find? p=none)\/∃ (i:Nat) (hi:i<l.length),q1q p l=i/\l.find? p=some l[i]:=by
 unfold q1q
 cases h:l.findIdx? p with
 | none=>
  refine .inl ⟨by decide,?_⟩
  exact List.find?_eq_none.2 fun x hx=>by simpa using List.findIdx?_eq_none_iff.1 h x hx
 | some i=>
  obtain⟨hi,hp,hb⟩:=List.findIdx?_eq_some_iff_getElem.1 h
  refine .inr ⟨i,hi,rfl,?_⟩
  rw[List.find?_eq_some_iff_getElem]
  exact⟨hp,i,hi,rfl,fun j hj=>by simpa using hb j hj⟩
theorem qjq(h:St w0 w (L.bl q s++H))(hL:L.Ok w0 q s)(hg:zD H){id slot:Int}
  (hK:∀ w',St w0 w' (L.bl q s++H)->K (.tuple [.agg (Xc (zA s id slot).1).toArray,J (zA s id slot).2].toArray) w'):q9 P 78 [.pointer (some ⟨q.cb,0,none⟩),U id,J slot] w K:=by
 refine qFx _ _ _ _ _ ?_
 rw[qFE,VA]
 refine h.newC fun n3 w4 hn3 h4=>h4.newC fun n5 w6 hn5 h6=>?_
 have h6:St w0 w6 ((n5,Cs (Xc EX.zero) 62)::(n3,Cs [J slot] 3)::(L.bl q s++H)):=h6
 have h6':St w0 w6 (L.bl q s++((n5,Cs (Xc EX.zero) 62)::(n3,Cs [J slot] 3)::H)):=h6.perm (qm fun c=>by simp only[List.map_append,List.map_cons,List.sum_append,List.sum_cons];omega)
 refine QQ h6' ⟨_,rfl,?_⟩
 simp only[qb]
 rw[qp6]
 obtain⟨v,hv,_,hlk⟩:=hL.its.look (w:=w6) (h6'.get (k:=2) rfl) id
 obtain⟨⟨sv,cv,rfl,hS,hB⟩,_,_⟩:=hv
 obtain⟨sa,sc,e1⟩:=((hS.spans (w0:=w0) (H:=L.bl q s++H) fun u hu=>List.mem_append_left _ (L.G_mem q s u hu)).row w h).form
 obtain⟨ca,cc,e2⟩:=((hB.bytes (w0:=w0) (H:=L.bl q s++H) fun u hu=>List.mem_append_left _ (L.G_mem q s u hu)).row w h).form
 subst e1;subst e2
 refine⟨some q.ib,by rw[qa];exact h6.cell (k:=3) rfl,_,_,hlk,?_⟩
 rw[Q5]
 refine h6.newC fun n21 w22 hn21 h22=>h22.stA (k:=0) rfl rfl (by simp) (by simp[yc,Value.oneCell']) fun w23 h23=>?_
 have h23:=h23.tail hn21
 have h23:St w0 w23 ((n5,Cs (Xc EX.zero) 62)::(n3,Cs [J slot] 3)::(L.bl q s++H)):=h23
 have out:∀ {w2:World} {x:EX} {e:Int} {vs:Array Value},vs=(Xc x).toArray->St w0 w2 ((n5,Cs (Xc EX.zero) 62)::(n3,Cs [J slot] 3)::(L.bl q s++H))->zA s id slot=(x,e)->
   zW 5 (Addr.mk n5 0 none) vs w2 (fun w25=>qS 5 (Addr.mk n5 0 none) w25 (fun cs26=>K (.tuple [.agg cs26,J e].toArray) w25)):=fun {w2 x e vs} hv hs he=>by
  subst hv
  refine hs.stA (k:=0) rfl rfl (by simp[Xc]) (by simp[Xc,Value.oneCell']) fun w25 h25=>h25.ldA (k:=0) rfl (by simp[zw,Xc]) ?_
  rw[he]at hK
  exact hK w25 ((h25.tail hn5).tail hn3)
 cases hi:lk s.items id with
 | none=>
  simp only[Option.isSome_none,Bool.not_false,qe]
  exact⟨_,qiy,out (x:=EX.zero) rfl h23 (by unfold zA;rw[hi])⟩
 | some t=>
  simp only[Option.isSome_some,Bool.not_true,qb]
  rw[qqX]
  have hg2:zD ((n5,Cs (Xc EX.zero) 62)::(n3,Cs [J slot] 3)::H):=hg.mono fun u hu=>.tail _ (.tail _ hu)
  have h24:St w0 w23 (L.bl q s++((n5,Cs (Xc EX.zero) 62)::(n3,Cs [J slot] 3)::H)):=h23.perm (qm fun c=>by simp only[List.map_append,List.map_cons,List.sum_append,List.sum_cons];omega)
  refine q03 h24 hL hg2 id fun w32 a c N hb h32 hN hSl=>⟨_,_,_,rfl,?_⟩
  have hmem:(n3,Cs [J slot] 3)∈N++(L.bl q s++((n5,Cs (Xc EX.zero) 62)::(n3,Cs [J slot] 3)::H)):=List.mem_append_right _ (List.mem_append_right _ (.tail _ (.head _)))
  refine JS (l:=qB s.items id) h32 (fun w' h'=>hSl.row fun u hu=>h'.has _ _ (List.mem_append_left _ hu)) om (qC4 (t:=3) hmem) fun w35 h35=>⟨_,rfl,?_⟩
  have h36:St w0 w35 (N++((n5,Cs (Xc EX.zero) 62)::(n3,Cs [J slot] 3)::(L.bl q s++H))):=h35.perm (qm fun c=>by simp only[List.map_append,List.map_cons,List.sum_append,List.sum_cons];omega)
  have h37:=h36.sub hN
  rcases qpH (l:=qB s.items id) (p:=fun e=>e.slot==slot)with⟨hlt,hf⟩ | ⟨j,hj,hidx,hf⟩
  ·rw[decide_eq_true hlt]
   simp only[qe]
   exact⟨_,qiy,out (x:=EX.zero) rfl h37 (by unfold zA;rw[hi];simp only[hf])⟩
  ·rw[hidx,show decide (((j:Nat):Int)<0)=false from decide_eq_false om]
   simp only[qb]
   rw[qqa]
   obtain⟨ad,cp,hac,hld⟩:=(hSl.row (w:=w35) fun u hu=>h35.has _ _ (List.mem_append_left _ hu)).ldA hj
   injection hac with hac _ _
   subst hac
   refine⟨by omega,by omega,?_⟩
   rw[Int.toNat_natCast]
   refine hld _ ?_
   rw[yY Xc 5 qfH _ hj]
   exact out (x:=(qB s.items id)[j]) rfl h37 (by unfold zA;rw[hi];simp only[hf])
end Go.Fx.Tryz
namespace Go.Fx.Ch
set_option linter.all false
abbrev jq(x:Int):Prop:=0<=x/\x<4294967296
theorem YS:jq 0:=⟨by decide,by decide⟩
def qq9(bs:List Int):Prop:=∀ b∈bs,0<=b/\b<256
theorem qq9.drop{bs:List Int}(h:qq9 bs)(n:Nat):qq9 (bs.drop n):=fun b hb=>h b (List.mem_of_mem_drop hb)
theorem qIO{bs:List Int}(h:qq9 bs)(s:Rd):jq (rd bs s 4).1:=by
 unfold rd
 split
 ·exact YS
 ·have hl:=Tryz.q3l ((bs.drop s.1).take 4) fun b hb=>h b (List.mem_of_mem_drop (List.mem_of_mem_take hb))
  have h4:((bs.drop s.1).take 4).length<=4:=by rw[List.length_take];omega
  have:(256:Int) ^ ((bs.drop s.1).take 4).length<=256 ^ 4:=by
   generalize ((bs.drop s.1).take 4).length=m at h4
   match m,h4 with
   | 0,_ | 1,_ | 2,_ | 3,_ | 4,_=>decide
  exact⟨hl.1,by have:(256:Int) ^ 4=4294967296:=by decide
                omega⟩
theorem qli(x:HI)(i:Nat)(v:Int):(q3T x i v).i=x.i/\(q3T x i v).chain=x.chain:=by unfold q3T;split<;>exact⟨rfl,rfl⟩
theorem q6E{fs:Nat}{bs:List Int}{s:HI × Rd}:∀ i,(decI fs bs i s).1.i=s.1.i/\(decI fs bs i s).1.chain=s.1.chain
 | 0=>⟨rfl,rfl⟩
 | i+1=>by
  have ih:=q6E (fs:=fs) (bs:=bs) (s:=s) i
  show(decS fs bs i (decI fs bs i s)).1.i=_/\(decS fs bs i (decI fs bs i s)).1.chain=_
  unfold decS
  split
  ·exact⟨(qli _ _ _).1.trans ih.1,(qli _ _ _).2.trans ih.2⟩
  ·exact ih
theorem qkr(x:HI)(i:Nat)(v:Int):(q1U x i v).i=x.i/\(q1U x i v).chain=x.chain:=by unfold q1U;split<;>exact⟨rfl,rfl⟩
theorem qak{bs:List Int}{s:HI × Rd}:∀ i,(decV1 bs i s).1.i=s.1.i/\(decV1 bs i s).1.chain=s.1.chain
 | 0=>⟨rfl,rfl⟩
 | i+1=>by
  have ih:=qak (bs:=bs) (s:=s) i
  exact⟨(qkr _ _ _).1.trans ih.1,(qkr _ _ _).2.trans ih.2⟩
theorem qo6{fs:Nat}{bs:List Int}{s:HI × Rd}:(decV fs bs s).1.i=s.1.i/\(decV fs bs s).1.chain=s.1.chain:=by
 unfold decV;split
 ·exact qak _
 ·exact⟨rfl,rfl⟩
theorem qvN{bs:List Int}(hb:qq9 bs){x:HI}{n:Nat}(h:decode bs=some (x,n)):jq x.i/\jq x.chain:=by
 unfold decode at h
 dsimp only at h
 split at h
 ·cases h
 ·split at h
  ·cases h
  ·simp only[Option.some.injEq,Prod.mk.injEq]at h
   obtain⟨rfl,rfl⟩:=h
   rw[qo6.1,qo6.2]
   have h0:∀ (o:Int) (s:Rd),jq (decI (zg o).1 bs 8 ({ op:=o },s)).1.i/\jq (decI (zg o).1 bs 8 ({ op:=o },s)).1.chain:=fun o s=>by
    rw[(q6E 8).1,(q6E 8).2]
    exact⟨YS,YS⟩
   generalize hy:decI (zg (rd bs (0,false) 1).1).1 bs 8 ({ op:=(rd bs (0,false) 1).1 },(rd bs (0,false) 1).2)=y
   have hy0:=h0 (rd bs (0,false) 1).1 (rd bs (0,false) 1).2
   rw[hy]at hy0
   have ha:jq (decA (zg (rd bs (0,false) 1).1).1 bs y).1.i/\jq (decA (zg (rd bs (0,false) 1).1).1 bs y).1.chain:=by
    unfold decA;split
    ·exact⟨qIO hb _,hy0.2⟩
    ·exact hy0
   generalize decA (zg (rd bs (0,false) 1).1).1 bs y=z at ha
   unfold decC;split
   ·exact⟨ha.1,qIO hb _⟩
   ·exact ha
theorem qsc{bs:List Int}{l:List (HI × Nat)}(ha:jl bs=some l):Run bs 0 l:=by
 unfold jl at ha
 split at ha
 ·cases ha
 ·obtain⟨r,hr,hh⟩:=q3i _ _ _ _ ha (Nat.zero_le _)
  simp at hr;subst hr;exact hh
theorem q2I{bs:List Int}{l:List EX}(h:zd bs=some l){e:EX}(he:e∈l):∃ (al:List (HI × Nat)) (i:Nat) (p:HI × Nat) (n:Nat),jl bs=some al/\al[i]?=some p/\(p.1.op=39\/p.1.op=40)/\
  decode (bs.drop p.2)=some (p.1,n)/\p.2+n<=bs.length/\e=⟨p.2,((p.2+n:Nat):Int)-4,p.1.i,p.1.k,p.1.chain⟩:=by
 unfold zd at h
 cases ha:jl bs with
 | none=>rw[ha]at h;cases h
 | some al=>
  rw[ha]at h
  simp only[Option.map_some,Option.some.injEq]at h
  subst h
  unfold JB at he
  obtain⟨i,_,hi⟩:=List.mem_filterMap.1 he
  unfold vd at hi
  split at hi
  ·cases hi
  ·rename_i p hp
   split at hi
   ·cases hi
   ·rename_i hop
    simp only[Option.some.injEq]at hi
    subst hi
    obtain⟨n,e1,e2,e3⟩:=(qsc ha).at hp
    exact⟨al,i,p,n,rfl,hp,by simp at hop;omega,e1,e3,by rw[e2]⟩
theorem qBa{bs:List Int}(hb:qq9 bs){l:List EX}(h:zd bs=some l){e:EX}(he:e∈l):jq e.to/\jq e.chain:=by
 obtain⟨al,i,p,n,_,_,_,hd,_,rfl⟩:=q2I h he
 exact qvN (hb.drop _) hd
end Go.Fx.Ch
namespace Go.Fx.Ch
open Go.Fx.Tryz
def zG(s:qd)(id slot:Int):qd × Bool × Int:=if(zA s id slot).2≠0 then(s,false,(zA s id slot).2)
 else if((zO s (zA s id slot).1.to).1=0\/vE (zA s id slot).1=false)then(s,false,0)
 else({ s with items:=ze s.items (id,slot) (zO s (zA s id slot).1.to).1,hold:=q06 s.hold (id,slot) (zO s (zA s id slot).1.to).1 },true,0)
def zo(s:qd)(id slot:Int):qd × Int:=if(zA s id slot).2≠0 then(s,(zA s id slot).2)
 else({ s with items:=ze s.items (id,slot) 0,hold:=qZ s.hold (id,slot) (zA s id slot).1.chain },0)
theorem qrH{t:List Int}(h:∀ x∈t,jq x)(i:Nat):jq (qn t i):=by
 unfold qn
 cases hi:t[i]? with
 | none=>exact YS
 | some x=>exact h x (List.mem_of_getElem? hi)
theorem qaf{items:List (Int × TR)}{t:List Int}(h:∀ x∈t,jq x){k:Nat}{at_:Int}{frm:Nat}:∀ f n,jq (vG items t k at_ frm f n).1
 | 0,_=>YS
 | f+1,n=>by
  unfold vG
  split
  ·exact YS
  ·split
   ·exact qrH h _
   ·exact qaf h f (n+1)
end Go.Fx.Ch
namespace Go.Fx.Tryz
open Go Go.Fx Go.Fx.Ch
open Go.Proofs
set_option linter.all false
set_option maxRecDepth 20000
variable {w0 w:World} {H G:qE} {K:KT} {s:qd} {L:qQ} {q:LB}
theorem qQ.Ok.exitW(hL:L.Ok w0 q s)(h:St w0 w (L.bl q s++H)){id slot:Int}(he:(zA s id slot).2=0):jq (zA s id slot).1.to/\jq (zA s id slot).1.chain/\(zA s id slot).1∈qB s.items id/\(zA s id slot).1.slot=slot:=by
 obtain⟨v,hv,_⟩:=hL.its.look (w:=w) (h.get (k:=2) rfl) id
 obtain⟨⟨sv,cv,_,_,hB⟩,_,_⟩:=hv
 have hmem:(zA s id slot).1∈qB s.items id/\(zA s id slot).1.slot=slot:=by
  unfold zA at he ⊢
  split at he
  ·cases he
  ·split at he
   ·cases he
   ·rename_i x hx
    exact⟨List.mem_of_find?_eq_some hx,by simpa using List.find?_some hx⟩
 refine⟨?_,?_,hmem⟩
 all_goals
  have hm:=hmem.1
  unfold qB at hm
  cases hx:zd (qj s.items id).code with
  | none=>rw[hx]at hm;simp at hm
  | some l=>
   rw[hx]at hm
   have:=qBa hB.byte hx hm
   first | exact this.1 | exact this.2
theorem Vj(a b:Int)(wq:World):(Instr.build 142 [(0,U a),(1,J b)].toArray).run P wq=.ok (vJ (a,b)) wq:=kr
theorem Vc(h:St w0 w (L.bl q s++H))(hL:L.Ok w0 q s)(hg:zD H)(ht:∀ x∈s.table,jq x){id slot:Int}
  (hK:∀ (w':World) (L':qQ),L'.Ok w0 q (zG s id slot).1->St w0 w' (L'.bl q (zG s id slot).1++H)->K (.tuple [.bool (zG s id slot).2.1,J (zG s id slot).2.2].toArray) w'):q9 P 41 [.pointer (some ⟨q.cb,0,none⟩),U id,J slot] w K:=by
 refine qHL _ _ _ _ _ ?_
 rw[qF8,VA]
 refine qjq h hL hg fun w4 h4=>⟨_,_,rfl,h4.newC fun n7 w8 hn7 h8=>h8.stA (k:=0) rfl rfl (by simp) (by simp[Xc,Value.oneCell']) fun w9 h9=>?_⟩
 have h9:St w0 w9 ((n7,Cs (Xc (zA s id slot).1) 62)::(L.bl q s++H)):=h9
 have hW:=hL.exitW h (id:=id) (slot:=slot)
 unfold zG at hK
 generalize zA s id slot=xe at *
 obtain⟨x,e⟩:=xe
 simp only at hK h9 hW
 rw[qg]
 refine⟨fun he=>?_,fun he=>?_⟩
 ·have he:e≠0:=by simpa using he
  rw[if_pos he]at hK
  exact hK w9 L hL (h9.tail hn7)
 have he:e=0:=by simpa using he
 rw[if_neg (by simp[he])]at hK
 obtain⟨hto,_,_,_⟩:=hW he
 rw[qqH]
 refine⟨x.to,by rw[qa];exact h9.cell (k:=0) rfl,?_⟩
 have hg2:zD ((n7,Cs (Xc x) 62)::H):=hg.mono fun u hu=>.tail _ hu
 have back:∀ {w2:World} {L2:qQ} {s2:qd},St w0 w2 (L2.bl q s2++((n7,Cs (Xc x) 62)::H))->St w0 w2 (L2.bl q s2++H):=fun {w2 L2 s2} h2=>by
  have h3:St w0 w2 ((n7,Cs (Xc x) 62)::(L2.bl q s2++H)):=h2.perm (qm fun c=>by simp only[List.map_append,List.map_cons,List.sum_append,List.sum_cons];omega)
  exact h3.tail hn7
 have h10:St w0 w9 (L.bl q s++((n7,Cs (Xc x) 62)::H)):=h9.perm (qm fun c=>by simp only[List.map_append,List.map_cons,List.sum_append,List.sum_cons];omega)
 refine q0C h10 hL hg2 hto.1 hto.2 fun w16 h16=>⟨_,_,rfl,?_⟩
 have hlW:jq (zO s x.to).1:=qaf ht _ _
 generalize (zO s x.to).1=to at *
 have no:(to=0\/vE x=false)->∀ w2,St w0 w2 (L.bl q s++((n7,Cs (Xc x) 62)::H))->q6q true to slot id (some ⟨q.cb,0,none⟩) w2 K:=fun hc w2 h2=>by
  rw[q4f,qe]
  rw[if_pos hc]at hK
  exact hK w2 L hL (back h2)
 rw[qg]
 refine⟨fun hz=>?_,fun hz=>?_⟩
 ·exact no (.inl (by simpa using hz)) w16 h16
 have hz:to≠0:=by simpa using hz
 have h17:St w0 w16 ((n7,Cs (Xc x) 62)::(L.bl q s++H)):=h16.perm (qm fun c=>by simp only[List.map_append,List.map_cons,List.sum_append,List.sum_cons];omega)
 refine h17.ldA (k:=0) rfl (by simp[Xc]) ?_
 refine qgg (e:=x) h16 fun w36 h36=>⟨_,rfl,?_⟩
 cases hch:vE x with
 | false=>exact no (.inr hch) w36 h36
 | true=>
  rw[q4f]
  simp only[Bool.not_true,qb]
  rw[qqv,if_neg (by simp[hz,hch])]at *
  refine⟨_,Vj id slot,?_⟩
  refine YE h36 hL hg2 hlW.1 hlW.2 fun w30 L1 hL1 h30=>⟨rfl,_,Vj id slot,?_⟩
  refine qBZ h30 hL1 fun w33 L2 hL2 h33=>⟨rfl,?_⟩
  exact hK w33 L2 hL2 (back h33)
theorem qil(h:St w0 w (L.bl q s++H))(hL:L.Ok w0 q s)(hg:zD H){id slot:Int}
  (hK:∀ (w':World) (L':qQ),L'.Ok w0 q (zo s id slot).1->St w0 w' (L'.bl q (zo s id slot).1++H)->K (J (zo s id slot).2) w'):q9 P 42 [.pointer (some ⟨q.cb,0,none⟩),U id,J slot] w K:=by
 refine qHu _ _ _ _ _ ?_
 rw[qIb,VA]
 refine qjq h hL hg fun w4 h4=>⟨_,_,rfl,h4.newC fun n7 w8 hn7 h8=>h8.stA (k:=0) rfl rfl (by simp) (by simp[Xc,Value.oneCell']) fun w9 h9=>?_⟩
 have h9:St w0 w9 ((n7,Cs (Xc (zA s id slot).1) 62)::(L.bl q s++H)):=h9
 unfold zo at hK
 generalize zA s id slot=xe at *
 obtain⟨x,e⟩:=xe
 simp only at hK h9
 rw[qg]
 refine⟨fun he=>?_,fun he=>?_⟩
 ·have he:e≠0:=by simpa using he
  rw[if_pos he]at hK
  exact hK w9 L hL (h9.tail hn7)
 have he:e=0:=by simpa using he
 rw[if_neg (by simp[he])]at hK
 rw[qoP]
 have hg2:zD ((n7,Cs (Xc x) 62)::H):=hg.mono fun u hu=>.tail _ hu
 have h10:St w0 w9 (L.bl q s++((n7,Cs (Xc x) 62)::H)):=h9.perm (qm fun c=>by simp only[List.map_append,List.map_cons,List.sum_append,List.sum_cons];omega)
 refine⟨_,Vj id slot,?_⟩
 refine YE h10 hL hg2 (by decide) (by decide) fun w16 L1 hL1 h16=>⟨rfl,_,Vj id slot,x.chain,?_,?_⟩
 ·have hm:(n7,Cs (Xc x) 62)∈(L1.bl q { s with items:=ze s.items (id,slot) 0 }++((n7,Cs (Xc x) 62)::H)):=List.mem_append_right _ (.head _)
  rw[qa,qw (h16.has _ _ hm)];rfl
 refine Ys h16 hL1 fun w20 L2 hL2 h20=>⟨rfl,?_⟩
 have h3:St w0 w20 ((n7,Cs (Xc x) 62)::(L2.bl q { s with items:=ze s.items (id,slot) 0,hold:=qZ s.hold (id,slot) x.chain }++H)):=St.perm (H:=L2.bl q { s with items:=ze s.items (id,slot) 0,hold:=qZ s.hold (id,slot) x.chain }++((n7,Cs (Xc x) 62)::H)) h20 (qm fun c=>by simp only[List.map_append,List.map_cons,List.sum_append,List.sum_cons];omega)
 exact hK w20 L2 hL2 (h3.tail hn7)
theorem q5P:qwr w0:=fun w H N K ov l hl hS hN h hK=>by
 obtain⟨a,c,e⟩:=hS.form
 subst e
 exact q8w h hS hl fun w' N' h1 h2 h3=>hK w' N' h1 (h2 hN) h3
def vq(s:qd):List Int:=zI (s.items.map (·.1))
theorem zS{a b:List Int}(h:a.Perm b):zI a=zI b:=by
 have h1:(zI a).Perm (zI b):=(List.mergeSort_perm a _).trans (h.trans (List.mergeSort_perm b _).symm)
 have hp:∀ l:List Int,(zI l).Pairwise fun x y=>decide (x<=y)=true:=fun l=>List.pairwise_mergeSort (fun x y z hx hy=>by simp at *;omega) (fun x y=>by simp;omega) l
 exact h1.eq_of_pairwise (fun x y _ _ hx hy=>by simp at hx hy;omega) (hp a) (hp b)
theorem yN.keys{R:Value->TR->Prop}:∀ {m:List (Int × Value)} {l:List (Int × TR)},yN R m l->m.map (·.1)=l.map (·.1)
 | [],[],_=>rfl
 | _::_,_::_,h=>by simp[h.1,yN.keys h.2.2]
theorem qAy(h:St w0 w (L.bl q s++H))(hL:L.Ok w0 q s)(hn:s.items.length<1000000)
  (hK:∀ w' ov N,zu 1 24 ov (vq s).length ((vq s).map U) N->qF w0 N->St w0 w' (N++(L.bl q s++H))->K ov w'):q9 P 27 [.pointer (some ⟨q.cb,0,none⟩)] w K:=by
 refine qGu _ _ _ ?_
 rw[qHU]
 refine QQ h ⟨_,rfl,?_⟩
 simp only[qb]
 rw[qoF]
 refine⟨some q.ib,by rw[qa];exact h.cell (k:=1) rfl,?_⟩
 refine qFb _ _ _ ?_
 rw[qGI]
 refine h.newC fun n1 w2 hn1 h2=>⟨_,rfl,?_⟩
 have h2:St w0 w2 ((n1,Cs [.map (some q.ib)] 105)::(L.bl q s++H)):=h2
 refine qHE _ _ _ ?_
 rw[qEe]
 obtain⟨m,hm,hlike⟩:=hL.its
 have hks:∀ e∈L.ies.toList,∃ k:Int,e.key=.int .u32 k:=fun e he=>by
  obtain⟨p,_,hp,_⟩:=hm.pair' he
  exact⟨p.1,hp⟩
 refine qig (mb:=q.ib) (t1:=105) h2 (.head _) (.tail _ (.tail _ (.tail _ (.head _)))) hm.st hks (by rw[hm.size,hlike.length];omega) fun w' a c ks N hp hS hN h3=>⟨_,_,_,rfl,?_⟩
 have hperm:ks.Perm (s.items.map (·.1)):=by
  have h4:(L.ies.toList.map (·.key)).Perm ((m.map (·.1)).map jX):=by
   have:=hm.perm.map (·.1)
   rw[List.map_map,List.map_map]at this
   rw[List.map_map]
   exact this
  have h5:=hp.symm.trans h4
  have:=vt (f:=jX) (fun a b e=>by injection e) h5
  rw[<-yN.keys hlike]
  exact this
 have hle:ks.length=(vq s).length:=by
  rw[hperm.length_eq]
  unfold vq
  rw[yH]
 have hsl:ks.length<1000000:=by rw[hle];unfold vq;rw[yH,List.length_map];omega
 refine q8w h3 hS hsl fun w5 N' h6 h7 h8=>⟨rfl,?_⟩
 have hso:ks.mergeSort (fun x y=>decide (x<=y))=vq s:=zS hperm
 rw[hso,hle]at h6
 have h9:St w0 w5 ((n1,Cs [.map (some q.ib)] 105)::(N'++(L.bl q s++H))):=h8.perm (qm fun c=>by simp only[List.map_append,List.map_cons,List.sum_append,List.sum_cons];omega)
 have:=hK w5 _ N' h6 (h7 hN) (h9.tail hn1)
 rw[hle]
 exact⟨_,_,_,rfl,this⟩
end Go.Fx.Tryz
namespace Go.Fx.Tryz
open Go Go.Fx Go.Fx.Ch
open Go.Proofs
set_option linter.all false
set_option maxRecDepth 20000
variable {w0 w:World} {H X:qE} {K:KT} {s:qd} {L:qQ} {q:LB}
theorem qcj(z:Value)(hz:z.cells=#[z])(n:Nat):madeCells z.cells n=(List.replicate n z).toArray:=by
 apply Array.ext
 ·simp[madeCells]
 ·intro i h1 h2
  simp[madeCells,hz,Nat.mod_one]
theorem qLs{sl:Nat}(hs:sl<=65536){Q:Option Addr->Nat->Nat->World->Prop}(h:St w0 w X)
  (hQ:∀ g w',w0.heap.size<=g->St w0 w' ((g,Cs (List.replicate sl (U 0)) 24)::X)->Q (some ⟨g,0,none⟩) sl sl w') :
  ∃ (a:Option Addr) (l c:Nat),∃ w':World,(Instr.makeSlice 22 (.int .i64 (sl:Nat)) (.int .i64 (sl:Nat))).run P w=.ok (.slice a l c) w'/\Q a l c w':=by
 have hr:=run_make (P:=P) w 22 24 Tryz.t24 (U 0) Tryz.underlying22 kr rfl .i64 .i64 sl sl om om (by show((4:Nat):Int)*_<=_;omega) om
 simp only[Int.toNat_natCast]at hr
 rw[show Tryz.t24.size=1 from rfl,Nat.mul_one,qcj _ rfl]at hr
 exact⟨_,_,_,_,hr,hQ _ _ h.le (h.alloc _)⟩
theorem qJ7{sec:Nat}(hs:sec<=16){Q:Option Addr->Nat->Nat->World->Prop}(h:St w0 w X)
  (hQ:∀ g w',w0.heap.size<=g->St w0 w' ((g,Cs (List.replicate sec (.slice none 0 0)) 22)::X)->Q (some ⟨g,0,none⟩) sec sec w') :
  ∃ (a:Option Addr) (l c:Nat),∃ w':World,(Instr.makeSlice 106 (.int .i64 (sec:Nat)) (.int .i64 (sec:Nat))).run P w=.ok (.slice a l c) w'/\Q a l c w':=by
 have hr:=run_make (P:=P) w 106 22 Tryz.t22 (.slice none 0 0) Tryz.underlying106 kr rfl .i64 .i64 sec sec om om (by show((24:Nat):Int)*_<=_;omega) om
 simp only[Int.toNat_natCast]at hr
 rw[show Tryz.t22.size=1 from rfl,Nat.mul_one,qcj _ rfl]at hr
 exact⟨_,_,_,_,hr,hQ _ _ h.le (h.alloc _)⟩
abbrev vW(sec len sl:Int):List Value:=[J sec,J len,J sl]
theorem qIS{n1:Nat}{sec len sl:Int}(h:St w0 w X)(hm:(n1,Cs (vW sec len sl) 27)∈X):w.cell? (Addr.mk n1 0 none)=some (J sec):=by rw[qw (h.has _ _ hm)];rfl
theorem qIW{n1:Nat}{sec len sl:Int}(h:St w0 w X)(hm:(n1,Cs (vW sec len sl) 27)∈X):w.cell? ((Addr.mk n1 0 none).add 2)=some (J sl):=by rw[qa,qw (h.has _ _ hm)];rfl
theorem qJk{n1:Nat}{sec len sl:Int}(h:St w0 w X)(hm:(n1,Cs (vW sec len sl) 27)∈X):Qv 3 (Addr.mk n1 0 none) #[J sec,J len,J sl] w:=fun i hi=>by
 rw[qa,qw (h.has _ _ hm),Nat.zero_add]
 match i,hi with
 | 0,_ | 1,_ | 2,_=>rfl
theorem qtF(sec len sl:Int)(ib hb rb tb n m:Nat)(wq:World):(Instr.build 109 [(0,(Value.agg #[J sec,J len,J sl])),(1,(Value.map (some ib))),(2,(Value.slice (some (Addr.mk rb 0 none)) n n)),(3,(Value.slice (some (Addr.mk tb 0 none)) m m)),(4,(Value.map (some hb)))].toArray).run P wq =
  .ok (.agg #[J sec,J len,J sl,.map (some ib),.slice (some ⟨rb,0,none⟩) n n,.slice (some ⟨tb,0,none⟩) m m,.map (some hb),J 0,U 0,J 0,J 0]) wq:=kr
theorem jV.empty:∀ n:Nat,jV (List.replicate n []) (List.replicate n (.slice none 0 0,[]))
 | 0=>trivial
 | n+1=>⟨zu.nil 1 24,jV.empty n⟩
theorem Yw{α:Type}:∀ n:Nat,((List.replicate n ((Value.slice none 0 0),([]:List α))).map (·.2)).flatten=[]
 | 0=>rfl
 | n+1=>by rw[List.replicate_succ,List.map_cons,List.flatten_cons,Yw n];rfl
theorem JE{sec k:Nat}{len:Int}(h0:1<=sec)(h16:sec<=16)(hk4:4<=k)(hk16:k<=16)
  (hK:∀ (w':World) (q:LB) (L:qQ),L.Ok w0 q (jf sec len k)->St w0 w' (L.bl q (jf sec len k)++H)->K (.pointer (some ⟨q.cb,0,none⟩)) w')
  {n1 ib hb rb tb:Nat} (h1:w0.heap.size<=n1) (h2:w0.heap.size<=ib) (h3:w0.heap.size<=hb) (h4:w0.heap.size<=rb) (h5:w0.heap.size<=tb) (h:St w0 w X)
  (hp:X.Perm ((n1,Cs (vW sec len (2 ^ k:Nat)) 27)::(tb,Cs (List.replicate (2 ^ k) (U 0)) 24)::(ib,.map #[] 0)::(hb,.map #[] 0)::(rb,Cs (List.replicate sec (.slice none 0 0)) 22)::H)) :
  ∃ cs14:Array Value,(∀ wq,(Instr.build 109 [(0,(Value.agg #[J sec,J len,J (2 ^ k:Nat)])),(1,(Value.map (some ib))),(2,(Value.slice (some (Addr.mk rb 0 none)) sec sec)),(3,(Value.slice (some (Addr.mk tb 0 none)) (2 ^ k) (2 ^ k))),(4,(Value.map (some hb)))].toArray).run P wq=.ok (Value.agg cs14) wq)/\qu cs14 109 w (fun n15 w16=>zC (Addr.mk n15 0 none) w16 K):=by
 refine⟨_,fun wq=>qtF sec len (2 ^ k:Nat) ib hb rb tb sec (2 ^ k) wq,?_⟩
 have h':=(h.perm hp).tail h1
 refine h'.newC fun n15 w16 hn15 h16'=>?_
 rw[qpS]
 refine hK w16 ⟨n15,ib,hb,rb,tb⟩ ⟨#[],0,#[],0,[],List.replicate sec (.slice none 0 0,[]),[]⟩ ⟨hn15,h2,h3,h4,h5,?_,⟨[],MapIs.empty,trivial⟩,MapIs.empty,rfl,by simp,jV.empty sec,hk4,hk16,?_,?_,?_⟩ ?_
 ·unfold qQ.rest;rw[Yw];simp[qF]
 ·simp[jf]
 ·simp[jf];omega
 ·simp[jf];omega
 ·have e:CCs (jf sec len k) ib hb rb tb=[J sec,J len,J (2 ^ k:Nat),.map (some ib),.slice (some ⟨rb,0,none⟩) sec sec,.slice (some ⟨tb,0,none⟩) (2 ^ k) (2 ^ k),.map (some hb),J 0,U 0,J 0,J 0]:=by simp[CCs,jf]
  have e2:((jf sec len k).table.map U)=List.replicate (2 ^ k) (U 0):=by simp[jf]
  unfold qQ.bl qQ.b4 qQ.rest
  dsimp only
  rw[Yw,e,e2,List.map_replicate]
  have h17:St w0 w16 ((n15,Cs [J sec,J len,J (2 ^ k:Nat),.map (some ib),.slice (some ⟨rb,0,none⟩) sec sec,.slice (some ⟨tb,0,none⟩) (2 ^ k) (2 ^ k),.map (some hb),J 0,U 0,J 0,J 0] 109)::(tb,Cs (List.replicate (2 ^ k) (U 0)) 24)::(ib,.map #[] 0)::(hb,.map #[] 0)::(rb,Cs (List.replicate sec (.slice none 0 0)) 22)::H):=h16'
  exact h17.perm (qm fun c=>by simp only[List.map_nil,List.append_nil,List.nil_append,List.map_cons,List.cons_append,List.sum_cons];omega)
theorem qsY{sec k:Nat}{len:Int}(h:St w0 w H)(h0:1<=sec)(h16:sec<=16)(hk4:4<=k)(hk16:k<=16)
  (hK:∀ (w':World) (q:LB) (L:qQ),L.Ok w0 q (jf sec len k)->St w0 w' (L.bl q (jf sec len k)++H)->K (.pointer (some ⟨q.cb,0,none⟩)) w'):q9 P 52 [.agg #[J sec,J len,J (2 ^ k:Nat)]] w K:=by
 refine qG9 _ _ _ ?_
 rw[qHo]
 refine h.newC fun n1 w2 hn1 h2=>?_
 have h2:St w0 w2 ((n1,Cs (vW sec len (2 ^ k:Nat)) 27)::H):=h2
 have h3:=h2.drew
 refine h3.ldA (k:=0) rfl (by simp) ⟨_,h3.cell (k:=0) rfl,_,by rw[qa];exact h3.cell (k:=0) rfl,?_⟩
 have fin:=@JE w0
 have hsl:2 ^ k<=65536:=(zQ hk4 hk16).2
 repeat' first
  | exact St.newO (by assumption) fun n w hn h=>by
    refine JE h0 h16 hk4 hk16 hK (n1:=n1) ?_ ?_ ?_ ?_ ?_ h (qm fun c=>by simp only[List.map_cons,List.sum_cons];omega)<;>assumption
  | exact JE h0 h16 hk4 hk16 hK (n1:=n1) (by assumption) (by assumption) (by assumption) (by assumption) (by assumption) (by assumption) (qm fun c=>by simp only[List.map_cons,List.sum_cons];omega)
  | refine St.newO (by assumption) fun n w hn h=>?_
  | refine qLs hsl (by assumption) fun g w hg h=>?_
  | refine qJ7 h16 (by assumption) fun g w hg h=>?_
  | refine⟨qIS (sec:=sec) (len:=len) (sl:=(2 ^ k:Nat)) (by assumption) (by simp),?_⟩
  | refine⟨qIW (sec:=sec) (len:=len) (sl:=(2 ^ k:Nat)) (by assumption) (by simp),?_⟩
  | refine⟨qJk (sec:=sec) (len:=len) (sl:=(2 ^ k:Nat)) (by assumption) (by simp),?_⟩
  | refine⟨?_,?_⟩
theorem qhd{sec len slots:Int}(h:St w0 w H)
  (hF:zp sec len slots=false->∀ w',St w0 w' H->K (.tuple [.pointer none,J 1].toArray) w')
  (hK:∀ (n k:Nat),sec=n->slots=(2 ^ k:Nat)->1<=n->n<=16->4<=k->k<=16->256<=len->len<=1048576->zp sec len slots=true->∀ (w':World) (q:LB) (L:qQ),L.Ok w0 q (jf n len k)->St w0 w' (L.bl q (jf n len k)++H)->K (.tuple [.pointer (some ⟨q.cb,0,none⟩),J 0].toArray) w'):q9 P 16 [.agg #[J sec,J len,J slots]] w K:=by
 refine qGZ _ _ _ ?_
 rw[qEw]
 refine h.newC fun n1 w2 hn1 h2=>?_
 have h2:St w0 w2 ((n1,Cs (vW sec len slots) 27)::H):=h2
 refine h2.ldA (k:=0) rfl (by simp) ?_
 refine qp4 h2 fun w5 h5=>⟨_,rfl,?_⟩
 cases hc:zp sec len slots with
 | false=>
  simp only[Bool.not_false,qe]
  exact hF hc w5 (h5.tail hn1)
 | true=>
  simp only[Bool.not_true,qb]
  rw[qof]
  refine h5.ldA (k:=0) rfl (by simp) ?_
  have hc2:=hc
  unfold zp at hc2
  simp only[Bool.and_eq_true,decide_eq_true_eq]at hc2
  obtain⟨n,rfl⟩:=Int.eq_ofNat_of_zero_le (show(0:Int)<=sec by omega)
  obtain⟨k,hk,hsl⟩:∃ k,k∈[4,5,6,7,8,9,10,11,12,13,14,15,16]/\slots=2 ^ k:=by
   have:=hc2.2
   simpa using this
  have hk2:4<=k/\k<=16:=by
   simp only[List.mem_cons,List.not_mem_nil,or_false]at hk
   omega
  have hsl2:slots=(2 ^ k:Nat):=by rw[hsl,Int.natCast_pow];rfl
  subst hsl2
  refine qsY h5 om om hk2.1 hk2.2 fun w10 q L hL h10=>⟨_,rfl,?_⟩
  have h11:St w0 w10 ((n1,Cs (vW (n:Int) len (2 ^ k:Nat)) 27)::(L.bl q (jf n len k)++H)):=h10.perm (qm fun c=>by simp only[List.map_append,List.map_cons,List.sum_append,List.sum_cons];omega)
  exact hK n k rfl rfl om om hk2.1 hk2.2 om om hc w10 q L hL (h11.tail hn1)
end Go.Fx.Tryz
namespace Go.Fx.Ch
structure Fit (s:qd):Prop where
 rows:∀ r∈s.rows,r.length<1000000
 ev0:0<=s.ev
 ev1:s.ev<1099511627776
 items:s.items.length<1000000
 table:∀ x∈s.table,jq x
def EvR(n:Nat):Nat->Nat->qd->Prop
 | 0,g,s=>Fit s/\g<1000000/\jh s n=false
 | m+1,g,s=>Fit s/\g<1000000/\(jh s n=true->∀ s2,zm (qy s) (zM (qy s)) s2->EvR n m (g+(zM (qy s)).length) { s2 with ev:=s2.ev+(zM (qy s)).length })
theorem EvR.fit{n m g:Nat}{s:qd}(h:EvR n m g s):Fit s/\g<1000000:=by
 cases m with
 | zero=>exact⟨h.1,h.2.1⟩
 | succ m=>exact⟨h.1,h.2.1⟩
theorem zm.conf{s s':qd}{l:List Int}(h:zm s l s'):s'.len=s.len/\s'.k=s.k/\s'.cur=s.cur/\s'.given=s.given/\s'.ev=s.ev/\s'.dr=s.dr/\s'.rows.length=s.rows.length:=by
 induction h with
 | nil=>exact⟨rfl,rfl,rfl,rfl,rfl,rfl,rfl⟩
 | @cons s s' id l order ho _ ih=>
  have hf:∀ (l:List (Int × Int)) (s:qd),(qN id l s).len=s.len/\(qN id l s).k=s.k/\(qN id l s).cur=s.cur/\(qN id l s).given=s.given/\(qN id l s).ev=s.ev/\(qN id l s).dr=s.dr/\(qN id l s).rows=s.rows:=by
   intro l
   induction l with
   | nil=>exact fun s=>⟨rfl,rfl,rfl,rfl,rfl,rfl,rfl⟩
   | cons p l ih=>exact fun s=>ih _
  have hd:∀ (l:List EX) (s:qd),(qM id l s).len=s.len/\(qM id l s).k=s.k/\(qM id l s).cur=s.cur/\(qM id l s).given=s.given/\(qM id l s).ev=s.ev/\(qM id l s).dr=s.dr/\(qM id l s).rows=s.rows:=by
   intro l
   induction l with
   | nil=>exact fun s=>⟨rfl,rfl,rfl,rfl,rfl,rfl,rfl⟩
   | cons p l ih=>
    intro s
    unfold qM
    split
    ·exact ih _
    ·exact ih _
  obtain⟨a1,a2,a3,a4,a5,a6,a7⟩:=hf order s
  obtain⟨b1,b2,b3,b4,b5,b6,b7⟩:=hd (qB (qN id order s).items id) (qN id order s)
  obtain⟨c1,c2,c3,c4,c5,c6,c7⟩:=ih
  refine⟨c1.trans (b1.trans a1),c2.trans (b2.trans a2),c3.trans (b3.trans a3),c4.trans (b4.trans a4),c5.trans (b5.trans a5),c6.trans (b6.trans a6),?_⟩
  rw[c7]
  show(List.map _ (qM id _ _).rows).length=_
  rw[List.length_map,b7,a7]
end Go.Fx.Ch
namespace Go.Fx.Tryz
open Go Go.Fx Go.Fx.Ch
open Go.Proofs
set_option linter.all false
set_option maxRecDepth 20000
variable {w0 w:World} {H X:qE} {K:KT} {s:qd} {L:qQ} {q:LB}
theorem qQ.Ok.setCur(hL:L.Ok w0 q s){c:Nat}(hc:c<s.rows.length):L.Ok w0 q { s with cur:=c }:=
 ⟨hL.nc,hL.ni,hL.nh,hL.nr,hL.nt,hL.new,hL.its,hL.hm,hL.hs,hL.inn,hL.rows,hL.k4,hL.k16,hL.tl,hL.rl,hc⟩
theorem qQ.Ok.setEv(hL:L.Ok w0 q s)(e:Int):L.Ok w0 q { s with ev:=e }:=
 ⟨hL.nc,hL.ni,hL.nh,hL.nr,hL.nt,hL.new,hL.its,hL.hm,hL.hs,hL.inn,hL.rows,hL.k4,hL.k16,hL.tl,hL.rl,hL.cur⟩
theorem qQ.Ok.setDr(hL:L.Ok w0 q s)(e:Int):L.Ok w0 q { s with dr:=e }:=
 ⟨hL.nc,hL.ni,hL.nh,hL.nr,hL.nt,hL.new,hL.its,hL.hm,hL.hs,hL.inn,hL.rows,hL.k4,hL.k16,hL.tl,hL.rl,hL.cur⟩
theorem qzN(h:St w0 w (L.bl q s++H))(hL:L.Ok w0 q s)(hK:K (J (ve s:Nat)) w):q9 P 59 [.pointer (some ⟨q.cb,0,none⟩)] w K:=by
 have hp:=zQ hL.k4 hL.k16
 refine qsZ (slots:=((2 ^ s.k:Nat):Int)) (by rw[qa];exact h.cell (k:=1) rfl) om om ?_
 have e:((2 ^ s.k:Nat):Int) / 4*3=((ve s:Nat):Int):=by unfold ve;omega
 rw[e];exact hK
theorem qqm{n4:Nat}{t:List Value}{x1 x2:Int}{ga:Option Addr}{gc:Nat}{gone:List Int}{N:qE}{Y:YT}
  (hg:zD H) (hn4:w0.heap.size<=n4) (hL:L.Ok w0 q (qy s)) (hrow:∀ r∈s.rows,r.length<1000000) (hev0:0<=s.ev) (hev1:s.ev<1099511627776) (hgl:gone.length<1000000)
  (hS:zu 1 24 (.slice ga gone.length gc) gone.length (gone.map U) N) (hN:qF w0 N)
  (h:St w0 w (L.bl q (qy s)++(N++((n4,Cs t 41)::H))))
  (hY:∀ (w':World) (L':qQ) (s2:qd) (ga':Option Addr) (gc':Nat) (N':qE),zm (qy s) (zM (qy s)) s2->L'.Ok w0 q { s2 with ev:=s2.ev+(zM (qy s)).length }->
   zu 1 24 (.slice ga' (gone++zM (qy s)).length gc') (gone++zM (qy s)).length ((gone++zM (qy s)).map U) N'->qF w0 N'->
   St w0 w' (L'.bl q { s2 with ev:=s2.ev+(zM (qy s)).length }++(N'++((n4,Cs t 41)::H)))->
   Y (qi.mk 173 [(5,.slice ga' (gone++zM (qy s)).length gc'),(0,.pointer (some ⟨q.cb,0,none⟩)),(4,U x1),(6,J x2),(3,.pointer (some (Addr.mk n4 0 none)))] []) w') :
  q5I (some ⟨q.cb,0,none⟩) x1 x2 (Addr.mk n4 0 none) ga gone.length gc w K Y:=by
 rw[qeV]
 have hc:(qy s).cur<(qy s).rows.length:=hL.cur
 obtain⟨sa,sc,hrv,hrw⟩:=q6P (H:=N++((n4,Cs t 41)::H)) hL hc
 have hg2:zD (N++((n4,Cs t 41)::H)):=hg.mono fun u hu=>List.mem_append_right _ (.tail _ hu)
 refine⟨some ⟨q.rb,0,none⟩,(qy s).rows.length,(qy s).rows.length,by rw[qa];exact h.cell (k:=1) rfl,(qy s).cur,by rw[qa];exact h.cell (k:=1) rfl,by omega,by omega,sa,(qy s).rows[(qy s).cur].length,sc,?_,?_⟩
 ·rw[qa,Int.toNat_natCast,Nat.mul_one,Nat.zero_add]
  rw[h.drew.cell (k:=4) rfl];exact hrv
 have hrs:zM (qy s)=zI (qy s).rows[(qy s).cur]:=by unfold zM;rw[List.getElem?_eq_getElem hc];rfl
 have hlr:(qy s).rows[(qy s).cur].length<1000000:=hrow _ (List.getElem_mem hc)
 have hlr2:(zM (qy s)).length<1000000:=by rw[hrs,yH];exact hlr
 refine Jr q5P h.drew hL hg2 hrw hlr fun w127 L' s2 ov' M hF hL' hSl hMN h127=>?_
 rw[<-hrs]at hF hSl
 obtain⟨la,lc,e⟩:=hSl.form
 subst e
 refine⟨_,_,_,rfl,?_⟩
 rw[qhZ]
 have h128:St w0 w127 (L'.bl q s2++(M++(N++((n4,Cs t 41)::H)))):=h127.perm (qm fun c=>by simp only[List.map_append,List.map_cons,List.sum_append,List.sum_cons];omega)
 have hconf:=hF.conf
 have he2:s2.ev=s.ev:=hconf.2.2.2.2.1
 refine⟨s2.ev,by rw[qa];exact h128.cell (k:=1) rfl,?_⟩
 show zX ((Addr.mk q.cb 0 none).add 9) _ _ _
 rw[qa,qc om om]
 refine h128.st1 (k:=1) rfl (by simp[CCs]) rfl fun w138 h138=>?_
 have hL2:=hL'.setEv (s2.ev+(zM (qy s)).length)
 have h139:St w0 w138 (L'.bl q { s2 with ev:=s2.ev+(zM (qy s)).length }++(M++(N++((n4,Cs t 41)::H)))):=h138
 have h140:St w0 w138 ([]++(N++(M++(L'.bl q { s2 with ev:=s2.ev+(zM (qy s)).length }++((n4,Cs t 41)::H))))):=h139.perm (qm fun c=>by simp only[List.nil_append,List.map_append,List.map_cons,List.sum_append,List.sum_cons];omega)
 obtain⟨v',w',N',hr,hS2,h141,hN2⟩:=St.appendN (P:=P) 22 22 24 Tryz.t24 (U 0) 1 4 Tryz.underlying22 kr rfl rfl rfl rfl om h140 hS hN hSl (fun u hu=>h140.has _ _ (List.mem_append_right [] (List.mem_append_right N (List.mem_append_left _ hu)))) (qDI _) (by simp[maxLen];omega) om
 have hle:(gone++zM (qy s)).length=gone.length+(zM (qy s)).length:=List.length_append
 rw[<-hle,<-List.map_append]at hS2
 obtain⟨a',c',e⟩:=hS2.form
 subst e
 refine⟨_,_,_,w',hr,?_⟩
 have h142:St w0 w' (M++(L'.bl q { s2 with ev:=s2.ev+(zM (qy s)).length }++(N'++((n4,Cs t 41)::H)))):=h141.perm (qm fun c=>by simp only[List.nil_append,List.map_append,List.map_cons,List.sum_append,List.sum_cons];omega)
 exact hY w' L' s2 a' c' N' hF hL2 hS2 hN2 (h142.sub hMN)
end Go.Fx.Tryz
namespace Go.Fx.Ch
open Go.Fx.Tryz
def yn(s:qd)(t:TR):Int:=match zd t.code with
 | none=>170
 | some l=>if zY t.sp=false\/(l.any fun e=>e.chain != 0)=true then 1 else if(zO s t.at_).1≠0 then 5 else if(t.code.length:Int) > s.len\/s.given=2147483647 then 2 else 0
theorem yd.conf{n:Nat}{s s':qd}{g:List Int}(h:yd n s g s'):s'.len=s.len/\s'.k=s.k/\s'.given=s.given/\s'.dr=s.dr/\s'.rows.length=s.rows.length:=by
 induction h with
 | done=>exact⟨rfl,rfl,rfl,rfl,rfl⟩
 | step _ hF _ ih=>
  obtain⟨a1,a2,a3,a4,a5⟩:=ih
  obtain⟨b1,b2,b3,b4,b5,b6,b7⟩:=hF.conf
  exact⟨a1.trans b1,a2.trans b2,a3.trans b4,a4.trans b6,a5.trans b7⟩
end Go.Fx.Ch
namespace Go.Fx.Tryz
open Go Go.Fx Go.Fx.Ch
open Go.Proofs
set_option linter.all false
set_option maxRecDepth 20000
variable {w0 w:World} {H X:qE} {K:KT} {s:qd} {L:qQ} {q:LB}
theorem qQ.Ok.setGiven(hL:L.Ok w0 q s)(e:Int):L.Ok w0 q { s with given:=e }:=
 ⟨hL.nc,hL.ni,hL.nh,hL.nr,hL.nt,hL.new,hL.its,hL.hm,hL.hs,hL.inn,hL.rows,hL.k4,hL.k16,hL.tl,hL.rl,hL.cur⟩
theorem qx8{ga:Option Addr}{gn gc:Nat}(hg:zD H)(hL:L.Ok w0 q s)(h:St w0 w (L.bl q s++H))
  (hK:∀ (w':World) (L':qQ),L'.Ok w0 q { s with table:=yZ s s.given }->St w0 w' (L'.bl q { s with table:=yZ s s.given }++H)->K (.tuple [U s.given,.slice ga gn gc,J 0].toArray) w') :
  q0Y ga gn gc (some ⟨q.cb,0,none⟩) w K:=by
 rw[qef]
 refine⟨s.given,by rw[qa];exact h.cell (k:=1) rfl,?_⟩
 have h1:St w0 w ((q.tb,Cs (s.table.map U) 24)::(L.b4 q s++H)):=h
 refine qqy (G:=L.G) h1 (hL.knownC hg) (fun u hu=>List.mem_append_left _ (.tail _ (.tail _ (.tail _ (.tail _ (List.mem_append_right _ (List.mem_append_right _ hu))))))) fun w' h'=>⟨rfl,?_⟩
 have h2:St w0 w' (L.bl q { s with table:=yZ s s.given }++H):=h'
 refine⟨s.given,by rw[qa];exact h2.cell (k:=1) rfl,?_⟩
 have hlen:(yZ s s.given).length=2 ^ s.k:=by unfold yZ;rw[YN];exact hL.tl
 exact hK w' L ⟨hL.nc,hL.ni,hL.nh,hL.nr,hL.nt,hL.new,hL.its,hL.hm,hL.hs,hL.inn,hL.rows,hL.k4,hL.k16,hlen,hL.rl,hL.cur⟩ h2
theorem qBA{ga:Option Addr}{gn gc:Nat}(hg:zD H)(hL:L.Ok w0 q s)(hr:(s.rows[s.cur]'hL.cur).length<1000000)(h:St w0 w (L.bl q s++H))
  (hK:∀ (w':World) (L':qQ),L'.Ok w0 q { s with rows:=s.rows.modify s.cur fun r=>r++[s.given] }->St w0 w' (L'.bl q { s with rows:=s.rows.modify s.cur fun r=>r++[s.given] }++H)->q0Y ga gn gc (some ⟨q.cb,0,none⟩) w' K) :
  q6D ga gn gc (some ⟨q.cb,0,none⟩) w K:=by
 rw[qgM]
 have hc:=hL.cur
 obtain⟨a,v,b,e0,hal,hv,hset⟩:=hL.rows.split (List.getElem?_eq_getElem hc)
 generalize hrr:s.rows[s.cur]=r at *
 obtain⟨sa,sc,hsv⟩:=hv.form
 have hrv:(L.rv.map (·.1))[s.cur]?=some (.slice sa r.length sc):=by
  rw[e0,List.map_append,List.getElem?_append_right (by simp;omega)]
  simp[hal,hsv]
 have h1:=h.drew
 have cR:∀ {w2:World} {Z:qE},St w0 w2 (L.bl q s++Z)->w2.cell? ((Addr.mk q.rb 0 none).add (Int.toNat (s.cur:Int)*1))=some (.slice sa r.length sc):=fun {w2 Z} h2=>by
  rw[qa,Int.toNat_natCast,Nat.mul_one,Nat.zero_add,h2.cell (k:=4) rfl];exact hrv
 refine⟨some ⟨q.rb,0,none⟩,s.rows.length,s.rows.length,by rw[qa];exact h1.cell (k:=1) rfl,s.cur,by rw[qa];exact h1.cell (k:=1) rfl,some ⟨q.rb,0,none⟩,s.rows.length,s.rows.length,by rw[qa];exact h1.cell (k:=1) rfl,s.cur,by rw[qa];exact h1.cell (k:=1) rfl,by omega,by omega,sa,r.length,sc,cR h1,s.given,by rw[qa];exact h1.cell (k:=1) rfl,⟨rfl,trivial⟩,?_⟩
 refine h1.newC fun n176 w174 hn176 h174=>?_
 have h174:St w0 w174 ((n176,Cs [U s.given] 24)::(L.bl q s++H)):=h174
 have h175:St w0 w174 (L.bl q s++((n176,Cs [U s.given] 24)::H)):=h174.perm (qm fun c=>by simp only[List.map_append,List.map_cons,List.sum_append,List.sum_cons];omega)
 refine⟨cR h175,by rw[qa];exact h175.cell (k:=1) rfl,by rw[qa];exact h175.cell (k:=1) rfl,by rw[qa];exact h175.cell (k:=1) rfl,by rw[qa];exact h175.cell (k:=1) rfl,?_⟩
 have hnew:qF w0 (L.rv.map (·.2)).flatten:=qF.left hL.new
 rw[e0]at hnew
 simp only[List.map_append,List.map_cons,List.flatten_append,List.flatten_cons]at hnew
 have h176:St w0 w174 ([(n176,Cs [U s.given] 24)]++(v.2++(({ L with rv:=a++(v.1,[])::b }:qQ).bl q s++H))):=by
  have:=h174.perm (qQ.takeR (A:=[(n176,Cs [U s.given] 24)]) e0)
  exact this.perm (qm fun c=>by simp only[List.nil_append,List.map_append,List.map_cons,List.map_nil,List.sum_append,List.sum_cons,List.sum_nil];omega)
 obtain⟨g,cap,w178,X,hrun,hX,h178,hXN⟩:=St.append (P:=P) 22 22 24 Tryz.t24 (U 0) 1 4 Tryz.underlying22 kr rfl rfl rfl rfl om (A:=[(n176,Cs [U s.given] 24)]) (news:=[U s.given]) h176 hv (qF.left (qF.right hnew)) (j:=0) rfl rfl (fun u hu=>by rw[List.mem_singleton.1 hu];rfl) (by simp[maxLen];omega) om
 rw[hsv]at hrun
 have h179:St w0 w178 (({ L with rv:=a++(v.1,[])::b }:qQ).bl q s++(X++((n176,Cs [U s.given] 24)::H))):=h178.perm (qm fun c=>by simp only[List.nil_append,List.map_append,List.map_cons,List.map_nil,List.sum_append,List.sum_cons,List.sum_nil];omega)
 refine⟨_,_,_,w178,hrun,by rw[qa];exact h179.cell (k:=1) rfl,by rw[qa];exact h179.cell (k:=1) rfl,by omega,by omega,?_⟩
 show zX ((Addr.mk q.rb 0 none).add _) _ _ _
 rw[qa,Int.toNat_natCast,Nat.mul_one,Nat.zero_add]
 refine h179.st1 (k:=4) rfl (by simp;omega) rfl fun w180 h180=>?_
 have hse:((a++(v.1,([]:qE))::b).map (·.1)).set s.cur (.slice (some ⟨g,0,none⟩) (r.length+1) cap)=(a++(.slice (some ⟨g,0,none⟩) (r.length+1) cap,([]:qE))::b).map (·.1):=by
  rw[List.map_append,List.set_append_right _ _ (by simp;omega)]
  simp[hal]
 have h258:St w0 w180 (({ L with rv:=a++(.slice (some ⟨g,0,none⟩) (r.length+1) cap,[])::b }:qQ).bl q s++(X++((n176,Cs [U s.given] 24)::H))):=by
  have h257:St w0 w180 (((q.tb,Cs (s.table.map U) 24)::(q.cb,Cs (CCs s q.ib q.hb q.rb q.tb) 109)::(q.ib,.map L.ies L.iclk)::(q.hb,.map L.hes L.hclk)::(q.rb,Cs (((a++(v.1,([]:qE))::b).map (·.1)).set s.cur (.slice (some ⟨g,0,none⟩) (r.length+1) cap)) 22)::({ L with rv:=a++(v.1,[])::b }:qQ).rest)++(X++((n176,Cs [U s.given] 24)::H))):=h180
  rw[hse]at h257
  refine h257.perm (qm fun c=>?_)
  simp only[qQ.bl,qQ.b4,qQ.rest,List.cons_append,List.nil_append,List.map_append,List.map_cons,List.flatten_append,List.flatten_cons,List.sum_append,List.sum_cons]
 have h259:St w0 w180 (X++([(n176,Cs [U s.given] 24)]++(({ L with rv:=a++(.slice (some ⟨g,0,none⟩) (r.length+1) cap,[])::b }:qQ).bl q s++H))):=h258.perm (qm fun c=>by simp only[List.nil_append,List.map_append,List.map_cons,List.map_nil,List.sum_append,List.sum_cons,List.sum_nil];omega)
 have h260:=(h259.perm qQ.giveR).tail hn176
 have hrows:=hset (r++[s.given]) (.slice (some ⟨g,0,none⟩) (r.length+1) cap,X) (by simpa using hX)
 have hmod:s.rows.set s.cur (r++[s.given])=s.rows.modify s.cur fun r=>r++[s.given]:=by
  apply List.ext_getElem?
  intro j
  rw[List.getElem?_set,List.getElem?_modify]
  by_cases hj:s.cur=j
  ·subst hj
   rw[if_pos rfl,if_pos hc,List.getElem?_eq_getElem hc,hrr]
   simp
  ·rw[if_neg hj]
   simp[hj]
 rw[hmod]at hrows
 have hml:(s.rows.modify s.cur fun r=>r++[s.given]).length=s.rows.length:=List.length_modify ..
 have hok:=hL.setR hrows hml (by
  simp only[List.map_append,List.map_cons,List.flatten_append,List.flatten_cons]
  exact qF.append (qF.left hnew) (qF.append hXN (qF.right (qF.right hnew))))
 refine hK w180 _ hok ?_
 rw[qQ.bl_rows hml]
 exact h260
theorem qAQ{n4:Nat}{t:TR}{sv cv:Value}{ga:Option Addr}{gc:Nat}{gone:List Int}{N:qE}(hg:zD H)(hn4:w0.heap.size<=n4)(hS:jP w0 H sv t.sp)(hB:yj w0 H cv t.code)(ha0:0<=t.at_)(ha1:t.at_<4294967296)
  (hL:L.Ok w0 q s) (hfit:Fit s) (hgl:gone.length<1000000) (hgv0:0<=s.given) (hgv1:s.given<2147483647) (hSl:zu 1 24 (.slice ga gone.length gc) gone.length (gone.map U) N) (hN:qF w0 N)
  (h:St w0 w (L.bl q s++(N++((n4,Cs (yc t.at_ sv cv) 41)::H))))
  (hK:∀ (w':World) (L':qQ) (N':qE),L'.Ok w0 q (zL s t)->zu 1 24 (.slice ga gone.length gc) gone.length ((zI gone).map U) N'->qF w0 N'->St w0 w' (N'++(L'.bl q (zL s t)++H))->K (.tuple [U (s.given+1),.slice ga gone.length gc,J 0].toArray) w') :
  q0Q ga gone.length gc (some ⟨q.cb,0,none⟩) (Addr.mk n4 0 none) w K:=by
 rw[qdl]
 have h1:St w0 w (N++(L.bl q s++((n4,Cs (yc t.at_ sv cv) 41)::H))):=h.perm (qm fun c=>by simp only[List.map_append,List.map_cons,List.sum_append,List.sum_cons];omega)
 refine q5P _ _ _ _ _ gone hgl hSl hN h1 fun w145 N' hS' hN' h145=>⟨rfl,?_⟩
 have h146:St w0 w145 (L.bl q s++(N'++((n4,Cs (yc t.at_ sv cv) 41)::H))):=h145.perm (qm fun c=>by simp only[List.map_append,List.map_cons,List.sum_append,List.sum_cons];omega)
 refine⟨s.given,by rw[qa];exact h146.cell (k:=1) rfl,?_⟩
 show zX ((Addr.mk q.cb 0 none).add 8) _ _ _
 rw[qa,Qy om om]
 refine h146.st1 (k:=1) rfl (by simp[CCs]) rfl fun w149 h149=>?_
 have hL1:=hL.setGiven (s.given+1)
 have h150:St w0 w149 (L.bl q { s with given:=s.given+1 }++(N'++((n4,Cs (yc t.at_ sv cv) 41)::H))):=h149
 have h151:=h150.drew
 have hm4:(n4,Cs (yc t.at_ sv cv) 41)∈(L.bl q { s with given:=s.given+1 }++(N'++((n4,Cs (yc t.at_ sv cv) 41)::H))):=List.mem_append_right _ (List.mem_append_right _ (.head _))
 refine⟨some q.ib,by rw[qa];exact h151.cell (k:=1) rfl,s.given+1,by rw[qa];exact h151.cell (k:=1) rfl,q2x (h151.has _ _ hm4) (by simp[yc]) ?_⟩
 have hsub:∀ {w2:World},St w0 w2 (L.bl q { s with given:=s.given+1 }++(N'++((n4,Cs (yc t.at_ sv cv) 41)::H)))->St w0 w2 H:=fun h2=>(((h2.sub hL1.newB).sub hN').tail hn4)
 refine Jy (l:=t.sp) (bs:=t.code) h151 ⟨fun w' h'=>hS.row w' (hsub h'),hS.len⟩ ⟨fun w' h'=>hB.row w' (hsub h'),hB.byte,hB.len,hB.cap⟩ fun w156 sv' cv' A M hSA hAN hSM hMN h156=>⟨_,rfl,?_⟩
 have h157:=qQ.addG (N:=M) (A:=A) (L:=L) (q:=q) (s:={ s with given:=s.given+1 }) h156
 have h158:=qQ.addG (N:=A) (A:=[]) (L:={ L with G:=M++L.G }) (q:=q) (s:={ s with given:=s.given+1 }) h157
 have hL2:=(hL1.addG hMN).addG hAN
 have h159:St w0 w156 (({ L with G:=A++(M++L.G) }:qQ).bl q { s with given:=s.given+1 }++(N'++((n4,Cs (yc t.at_ sv cv) 41)::H))):=h158
 have hv:q0j (A++(M++L.G)) (.agg (yc t.at_ sv' cv').toArray) t:=⟨⟨_,_,rfl,(Qr.of hSA hS.len).mono fun u hu=>List.mem_append_left _ hu,(jv.of hSM hB.byte hB.len).mono fun u hu=>List.mem_append_right _ (List.mem_append_left _ hu)⟩,ha0,ha1⟩
 obtain⟨es',clk',hr,hit⟩:=hL2.its.update hv (h159.get (k:=2) rfl) (s.given+1)
 refine⟨by rw[qa];exact h159.cell (k:=1) rfl,by rw[qa];exact h159.cell (k:=1) rfl,_,hr,?_⟩
 have h160:=h159.put (k:=2) rfl (.map es' clk')
 have hL3:=hL2.items hit
 have hg2:zD (N'++((n4,Cs (yc t.at_ sv cv) 41)::H)):=hg.mono fun u hu=>List.mem_append_right _ (.tail _ hu)
 refine qBA (s:={ s with given:=s.given+1,items:=pt s.items (s.given+1) t }) hg2 hL3 (hfit.rows _ (List.getElem_mem _)) h160 fun w180 L4 hL4 h180=>?_
 refine qx8 hg2 hL4 h180 fun w186 L5 hL5 h186=>?_
 have h187:St w0 w186 ((n4,Cs (yc t.at_ sv cv) 41)::(N'++(L5.bl q (zL s t)++H))):=St.perm (H:=L5.bl q (zL s t)++(N'++((n4,Cs (yc t.at_ sv cv) 41)::H))) h186 (qm fun c=>by simp only[List.map_append,List.map_cons,List.sum_append,List.sum_cons];omega)
 exact hK w186 L5 N' hL5 hS' hN' (h187.tail hn4)
theorem qI6{n4:Nat}{t:TR}{sv cv:Value}(hg:zD H)(hn4:w0.heap.size<=n4)(hS:jP w0 H sv t.sp)(hB:yj w0 H cv t.code)(ha0:0<=t.at_)(ha1:t.at_<4294967296)
  (hL:L.Ok w0 q s) {m:Nat} (hE:EvR t.code.length m 0 s) (hgv0:0<=s.given) (hgv1:s.given<2147483647)
  (h:St w0 w (L.bl q s++((n4,Cs (yc t.at_ sv cv) 41)::H)))
  (hK:∀ (w':World) (L':qQ) (gone:List Int) (s1:qd) (ov:Value) (N:qE),yd t.code.length s gone s1->L'.Ok w0 q (zL s1 t)->zu 1 24 ov gone.length ((zI gone).map U) N->qF w0 N->St w0 w' (N++(L'.bl q (zL s1 t)++H))->K (.tuple [U (s1.given+1),ov,J 0].toArray) w') :
  qgw none 0 0 (some ⟨q.cb,0,none⟩) 0 0 (Addr.mk n4 0 none) w K:=by
 obtain⟨ca,cc,e⟩:=(hB.row w ((h.sub hL.newB).tail hn4)).form
 subst e
 rw[qq2]
 refine⟨fun m e w=>∃ (L':qQ) (s':qd) (gone:List Int) (ga:Option Addr) (gc:Nat) (N:qE),e=qi.mk 173 [(5,.slice ga gone.length gc),(0,.pointer (some ⟨q.cb,0,none⟩)),(4,U 0),(6,J 0),(3,.pointer (some (Addr.mk n4 0 none)))] []/\
  EvR t.code.length m gone.length s'/\zu 1 24 (.slice ga gone.length gc) gone.length (gone.map U) N/\qF w0 N/\L'.Ok w0 q s'/\St w0 w (L'.bl q s'++(N++((n4,Cs (yc t.at_ sv (.slice ca t.code.length cc)) 41)::H)))/\∀ g s1,yd t.code.length s' g s1->yd t.code.length s (gone++g) s1,
  ⟨m,L,s,[],none,0,[],rfl,hE,zu.nil 1 24,qF.nil _,hL,h,fun g s1 h=>h⟩,?_⟩
 rintro m e w1 ⟨L',s',gone,ga,gc,N,rfl,hE,hSl,hN,hL',hs,hev⟩
 show q9r ..
 rw[qb8]
 obtain⟨hfit,hgl⟩:=hE.fit
 have hcl:=hB.len
 have hm4:∀ {w2:World},St w0 w2 (L'.bl q s'++(N++((n4,Cs (yc t.at_ sv (.slice ca t.code.length cc)) 41)::H)))->w2.cell? ((Addr.mk n4 0 none).add 2)=some (.slice ca t.code.length cc):=fun {w2} h2=>by
  have:(n4,Cs (yc t.at_ sv (.slice ca t.code.length cc)) 41)∈(L'.bl q s'++(N++((n4,Cs (yc t.at_ sv (.slice ca t.code.length cc)) 41)::H))):=List.mem_append_right _ (List.mem_append_right _ (.head _))
  rw[qa,qw (h2.has _ _ this)];rfl
 have h1:=hs.drew
 have hc:=hL'.cur
 refine⟨s'.cur,by rw[qa];exact h1.cell (k:=1) rfl,ca,t.code.length,cc,hm4 h1,s'.len,by rw[qa];exact h1.cell (k:=1) rfl,?_⟩
 refine q3X h1 hL' hc (by have:=hfit.rows _ (List.getElem_mem hc);omega) fun w96 h96=>⟨_,rfl,by rw[qa];exact h96.cell (k:=1) rfl,hm4 h96,?_⟩
 have hfb:=yQ (hL'.codeLen h96) s'.rows[s'.cur]
 have hfs:zt s' s'.cur=qR s'.items s'.rows[s'.cur]:=by unfold zt qR;rw[List.getElem?_eq_getElem hc];rfl
 have hrl:=hfit.rows _ (List.getElem_mem hc)
 rw[qc om om]
 have hlast:∀ s1:qd,yd t.code.length s gone s1->s1.given=s.given:=fun s1 h=>h.conf.2.2.1
 have yes:∀ w2,jh s' t.code.length=true->St w0 w2 (L'.bl q s'++(N++((n4,Cs (yc t.at_ sv (.slice ca t.code.length cc)) 41)::H)))->
   q0E true (some ⟨q.cb,0,none⟩) 0 0 (Addr.mk n4 0 none) ga gone.length gc w2 K (fun e' w'=>∃ m',m'<m/\∃ (L':qQ) (s':qd) (gone:List Int) (ga:Option Addr) (gc:Nat) (N:qE),e'=qi.mk 173 [(5,.slice ga gone.length gc),(0,.pointer (some ⟨q.cb,0,none⟩)),(4,U 0),(6,J 0),(3,.pointer (some (Addr.mk n4 0 none)))] []/\
    EvR t.code.length m' gone.length s'/\zu 1 24 (.slice ga gone.length gc) gone.length (gone.map U) N/\qF w0 N/\L'.Ok w0 q s'/\St w0 w' (L'.bl q s'++(N++((n4,Cs (yc t.at_ sv (.slice ca t.code.length cc)) 41)::H)))/\∀ g s1,yd t.code.length s' g s1->yd t.code.length s (gone++g) s1):=by
  intro w2 hfull h2
  rw[q1j,qe,qgU]
  have h3:=h2.drew
  have hmod:(s'.cur+1) % s'.rows.length<s'.rows.length:=Nat.mod_lt _ om
  have hrlen:=hL'.rl
  refine⟨s'.cur,by rw[qa];exact h3.cell (k:=1) rfl,s'.rows.length,h3.cell (k:=1) rfl,by omega,?_⟩
  show zX ((Addr.mk q.cb 0 none).add 7) _ _ _
  rw[qa,qc om om]
  have htm:((s'.cur:Int)+1).tmod (s'.rows.length:Int)=(((s'.cur+1) % s'.rows.length:Nat):Int):=by
   rw[Int.tmod_eq_emod_of_nonneg om,Int.natCast_emod];rfl
  rw[htm]
  refine h3.st1 (k:=1) rfl (by simp[CCs]) rfl fun w114 h114=>?_
  have h115:St w0 w114 (L'.bl q (qy s')++(N++((n4,Cs (yc t.at_ sv (.slice ca t.code.length cc)) 41)::H))):=h114
  cases m with
  | zero=>
   have:=hE.2.2
   rw[this]at hfull;cases hfull
  | succ m=>
   refine qqm hg hn4 (hL'.setCur hmod) hfit.rows hfit.ev0 hfit.ev1 hgl hSl hN h115 fun w' L2 s2 ga' gc' N' hF hL2 hS2 hN2 hs2=>?_
   refine⟨m,Nat.lt_succ_self m,L2,_,gone++zM (qy s'),ga',gc',N',rfl,?_,hS2,hN2,hL2,hs2,fun g s1 hg=>?_⟩
   ·rw[List.length_append];exact hE.2.2 hfull s2 hF
   ·rw[List.append_assoc]
    exact hev _ _ (.step hfull hF hg)
 have no:∀ w2,jh s' t.code.length=false->St w0 w2 (L'.bl q s'++(N++((n4,Cs (yc t.at_ sv (.slice ca t.code.length cc)) 41)::H)))->q0Q ga gone.length gc (some ⟨q.cb,0,none⟩) (Addr.mk n4 0 none) w2 K:=by
  intro w2 hfull h2
  have hEv:=hev [] s' (.done hfull)
  rw[List.append_nil]at hEv
  have hgv:=hlast s' hEv
  refine qAQ hg hn4 hS hB ha0 ha1 hL' hfit hgl om om hSl hN h2 fun w' L2 N' hok hS' hN' hs'=>?_
  exact hK w' L2 gone s' _ N' hEv hok hS' hN' hs'
 rw[qg]
 refine⟨fun hb=>?_,fun hb=>?_⟩
 ·refine yes w96 ?_ h96
  unfold jh
  rw[hb];rfl
 ·refine⟨some q.ib,by rw[qa];exact h96.cell (k:=1) rfl,s'.items.length,fun wq hx=>hL'.its.len (Jt hx (h96.get (k:=2) rfl)),?_⟩
  refine qzN h96 hL' ⟨_,rfl,?_⟩
  have hdd:decide ((s'.items.length:Int)>=(ve s':Nat))=decide (ve s'<=s'.items.length):=by
   by_cases hx:ve s'<=s'.items.length
   ·rw[decide_eq_true hx,decide_eq_true om]
   ·rw[decide_eq_false hx,decide_eq_false om]
  rw[hdd]
  have hfe:jh s' t.code.length=decide (ve s'<=s'.items.length):=by
   unfold jh
   rw[hb];rfl
  cases hd:decide (ve s'<=s'.items.length)with
  | true=>rw[hd]at hfe;exact yes w96 hfe h96
  | false=>
   rw[hd]at hfe
   rw[q1j,qb]
   exact no w96 hfe h96
theorem q7A{t:TR}{sv cv:Value}(h:St w0 w (L.bl q s++H))(hL:L.Ok w0 q s)(hg:zD H)(hS:jP w0 H sv t.sp)(hB:yj w0 H cv t.code)(ha:jq t.at_)(hgv0:0<=s.given)(hgv1:s.given<=2147483647)
  (hE:yn s t=0->∃ m,EvR t.code.length m 0 s)
  (hF:yn s t≠0->∀ w',St w0 w' (L.bl q s++H)->K (.tuple [U 0,.slice none 0 0,J (yn s t)].toArray) w')
  (hK:yn s t=0->∀ (w':World) (L':qQ) (gone:List Int) (s1:qd) (ov:Value) (N:qE),yd t.code.length s gone s1->L'.Ok w0 q (zL s1 t)->zu 1 24 ov gone.length ((zI gone).map U) N->qF w0 N->St w0 w' (N++(L'.bl q (zL s1 t)++H))->K (.tuple [U (s1.given+1),ov,J 0].toArray) w') :
  q9 P 18 [.pointer (some ⟨q.cb,0,none⟩),.agg (yc t.at_ sv cv).toArray] w K:=by
 refine qEg _ _ _ _ ?_
 obtain⟨sa,sc,e1⟩:=(hS.row w (h.sub hL.newB)).form
 obtain⟨ca,cc,e2⟩:=(hB.row w (h.sub hL.newB)).form
 subst e1;subst e2
 rw[qFV,qq5]
 refine h.newC fun n4 w5 hn4 h5=>?_
 have h5:St w0 w5 ((n4,Cs (yc t.at_ (.slice sa t.sp.length sc) (.slice ca t.code.length cc)) 41)::(L.bl q s++H)):=h5
 have h6:St w0 w5 (L.bl q s++((n4,Cs (yc t.at_ (.slice sa t.sp.length sc) (.slice ca t.code.length cc)) 41)::H)):=h5.perm (qm fun c=>by simp only[List.map_append,List.map_cons,List.sum_append,List.sum_cons];omega)
 have back:∀ {w2:World},St w0 w2 (L.bl q s++((n4,Cs (yc t.at_ (.slice sa t.sp.length sc) (.slice ca t.code.length cc)) 41)::H))->St w0 w2 ((n4,Cs (yc t.at_ (.slice sa t.sp.length sc) (.slice ca t.code.length cc)) 41)::(L.bl q s++H)):=fun {w2} h2=>h2.perm (qm fun c=>by simp only[List.map_append,List.map_cons,List.sum_append,List.sum_cons];omega)
 have hg2:zD ((n4,Cs (yc t.at_ (.slice sa t.sp.length sc) (.slice ca t.code.length cc)) 41)::H):=hg.mono fun u hu=>.tail _ hu
 have hS2:jP w0 (L.bl q s++((n4,Cs (yc t.at_ (.slice sa t.sp.length sc) (.slice ca t.code.length cc)) 41)::H)) (.slice sa t.sp.length sc) t.sp:=⟨fun w' h'=>hS.row w' ((h'.sub hL.newB).tail hn4),hS.len⟩
 have hB2:yj w0 (L.bl q s++((n4,Cs (yc t.at_ (.slice sa t.sp.length sc) (.slice ca t.code.length cc)) 41)::H)) (.slice ca t.code.length cc) t.code:=⟨fun w' h'=>hB.row w' ((h'.sub hL.newB).tail hn4),hB.byte,hB.len,hB.cap⟩
 have fail:∀ {e:Int} {w2:World},yn s t=e->e≠0->St w0 w2 (L.bl q s++((n4,Cs (yc t.at_ (.slice sa t.sp.length sc) (.slice ca t.code.length cc)) 41)::H))->K (.tuple [U 0,.slice none 0 0,J e].toArray) w2:=fun {e w2} he hne h2=>by
  subst he
  exact hF hne w2 ((back h2).tail hn4)
 rw[qoN]
 refine QQ h6 ⟨_,rfl,?_⟩
 simp only[qb]
 rw[qqC]
 refine⟨ca,t.code.length,cc,by rw[qa];exact h5.cell (k:=0) rfl,?_⟩
 obtain⟨⟨gcs,gt,hg1,hgt⟩,hbits⟩:=hg2
 refine q1x h6 hB2 (List.mem_append_right _ hg1) hgt (fun w22 h22 hn=>⟨_,_,_,_,rfl,?_⟩) fun w22 xa xc N l hl hll h22 hN hSl=>⟨_,_,_,_,rfl,?_⟩
 ·rw[q4t]
  simp only[show((170:Int) != 0)=true from rfl,qe]
  exact fail (by unfold yn;rw[hn]) (by decide) h22
 rw[q4t]
 simp only[show((0:Int) != 0)=false from rfl,qb]
 rw[qq4]
 have hpe:yn s t=if zY t.sp=false\/(l.any fun e=>e.chain != 0)=true then 1 else if(zO s t.at_).1≠0 then 5 else if(t.code.length:Int) > s.len\/s.given=2147483647 then 2 else 0:=by unfold yn;rw[hl]
 have hm4:∀ {w2:World} {Z:qE},St w0 w2 (Z++(L.bl q s++((n4,Cs (yc t.at_ (.slice sa t.sp.length sc) (.slice ca t.code.length cc)) 41)::H)))->w2.heap[n4]?=some (Cs (yc t.at_ (.slice sa t.sp.length sc) (.slice ca t.code.length cc)) 41):=fun {w2 Z} h2=>
  h2.has _ _ (List.mem_append_right _ (List.mem_append_right _ (.head _)))
 refine⟨sa,t.sp.length,sc,by rw[qa,qw (hm4 h22)];rfl,?_⟩
 refine qbi (l:=t.sp) h22 ⟨fun w' h'=>hS2.row w' (h'.sub hN),hS.len⟩ fun w48 h48=>⟨_,rfl,?_⟩
 have s5t:∀ {w2:World},(zY t.sp=false\/(l.any fun e=>e.chain != 0)=true)->St w0 w2 (N++(L.bl q s++((n4,Cs (yc t.at_ (.slice sa t.sp.length sc) (.slice ca t.code.length cc)) 41)::H)))->q4V true none 0 0 (some ⟨q.cb,0,none⟩) 0 0 (Addr.mk n4 0 none) w2 K:=fun {w2} hc h2=>by
  rw[q4m,qe]
  exact fail (by rw[hpe,if_pos hc]) (by decide) (h2.sub hN)
 rw[qg]
 refine⟨fun hb=>s5t (.inl (by simpa using hb)) h48,fun hb=>?_⟩
 have hsp:zY t.sp=true:=by simpa using hb
 have hcl:=hB.len
 refine Yg (l:=l) h48 (fun w' h'=>hSl.row fun u hu=>h'.has _ _ (List.mem_append_left _ hu)) om qIn fun w198 h198=>⟨_,rfl,?_⟩
 cases hch:(l.any fun e=>e.chain != 0)with
 | true=>exact s5t (.inr hch) h198
 | false=>
  have hno:¬ (zY t.sp=false\/(l.any fun e=>e.chain != 0)=true):=by rw[hsp,hch];simp
  rw[if_neg hno]at hpe
  rw[q4m,qb,qqk]
  have h199:=h198.sub hN
  refine⟨t.at_,(back h199).cell (k:=0) rfl,?_⟩
  refine q0C h199 hL (hg.mono fun u hu=>.tail _ hu) ha.1 ha.2 fun w63 h63=>⟨_,_,rfl,?_⟩
  rw[qg]
  refine⟨fun hx=>?_,fun hx=>?_⟩
  ·have hx:(zO s t.at_).1≠0:=by simpa using hx
   exact fail (by rw[hpe,if_pos hx]) (by decide) h63
  have hx:(zO s t.at_).1=0:=by simpa using hx
  rw[if_neg (by simp[hx])]at hpe
  rw[qqP]
  have h64:=h63.drew
  refine⟨ca,t.code.length,cc,by rw[qa];exact(back h64).cell (k:=0) rfl,s.len,by rw[qa];exact h64.cell (k:=1) rfl,?_⟩
  have s8t:∀ {w2:World},((t.code.length:Int) > s.len\/s.given=2147483647)->St w0 w2 (L.bl q s++((n4,Cs (yc t.at_ (.slice sa t.sp.length sc) (.slice ca t.code.length cc)) 41)::H))->q6b true none 0 0 (some ⟨q.cb,0,none⟩) 0 0 (Addr.mk n4 0 none) w2 K:=fun {w2} hc h2=>by
   rw[q4A,qe]
   exact fail (by rw[hpe,if_pos hc]) (by decide) h2
  rw[qg]
  refine⟨fun hlt=>s8t (.inl (by simpa using hlt)) h64,fun hlt=>?_⟩
  have hlt:¬ (t.code.length:Int) > s.len:=by simpa using hlt
  refine⟨s.given,by rw[qa];exact h64.cell (k:=1) rfl,?_⟩
  cases hgv:(s.given==2147483647)with
  | true=>exact s8t (.inr (by simpa using hgv)) h64
  | false=>
   have hgv:s.given≠2147483647:=by simpa using hgv
   have hp0:yn s t=0:=by rw[hpe,if_neg (fun hc=>hc.elim hlt hgv)]
   rw[q4A,qb]
   obtain⟨m,hE⟩:=hE hp0
   exact qI6 hg hn4 hS hB ha.1 ha.2 hL hE hgv0 om h64 (hK hp0)
end Go.Fx.Tryz
namespace Go.Fx.Ch
open Go.Fx.Tryz
set_option linter.all false
def ins(x:Int):List Int->List Int
 | []=>[x]
 | y::l=>if x<=y then x::y::l else y::ins x l
def q3D:List Int->List Int
 | []=>[]
 | x::l=>ins x (q3D l)
theorem q3r(x:Int):∀ l,(ins x l).Perm (x::l)
 | []=>.refl _
 | y::l=>by
  unfold ins
  split
  ·exact .refl _
  ·exact((q3r x l).cons y).trans (List.Perm.swap _ _ _)
theorem q22:∀ l,(q3D l).Perm l
 | []=>.refl _
 | x::l=>(q3r x _).trans ((q22 l).cons x)
theorem q2C(x:Int):∀ l:List Int,l.Pairwise (·<=·)->(ins x l).Pairwise (·<=·)
 | [],_=>by simp[ins]
 | y::l,h=>by
  unfold ins
  have h1:=List.pairwise_cons.1 h
  split
  ·rename_i hxy
   refine List.pairwise_cons.2 ⟨fun z hz=>?_,h⟩
   rcases List.mem_cons.1 hz with rfl | hz
   ·exact hxy
   ·have:=h1.1 z hz;omega
  ·rename_i hxy
   refine List.pairwise_cons.2 ⟨fun z hz=>?_,q2C x l h1.2⟩
   rcases List.mem_cons.1 ((q3r x l).mem_iff.1 hz)with rfl | hz
   ·omega
   ·exact h1.1 z hz
theorem VD:∀ l:List Int,(q3D l).Pairwise (·<=·)
 | []=>List.Pairwise.nil
 | x::l=>q2C x _ (VD l)
theorem Zt(l:List Int):zI l=q3D l:=by
 have h1:(zI l).Perm (q3D l):=(List.mergeSort_perm l _).trans (q22 l).symm
 have hp:(zI l).Pairwise fun x y=>decide (x<=y)=true:=List.pairwise_mergeSort (fun x y z hx hy=>by simp at *;omega) (fun x y=>by simp;omega) l
 exact h1.eq_of_pairwise (fun x y _ _ hx hy=>by simp at hx hy;omega) hp ((VD l).imp fun h=>by simpa using h)
def Qb:qd->List Int->qd
 | s,[]=>s
 | s,id::l=>Qb (forget1 ((lk s.hold id).getD []) s id) l
def qv1:qd->List Int->Bool
 | _,[]=>true
 | s,id::l=>decide (((lk s.hold id).getD []).length<=1)&&qv1 (forget1 ((lk s.hold id).getD []) s id) l
theorem zm.det{s s':qd}{l:List Int}(h:zm s l s'):qv1 s l=true->s'=Qb s l:=by
 induction h with
 | nil=>exact fun _=>rfl
 | @cons s s' id l order ho _ ih=>
  intro hd
  simp only[qv1,Bool.and_eq_true,decide_eq_true_eq]at hd
  have ho':order=(lk s.hold id).getD []:=by
   generalize (lk s.hold id).getD []=m at *
   match m,ho,hd.1 with
   | [],ho,_=>exact List.Perm.eq_nil ho
   | [x],ho,_=>exact List.perm_singleton.1 ho
  subst ho'
  exact ih hd.2
def q6H(s:qd):List Int:=q3D ((s.rows[s.cur]?).getD [])
theorem qiA(s:qd):zM s=q6H s:=Zt _
def qad(s:qd):Bool:=(s.rows.all fun r=>decide (r.length<1000000))&&decide (0<=s.ev)&&decide (s.ev<1099511627776)&&decide (s.items.length<1000000)&&s.table.all fun x=>decide (0<=x)&&decide (x<4294967296)
theorem jN{s:qd}(h:qad s=true):Fit s:=by
 simp only[qad,Bool.and_eq_true,List.all_eq_true,decide_eq_true_eq]at h
 exact⟨h.1.1.1.1,h.1.1.1.2,h.1.1.2,h.1.2,h.2⟩
def evD(n:Nat):Nat->qd->Option (List Int × qd)
 | 0,s=>if qad s&&!(jh s n)then some ([],s)else none
 | m+1,s=>if qad s then if jh s n then(if qv1 (qy s) (q6H (qy s))then
   (evD n m { Qb (qy s) (q6H (qy s))with ev:=(Qb (qy s) (q6H (qy s))).ev+(q6H (qy s)).length }).map fun r=>(q6H (qy s)++r.1,r.2)else none)else some ([],s)else none
theorem q8C{n:Nat}:∀ (m:Nat) (s:qd) (r:List Int × qd),evD n m s=some r->(∀ g,g+r.1.length<1000000->EvR n m g s)/\∀ g s1,yd n s g s1->g=r.1/\s1=r.2
 | 0,s,r,h=>by
  unfold evD at h
  split at h
  ·rename_i hc
   simp only[Bool.and_eq_true,Bool.not_eq_true']at hc
   cases h
   refine⟨fun g hg=>⟨jN hc.1,by simpa using hg,hc.2⟩,fun g s1 he=>?_⟩
   cases he with
   | done=>exact⟨rfl,rfl⟩
   | step hf=>rw[hc.2]at hf;cases hf
  ·cases h
 | m+1,s,r,h=>by
  unfold evD at h
  split at h
  ·rename_i hfit
   split at h
   ·rename_i hfull
    split at h
    ·rename_i hdet
     cases hv:evD n m { Qb (qy s) (q6H (qy s))with ev:=(Qb (qy s) (q6H (qy s))).ev+(q6H (qy s)).length }with
     | none=>rw[hv]at h;cases h
     | some r'=>
      rw[hv]at h
      simp only[Option.map_some,Option.some.injEq]at h
      subst h
      obtain⟨i1,i2⟩:=q8C m _ _ hv
      refine⟨fun g hg=>⟨jN hfit,by simp only[List.length_append]at hg;omega,fun _ s2 hF=>?_⟩,fun g s1 he=>?_⟩
      ·rw[qiA]at hF ⊢
       rw[hF.det hdet]
       exact i1 _ (by simp only[List.length_append]at hg;omega)
      ·cases he with
       | done hf=>rw[hfull]at hf;cases hf
       | step _ hF he2=>
        rw[qiA]at hF he2 ⊢
        rw[hF.det hdet]at he2
        obtain⟨e1,e2⟩:=i2 _ _ he2
        exact⟨by rw[e1],e2⟩
    ·cases h
   ·rename_i hfull
    have hfull:jh s n=false:=by simpa using hfull
    cases h
    refine⟨fun g hg=>⟨jN hfit,by simpa using hg,fun hf=>by rw[hfull]at hf;cases hf⟩,fun g s1 he=>?_⟩
    cases he with
    | done=>exact⟨rfl,rfl⟩
    | step hf=>rw[hfull]at hf;cases hf
  ·cases h
end Go.Fx.Ch
namespace Go.Fx
open Go
variable {P:Program}
theorem qcQ{B:(YT)->YT}{e0:qi}{w1:World}{es:Array MapEntry}(J:List MapEntry->Array Nat->YT)(h0:J [] #[] e0 w1)
  (hover:∀ vis seen e w,Vis es vis [] seen->J vis seen e w->∀ Y,B Y e w)
  (hmore:∀ vis rem seen e w,rem≠[]->Vis es vis rem seen->J vis seen e w->∀ Y:YT,(∀ x e' w',x∈es.toList->x.born ∉ seen.toList->J (vis++[x]) (seen.push x.born) e' w'->Y e' w')->B Y e w):qO B e0 w1:=by
 refine⟨fun n e w=>∃ vis rem seen,n=rem.length/\Vis es vis rem seen/\J vis seen e w,⟨_,[],_,_,rfl,Vis.start es,h0⟩,?_⟩
 rintro n e w ⟨vis,rem,seen,rfl,hv,hj⟩
 by_cases hr:rem=[]
 ·subst hr;exact hover vis seen e w hv hj _
 ·refine hmore vis rem seen e w hr hv hj _ fun x e' w' hx hn hj'=>?_
  obtain⟨rem',hl,hv'⟩:=hv.step hx hn
  exact⟨rem'.length,by omega,_,rem',_,rfl,hv',hj'⟩
end Go.Fx
namespace Go.Fx.Tryz
open Go Go.Fx Go.Fx.Ch
open Go.Proofs
set_option linter.all false
set_option maxRecDepth 20000
variable {w0 w:World} {H X G:qE} {K:KT} {s:qd} {L:qQ} {q:LB}
theorem q96{K:Type}{enc:K->Value}(hinj:∀ a b,enc a=enc b->a=b){es:Array MapEntry}{clk:Nat}{m:List (K × Value)}(h:MapIs enc es clk m){vis:List MapEntry}{seen:Array Nat}(hv:Vis es vis [] seen){ks:List K}(ho:vis.map (·.key)=ks.map enc):ks.Perm (m.map (·.1)):=by
 have h1:(vis.map (·.key)).Perm (es.toList.map (·.key)):=by
  have:=hv.perm
  rw[List.append_nil]at this
  exact(this.map _).symm
 rw[ho]at h1
 have h2:(es.toList.map (·.key)).Perm ((m.map (·.1)).map enc):=by
  have:=h.perm.map (·.1)
  rw[List.map_map,List.map_map]at this
  rw[List.map_map]
  exact this
 exact vt hinj (h1.trans h2)
theorem qiP{es:Array MapEntry}{vis rem:List MapEntry}{seen:Array Nat}(hv:Vis es vis rem seen):vis.length+rem.length=es.size:=by
 have:=hv.perm.length_eq
 rw[List.length_append]at this
 simpa using this.symm
theorem zT.entry{es:Array MapEntry}{clk:Nat}{items:List (Int × TR)}(h:zT G es clk items){e:MapEntry}(he:e∈es.toList):∃ id:Int,e.key=U id/\q0j G e.val (qj items id)/\(lk items id).isSome=true:=by
 obtain⟨m,h1,h2⟩:=h
 obtain⟨p,hp,hk,hv⟩:=h1.pair' he
 refine⟨p.1,hk,?_⟩
 have hl:jw m p.1=some p.2:=(q3g h1.nodup).2 hp
 rcases h2.lk p.1 with⟨e1,_⟩ | ⟨v,t,e1,e2,e3⟩
 ·rw[vH,e1]at hl;cases hl
 ·rw[vH,e1]at hl
  cases hl
  rw[hv,e2]
  unfold qj
  rw[e2]
  exact⟨e3,rfl⟩
def vN(s:qd)(r:SP)(id:Int):Bool:=(qj s.items id).sp.any (q2O r)
def jY(s:qd)(r:SP):List Int:=zI ((s.items.map (·.1)).filter (vN s r))
theorem qmS{r:SP}(h:St w0 w (L.bl q s++H))(hL:L.Ok w0 q s)(hg:zD H)(hn:s.items.length<1000000)(hd0:0<=s.dr)(hd1:s.dr<1099511627776)
  (hK:∀ (w':World) (L':qQ) (s':qd) (ov:Value) (N:qE),zm s (jY s r) s'->L'.Ok w0 q { s' with dr:=s'.dr+(jY s r).length }->zu 1 24 ov (jY s r).length ((jY s r).map U) N->qF w0 N->
   St w0 w' (N++(L'.bl q { s' with dr:=s'.dr+(jY s r).length }++H))->K ov w') :
  q9 P 20 [.pointer (some ⟨q.cb,0,none⟩),.agg (QK r).toArray] w K:=by
 refine qEI _ _ _ _ ?_
 rw[qHd]
 refine h.newC fun n2 w3 hn2 h3=>?_
 have h3:St w0 w3 ((n2,Cs (QK r) 36)::(L.bl q s++H)):=h3
 have h4:St w0 w3 (L.bl q s++((n2,Cs (QK r) 36)::H)):=h3.perm (qm fun c=>by simp only[List.map_append,List.map_cons,List.sum_append,List.sum_cons];omega)
 refine QQ h4 ⟨_,rfl,?_⟩
 simp only[qb]
 rw[qpk]
 refine⟨some q.ib,by rw[qa];exact h4.cell (k:=1) rfl,_,_,ZI (by kernel_rfl:P.underlying 105=some (.map 24 41)) (h4.get (k:=2) rfl),?_⟩
 have hit:=h4.le
 have h5:=h4.alloc (.mapIter (some q.ib) L.iclk #[] L.iclk)
 generalize w3.heap.size=it at hit h5
 obtain⟨m,hm,hlike⟩:=hL.its
 have hsz:L.ies.size=s.items.length:=by rw[hm.size,hlike.length]
 have hkeys:m.map (·.1)=s.items.map (·.1):=yN.keys hlike
 refine qcQ (es:=L.ies) (fun vis seen e w'=>∃ (ks:List Int) (ga:Option Addr) (gc:Nat) (N:qE),vis.map (·.key)=ks.map qyW/\e=qi.mk 41 [(5,.slice ga (ks.filter (vN s r)).length gc),(3,.pointer (some (Addr.mk n2 0 none))),(14,.pointer (some (Addr.mk it 0 none))),(4,.slice none 0 0),(0,.pointer (some ⟨q.cb,0,none⟩))] []/\
  zu 1 24 (.slice ga (ks.filter (vN s r)).length gc) (ks.filter (vN s r)).length ((ks.filter (vN s r)).map U) N/\qF w0 N/\St w0 w' ((it,.mapIter (some q.ib) L.iclk seen L.iclk)::(L.bl q s++(N++((n2,Cs (QK r) 36)::H)))))
  ⟨[],none,0,[],rfl,rfl,zu.nil 1 24,qF.nil _,h5⟩ ?_ ?_
 ·rintro vis seen e w1 hv ⟨ks,ga,gc,N,hks,rfl,hS,hN,hs⟩ Y
  show q6y ..
  rw[q2b]
  refine .inl ⟨w1,j9 (hs.get (k:=0) rfl) (hs.get (k:=3) rfl) hm.st hv.over,?_⟩
  rw[qoZ]
  have hperm:ks.Perm (s.items.map (·.1)):=by rw[<-hkeys];exact q96 (fun a b h=>by injection h) hm hv hks
  have hso:zI (ks.filter (vN s r))=jY s r:=zS (hperm.filter _)
  have hfl:(ks.filter (vN s r)).length<1000000:=by
   have h1:=List.length_filter_le (vN s r) ks
   have h2:=hperm.length_eq
   rw[List.length_map]at h2
   omega
  have hs1:=hs.tail hit
  have hg2:zD (N++((n2,Cs (QK r) 36)::H)):=hg.mono fun u hu=>List.mem_append_right _ (.tail _ hu)
  refine Jr q5P hs1 hL hg2 (fun w' h'=>hS.row fun u hu=>h'.has _ _ (List.mem_append_right _ (List.mem_append_left _ hu))) hfl fun w26 L' s' ov M hF hL' hSl hM h26=>?_
  rw[hso]at hF hSl
  obtain⟨la,lc,e⟩:=hSl.form
  subst e
  have hdl:(jY s r).length<1000000:=by rw[<-hso,yH];exact hfl
  have hdr:s'.dr=s.dr:=hF.conf.2.2.2.2.2.1
  have h27:St w0 w26 (L'.bl q s'++(M++(N++((n2,Cs (QK r) 36)::H)))):=h26.perm (qm fun c=>by simp only[List.map_append,List.map_cons,List.sum_append,List.sum_cons];omega)
  refine⟨_,_,_,rfl,s'.dr,by rw[qa];exact h27.cell (k:=1) rfl,?_⟩
  show zX ((Addr.mk q.cb 0 none).add 10) _ _ _
  rw[qa,qc om om]
  refine h27.st1 (k:=1) rfl (by simp[CCs]) rfl fun w31 h31=>?_
  have h32:St w0 w31 (L'.bl q { s' with dr:=s'.dr+(jY s r).length }++(M++(N++((n2,Cs (QK r) 36)::H)))):=h31
  have h33:St w0 w31 (N++((n2,Cs (QK r) 36)::(M++(L'.bl q { s' with dr:=s'.dr+(jY s r).length }++H)))):=h32.perm (qm fun c=>by simp only[List.map_append,List.map_cons,List.sum_append,List.sum_cons];omega)
  exact hK w31 L' s' _ M hF (hL'.setDr _) hSl hM ((h33.sub hN).tail hn2)
 ·rintro vis rem seen e w1 hr hv ⟨ks,ga,gc,N,hks,rfl,hS,hN,hs⟩ Y hY
  show q6y ..
  rw[q2b]
  obtain⟨x,w2,he,hnb,hw2,hk2,hrun⟩:=je (P:=P) (hs.get (k:=0) rfl) (hs.get (k:=3) rfl) hm.st (hv.more hm.st hr)
  have h3:St w0 (w2.putObj it (.mapIter (some q.ib) L.iclk (seen.push x.born) L.iclk)) ((it,.mapIter (some q.ib) L.iclk (seen.push x.born) L.iclk)::(L.bl q s++(N++((n2,Cs (QK r) 36)::H)))):=(hs.same hw2 hk2).put (k:=0) rfl _
  obtain⟨id,hek,hv',_⟩:=hL.its.entry he
  obtain⟨⟨sv,cv,hva,hSp,hBp⟩,_,_⟩:=hv'
  refine .inr ⟨_,_,_,hrun,?_⟩
  rw[qoT]
  refine⟨x.key,x.val,_,ZJ (h3.get (k:=0) rfl) (h3.get (k:=3) rfl) (by simp) (ZO hm.st he),id,hek,_,hva,?_⟩
  generalize hti:qj s.items id=t at *
  obtain⟨sa,sc,e1⟩:=((hSp.spans (w0:=w0) (H:=L.bl q s++H) fun u hu=>List.mem_append_left _ (L.G_mem q s u hu)).row w h).form
  obtain⟨ca,cc,e2⟩:=((hBp.bytes (w0:=w0) (H:=L.bl q s++H) fun u hu=>List.mem_append_left _ (L.G_mem q s u hu)).row w h).form
  subst e1;subst e2
  rw[Q5]
  refine h3.newC fun n42 w43 hn42 h43=>h43.stA (k:=0) rfl rfl (by simp) (by simp[yc,Value.oneCell']) fun w44 h44=>?_
  have h44:St w0 w44 ((n42,Cs (yc t.at_ (.slice sa t.sp.length sc) (.slice ca t.code.length cc)) 41)::(it,.mapIter (some q.ib) L.iclk (seen.push x.born) L.iclk)::(L.bl q s++(N++((n2,Cs (QK r) 36)::H)))):=h44
  refine⟨sa,t.sp.length,sc,by rw[qa];exact h44.cell (k:=0) rfl,?_⟩
  have hm2:(n2,Cs (QK r) 36)∈((n42,Cs (yc t.at_ (.slice sa t.sp.length sc) (.slice ca t.code.length cc)) 41)::(it,.mapIter (some q.ib) L.iclk (seen.push x.born) L.iclk)::(L.bl q s++(N++((n2,Cs (QK r) 36)::H)))):=.tail _ (.tail _ (List.mem_append_right _ (List.mem_append_right _ (.head _))))
  refine Yq (l:=t.sp) h44 (hSp.spans fun u hu=>.tail _ (.tail _ (List.mem_append_left _ (L.G_mem q s u hu)))) (qFJ (t:=36) hm2) fun w47 h47=>⟨_,rfl,?_⟩
  have h48:=h47.tail hn42
  have hkl:ks.length+1<=s.items.length:=by
   have h1:=qiP hv
   have h2:=congrArg List.length hks
   have h5:0<rem.length:=List.length_pos_iff.2 hr
   rw[List.length_map,List.length_map]at h2
   omega
  have hfk:(ks.filter (vN s r)).length<=ks.length:=List.length_filter_le _ _
  have hmb:t.sp.any (fun e=>q2O r e)=vN s r id:=by unfold vN;rw[hti]
  rw[hmb,qg]
  refine⟨fun hb=>?_,fun hb=>?_⟩
  ·refine⟨⟨rfl,trivial⟩,h48.newC fun n52 w50 hn52 h50=>?_⟩
   have h51:St w0 w50 ([(n52,Cs [U id] 24)]++(N++((it,.mapIter (some q.ib) L.iclk (seen.push x.born) L.iclk)::(L.bl q s++((n2,Cs (QK r) 36)::H))))):=by
    have h50:St w0 w50 ((n52,Cs [U id] 24)::(it,.mapIter (some q.ib) L.iclk (seen.push x.born) L.iclk)::(L.bl q s++(N++((n2,Cs (QK r) 36)::H)))):=h50
    exact h50.perm (qm fun c=>by simp only[List.map_append,List.map_cons,List.map_nil,List.sum_append,List.sum_cons,List.sum_nil];omega)
   obtain⟨g,cap,w54,N',hrun2,hX,h54,hXN⟩:=St.append (P:=P) 22 22 24 Tryz.t24 (U 0) 1 4 Tryz.underlying22 kr rfl rfl rfl rfl om (A:=[(n52,Cs [U id] 24)]) (news:=[U id]) h51 hS hN (j:=0) rfl rfl (fun u hu=>by rw[List.mem_singleton.1 hu];rfl) (by simp[maxLen];omega) om
   refine⟨_,_,_,w54,hrun2,?_⟩
   have hfe:(ks++[id]).filter (vN s r)=ks.filter (vN s r)++[id]:=by rw[List.filter_append,List.filter_cons,if_pos hb,List.filter_nil]
   have hfel:((ks++[id]).filter (vN s r)).length=(ks.filter (vN s r)).length+1:=by rw[hfe];simp
   refine hY x _ w54 he hnb ⟨ks++[id],some ⟨g,0,none⟩,cap,N',by rw[List.map_append,hks];simp[hek],by rw[hfel],by rw[hfel,hfe,List.map_append];exact hX,hXN,?_⟩
   have h55:St w0 w54 ((n52,Cs [U id] 24)::(it,.mapIter (some q.ib) L.iclk (seen.push x.born) L.iclk)::(L.bl q s++(N'++((n2,Cs (QK r) 36)::H)))):=h54.perm (qm fun c=>by simp only[List.map_append,List.map_cons,List.map_nil,List.sum_append,List.sum_cons,List.sum_nil];omega)
   exact h55.tail hn52
  ·have hfe:(ks++[id]).filter (vN s r)=ks.filter (vN s r):=by rw[List.filter_append,List.filter_cons,if_neg (by rw[hb];decide),List.filter_nil,List.append_nil]
   exact hY x _ w47 he hnb ⟨ks++[id],ga,gc,N,by rw[List.map_append,hks];simp[hek],by rw[hfe],by rw[hfe];exact hS,hN,h48⟩
theorem qvm(h:St w0 w (L.bl q s++H))(hL:L.Ok w0 q s)(hg:zD H)(hn:s.items.length<1000000)(hd0:0<=s.dr)(hd1:s.dr<1099511627776)
  (hK:∀ (w':World) (L':qQ) (s':qd),zm s (vq s) s'->L'.Ok w0 q { s' with dr:=s'.dr+(vq s).length }->St w0 w' (L'.bl q { s' with dr:=s'.dr+(vq s).length }++H)->K (.tuple [].toArray) w') :
  q9 P 31 [.pointer (some ⟨q.cb,0,none⟩)] w K:=by
 refine qFL _ _ _ ?_
 rw[qFv]
 refine QQ h ⟨_,rfl,?_⟩
 simp only[Bool.not_false,qe]
 refine⟨s.dr,by rw[qa];exact h.cell (k:=1) rfl,?_⟩
 refine qAy h.drew hL hn fun w7 ov N hS hN h7=>?_
 obtain⟨a,c,e⟩:=hS.form
 subst e
 have h8:St w0 w7 (L.bl q s++(N++H)):=h7.perm (qm fun c=>by simp only[List.map_append,List.sum_append];omega)
 refine⟨_,_,_,rfl,by rw[qa];exact h8.cell (k:=1) rfl,?_⟩
 have hll:(vq s).length<1000000:=by unfold vq;rw[yH,List.length_map];exact hn
 have hss:zI (vq s)=vq s:=zS (List.mergeSort_perm _ _)
 refine Jr q5P h8 hL (hg.mono fun u hu=>List.mem_append_right _ hu) (fun w' h'=>hS.row fun u hu=>h'.has _ _ (List.mem_append_right _ (List.mem_append_left _ hu))) hll fun w10 L' s' ov2 M hF hL' hS2 hM h10=>?_
 rw[hss]at hF hS2
 obtain⟨a2,c2,e⟩:=hS2.form
 subst e
 have hdr:s'.dr=s.dr:=hF.conf.2.2.2.2.2.1
 have h11:St w0 w10 (L'.bl q s'++(M++(N++H))):=h10.perm (qm fun c=>by simp only[List.map_append,List.sum_append];omega)
 refine⟨_,_,_,rfl,by rw[qa,<-hdr];exact h11.cell (k:=1) rfl,?_⟩
 show zX ((Addr.mk q.cb 0 none).add 10) _ _ _
 rw[qa,qc om om]
 refine h11.st1 (k:=1) rfl (by simp[CCs]) rfl fun w13 h13=>?_
 have h14:St w0 w13 (L'.bl q { s' with dr:=s'.dr+(vq s).length }++(M++(N++H))):=by rw[hdr];exact h13
 have h15:St w0 w13 (M++(N++(L'.bl q { s' with dr:=s'.dr+(vq s).length }++H))):=h14.perm (qm fun c=>by simp only[List.map_append,List.sum_append];omega)
 exact hK w13 L' s' hF (hL'.setDr _) ((h15.sub hM).sub hN)
end Go.Fx.Tryz
namespace Go.Fx.Ch
def vK(s:qd)(c:Int):Int:=(((lk s.hold c).getD []).length:Int)
def yC(s:qd):Int:=((s.hold.map (·.1)).map (vK s)).sum
def vR(s:qd):Int:=((List.range s.rows.length).map (zt s)).sum
end Go.Fx.Ch
namespace Go.Fx.Tryz
open Go Go.Fx Go.Fx.Ch
open Go.Proofs
set_option linter.all false
set_option maxRecDepth 20000
variable {w0 w:World} {H X G:qE} {K:KT} {s:qd} {L:qQ} {q:LB}
theorem qvq{a b:List Int}(h:a.Perm b):a.sum=b.sum:=by
 induction h with
 | nil=>rfl
 | cons x _ ih=>simp only[List.sum_cons,ih]
 | swap x y l=>simp only[List.sum_cons];omega
 | trans _ _ h1 h2=>exact h1.trans h2
theorem q4n{f:Int->Int}{B:Int}(h0:∀ x,0<=f x)(h1:∀ x,f x<=B):∀ l:List Int,0<=(l.map f).sum/\(l.map f).sum<=l.length*B
 | []=>by simp
 | x::l=>by
  obtain⟨a,b⟩:=q4n h0 h1 l
  have:=h0 x
  have:=h1 x
  simp only[List.map_cons,List.sum_cons,List.length_cons]
  have e:((l.length+1:Nat):Int)*B=l.length*B+B:=by rw[Int.natCast_add,Int.add_mul];simp
  rw[e]
  omega
theorem q1k{f:Nat->Int}{B:Int}(h0:∀ x,0<=f x)(h1:∀ x,f x<=B):∀ l:List Nat,0<=(l.map f).sum/\(l.map f).sum<=l.length*B
 | []=>by simp
 | x::l=>by
  obtain⟨a,b⟩:=q1k h0 h1 l
  have:=h0 x
  have:=h1 x
  simp only[List.map_cons,List.sum_cons,List.length_cons]
  have e:((l.length+1:Nat):Int)*B=l.length*B+B:=by rw[Int.natCast_add,Int.add_mul];simp
  rw[e]
  omega
theorem qbb:qx P 47=#[J 0,J 0,J 0,J 0,J 0]:=kr
theorem qze(a b c:Int)(wq:World):(Instr.build 47 [(0,J a),(3,J b),(4,J c)].toArray).run P wq=.ok (.agg #[J a,J 0,J 0,J b,J c]) wq:=kr
theorem qQ.Ok.entryH(hL:L.Ok w0 q s){e:MapEntry}(he:e∈L.hes.toList):∃ h∈L.hl,e.key=U h.key/\e.val=.map (some h.b)/\(lk s.hold h.key).getD []=h.l:=by
 obtain⟨p,hp,hk,hv⟩:=hL.hm.pair' he
 obtain⟨h,hh,rfl⟩:=List.mem_map.1 hp
 refine⟨h,hh,hk,hv,?_⟩
 obtain⟨a,b,e0⟩:=List.append_of_mem hh
 obtain⟨ha,hb⟩:=hL.keys e0
 rw[hL.hs,e0]
 simp only[List.map_append,List.map_cons]
 rw[q68 (fun p hp=>by
  obtain⟨x,hx,rfl⟩:=List.mem_map.1 hp
  exact ha x hx)]
 rfl
theorem q63(h:St w0 w (L.bl q s++H))(hL:L.Ok w0 q s)(hr:∀ r∈s.rows,r.length<1000000)(hh1:s.hold.length<1000000)(hh2:∀ c,vK s c<=1000000)
  (hK:∀ w',St w0 w' (L.bl q s++H)->K (.agg #[J s.items.length,J (vR s),J (yC s),J s.ev,J s.dr]) w'):q9 P 23 [.pointer (some ⟨q.cb,0,none⟩)] w K:=by
 refine qI4 _ _ _ ?_
 rw[qHF,qbb]
 refine h.newC fun n1 w2 hn1 h2=>?_
 have h2:St w0 w2 ((n1,Cs [J 0,J 0,J 0,J 0,J 0] 47)::(L.bl q s++H)):=h2
 have h3:St w0 w2 (L.bl q s++((n1,Cs [J 0,J 0,J 0,J 0,J 0] 47)::H)):=h2.perm (qm fun c=>by simp only[List.map_append,List.map_cons,List.sum_append,List.sum_cons];omega)
 refine QQ h3 ⟨_,rfl,?_⟩
 simp only[qb]
 rw[qou]
 have h4:=h3.drew
 refine⟨some q.ib,by rw[qa];exact h4.cell (k:=1) rfl,s.items.length,fun wq hx=>hL.its.len (Jt hx (h4.get (k:=2) rfl)),s.ev,by rw[qa];exact h4.cell (k:=1) rfl,s.dr,by rw[qa];exact h4.cell (k:=1) rfl,_,qze _ _ _,?_⟩
 rw[qbb]
 refine h2.drew.newC fun n19 w20 hn19 h20=>h20.stA (k:=0) rfl rfl (by simp) (by simp[Value.oneCell']) fun w21 h21=>?_
 have h21:St w0 w21 ((n19,Cs [J s.items.length,J 0,J 0,J s.ev,J s.dr] 47)::(n1,Cs [J 0,J 0,J 0,J 0,J 0] 47)::(L.bl q s++H)):=h21
 rw[qpn]
 refine⟨some ⟨q.rb,0,none⟩,s.rows.length,s.rows.length,by rw[qa];exact h21.cell (k:=3) rfl,?_⟩
 have hcode:=hL.codeLen h
 have hfill:∀ i,0<=zt s i/\zt s i<=1000000000000:=fun i=>by
  unfold zt
  have hb:=yQ hcode ((s.rows[i]?).getD [])
  have hl:((s.rows[i]?).getD []).length<1000000:=by
   cases hi:s.rows[i]? with
   | none=>decide
   | some r=>exact hr r (List.mem_of_getElem? hi)
  unfold qR at hb
  omega
 have hrl:=hL.rl
 have hps:∀ j,j<=s.rows.length->0<=((List.range j).map (zt s)).sum/\((List.range j).map (zt s)).sum<=1000000000000000000:=fun j hj=>by
  have:=q1k (f:=zt s) (B:=1000000000000) (fun x=>(hfill x).1) (fun x=>(hfill x).2) (List.range j)
  rw[List.length_range]at this
  omega
 refine⟨fun m e' w'=>∃ j:Nat,j<=s.rows.length/\m=s.rows.length-j/\e'=qi.mk 56 [(29,J j),(3,.pointer (some (Addr.mk n19 0 none))),(0,.pointer (some ⟨q.cb,0,none⟩)),(2,.pointer (some (Addr.mk n1 0 none))),(28,J s.rows.length)] []/\
  St w0 w' ((n19,Cs [J s.items.length,J ((List.range j).map (zt s)).sum,J 0,J s.ev,J s.dr] 47)::(n1,Cs [J 0,J 0,J 0,J 0,J 0] 47)::(L.bl q s++H)),⟨_,0,by omega,rfl,rfl,h21⟩,?_⟩
 rintro m e' w' ⟨j,hj,rfl,rfl,hs⟩
 show qmB ..
 rw[qde,qg]
 refine⟨fun hlt=>?_,fun hge=>?_⟩
 ·have hlt:j<s.rows.length:=by have:=of_decide_eq_true hlt;omega
  rw[qoh]
  have h1:=hs.drew
  refine⟨_,by rw[qa];exact h1.cell (k:=0) rfl,?_⟩
  have h1':St w0 w'.drew (L.bl q s++((n19,Cs [J s.items.length,J ((List.range j).map (zt s)).sum,J 0,J s.ev,J s.dr] 47)::(n1,Cs [J 0,J 0,J 0,J 0,J 0] 47)::H)):=h1.perm (qm fun c=>by simp only[List.map_append,List.map_cons,List.sum_append,List.sum_cons];omega)
  refine q3X h1' hL hlt (by have:=hr _ (List.getElem_mem hlt);omega) fun w39 h39=>⟨_,rfl,?_⟩
  have h40:St w0 w39 ((n19,Cs [J s.items.length,J ((List.range j).map (zt s)).sum,J 0,J s.ev,J s.dr] 47)::(n1,Cs [J 0,J 0,J 0,J 0,J 0] 47)::(L.bl q s++H)):=h39.perm (qm fun c=>by simp only[List.map_append,List.map_cons,List.sum_append,List.sum_cons];omega)
  refine⟨by rw[qa];exact h40.cell (k:=0) rfl,?_⟩
  have hst:((List.range (j+1)).map (zt s)).sum=((List.range j).map (zt s)).sum+zt s j:=by
   rw[List.range_succ,List.map_append,List.sum_append]
   show _+(_+0)=_
   rw[Int.add_zero]
  have b1:=hps j hj
  have b2:=hps (j+1) hlt
  rw[qa,qc om om,<-hst]
  refine h40.st1 (k:=0) rfl (by simp) rfl fun w41 h41=>?_
  rw[qqx]
  exact⟨s.rows.length-(j+1),by omega,j+1,by omega,rfl,by rw[qc om om];rfl,h41⟩
 ·have:j=s.rows.length:=by have:=of_decide_eq_false hge;omega
  subst this
  rw[qqn]
  have hb:((List.range s.rows.length).map (zt s)).sum=vR s:=rfl
  rw[hb]at hs
  refine⟨some q.hb,by rw[qa];exact hs.cell (k:=3) rfl,_,_,ZI qBI (hs.get (k:=5) rfl),?_⟩
  have hit:=hs.le
  have h5:=hs.alloc (.mapIter (some q.hb) L.hclk #[] L.hclk)
  generalize w'.heap.size=it at hit h5
  refine Yv (es:=L.hes) (fun vis seen w1=>∃ ks:List Int,vis.map (·.key)=ks.map qyW/\St w0 w1 ((it,.mapIter (some q.hb) L.hclk seen L.hclk)::(n19,Cs [J s.items.length,J (vR s),J (ks.map (vK s)).sum,J s.ev,J s.dr] 47)::(n1,Cs [J 0,J 0,J 0,J 0,J 0] 47)::(L.bl q s++H)))
   ⟨[],rfl,h5⟩ ?_ ?_
  ·rintro vis seen w1 hv ⟨ks,hks,hs1⟩ Y
   show q6d ..
   rw[q2J]
   refine .inl ⟨w1,j9 (hs1.get (k:=0) rfl) (hs1.get (k:=6) rfl) hL.hm.st hv.over,?_⟩
   rw[qpO]
   have hperm:ks.Perm (s.hold.map (·.1)):=by
    have:=q96 (fun a b h=>by injection h) hL.hm hv hks
    rw[List.map_map]at this
    rw[hL.hs,List.map_map]
    exact this
   have hsum:(ks.map (vK s)).sum=yC s:=qvq (hperm.map _)
   rw[hsum]at hs1
   refine hs1.ldA (k:=1) rfl (by simp) ?_
   refine hs1.stA (k:=2) rfl rfl (by simp) (by simp[Value.oneCell']) fun w64 h64=>h64.ldA (k:=2) rfl (by simp[zw]) ?_
   exact hK w64 (((h64.tail hit).tail hn19).tail hn1)
  ·rintro vis rem seen w1 hrr hv ⟨ks,hks,hs1⟩ Y hY
   show q6d ..
   rw[q2J]
   obtain⟨x,w2,he,hnb,hw2,hk2,hrun⟩:=je (P:=P) (hs1.get (k:=0) rfl) (hs1.get (k:=6) rfl) hL.hm.st (hv.more hL.hm.st hrr)
   have h3:=(hs1.same hw2 hk2).put (k:=0) rfl (.mapIter (some q.hb) L.hclk (seen.push x.born) L.hclk)
   obtain⟨hh,hmem,hek,hev,hll⟩:=hL.entryH he
   refine .inr ⟨_,_,_,hrun,?_⟩
   rw[qod]
   have hbm:hh.blk∈((it,Obj.mapIter (some q.hb) L.hclk (seen.push x.born) L.hclk)::(n19,Cs [J s.items.length,J (vR s),J (ks.map (vK s)).sum,J s.ev,J s.dr] 47)::(n1,Cs [J 0,J 0,J 0,J 0,J 0] 47)::(L.bl q s++H)):=
    .tail _ (.tail _ (.tail _ (List.mem_append_left _ (.tail _ (.tail _ (.tail _ (.tail _ (.tail _ (List.mem_append_right _ (List.mem_append_left _ (List.mem_map.2 ⟨hh,hmem,rfl⟩)))))))))))
   have hlen:((vC hh.l).length:Int)=vK s hh.key:=by unfold vK;rw[hll];simp[vC]
   refine⟨x.key,x.val,_,ZJ (h3.get (k:=0) rfl) (h3.get (k:=6) rfl) (by simp) (ZO hL.hm.st he),some hh.b,hev,_,by rw[qa];exact h3.cell (k:=1) rfl,vK s hh.key,fun wq hx=>by rw[<-hlen];exact(hL.inn hh hmem).len (Jt hx (h3.has _ _ hbm)) q9i _,?_⟩
   have hkl:ks.length+1<=s.hold.length:=by
    have h1:=qiP hv
    have h2:=congrArg List.length hks
    have h5:0<rem.length:=List.length_pos_iff.2 hrr
    rw[List.length_map,List.length_map]at h2
    have h6:=hL.hm.size
    rw[List.length_map]at h6
    rw[hL.hs,List.length_map]
    omega
   have h0:∀ c,0<=vK s c:=fun c=>by unfold vK;omega
   have b1:=q4n h0 hh2 ks
   have b2:=hh2 hh.key
   have b3:=h0 hh.key
   have hst:((ks++[hh.key]).map (vK s)).sum=(ks.map (vK s)).sum+vK s hh.key:=by
    rw[List.map_append,List.sum_append]
    show _+(_+0)=_
    rw[Int.add_zero]
   rw[qa,qc om om,<-hst]
   refine h3.st1 (k:=1) rfl (by simp) rfl fun w75 h75=>?_
   exact hY x w75 he hnb ⟨ks++[hh.key],by rw[List.map_append,hks];simp[hek],h75⟩
end Go.Fx.Tryz
namespace Go.Fx.Tryz
set_option maxRecDepth 100000
open Go Go.Fx Go.Proofs
def qGn:=ql Tryz.f117
def qJl:=Tryz.f117.results.toList
abbrev qkz K:=qr P qJl K
def f117 a w K:=CS P qGn none [2] [2] (qkz K) (qz 9 [(VI a)]) w
def q6U a w K:=SG qGn 7 [2] [2] (qkz K) 9 [(2,VB a)] w
theorem qhF:q6U a w K=(K (Value.bool a) w):=kr
theorem qxm:f117 a w K=(qo (a==40) (q6U true w K) (q6U (a==41) w K)):=kr
theorem qxR a w K(h:f117 a w K):q9 P 117 [(Value.int .i64 a)] w K:=qA qGn Tryz.func117 h
def qIT:=ql Tryz.f118
def qKy:=Tryz.f118.results.toList
abbrev qyJ K:=qr P qKy K
def f118 a w K:=CS P qIT none [2] [2] (qyJ K) (qz 5 [(Value.agg a)]) w
theorem qyv:f118 a w K=(qu a 119 w (fun d b=>qS 15 (Addr.mk d 0 none) b (fun e=>q9 P 157 [(Value.agg e),(Value.int .i64 12),(Value.int .i64 6)] b (fun f g=>∃ c:Bool,f=(.bool c)/\K (Value.bool c) g)))):=kr
theorem qBr a w K(h:f118 a w K):q9 P 118 [(Value.agg a)] w K:=qA qIT Tryz.func118 h
def Q6:=ql Tryz.f119
def qKC:=Tryz.f119.results.toList
abbrev Qk K:=qr P qKC K
def f119 a w K:=CS P Q6 none [2,3] [2,3] (Qk K) (qz 121 [(VI a)]) w
def qnw a w K:=SC Q6 1 [2,3] [2,3] (Qk K) 121 [(0,VI a)] w
abbrev qCS K:=kq Q6 1 [2,3] [2,3] (Qk K)
def qn2 a b w K:=SC Q6 3 [2,3] [2,3] (Qk K) 121 [(3,VB false),(2,VQ a),(0,VI b)] w
abbrev Ve K:=kq Q6 3 [2,3] [2,3] (Qk K)
abbrev qxe K:=kq Q6 6 [2] [2,3] (Ve K)
def qlH a b c w K:=SC Q6 13 [2] [2,3] (Ve K) 121 [(4,VI a),(3,VB false),(2,VQ b),(0,VI c)] w
abbrev vz K:=qp 0 (Ve K)
abbrev qxK K:=kq Q6 26 [2] [2,3] (vz K)
def q6M a b c w K:=SG Q6 226492415 [2] [2,3] (vz K) 121 [(38,VB a),(2,VQ b),(4,VI c)] w
def q5k a b c w K:=SG Q6 905969663 [2] [2,3] (vz K) 121 [(42,VB a),(2,VQ b),(4,VI c)] w
def q5C a b c w K:=SG Q6 14843406974975 [2] [2,3] (vz K) 121 [(64,VB a),(2,VQ b),(4,VI c)] w
def q5u a b c w K:=SG Q6 59373627899903 [2] [2,3] (vz K) 121 [(68,VB a),(2,VQ b),(4,VI c)] w
def q0U a b c w K:=SG Q6 237494511599615 [2] [2,3] (vz K) 121 [(72,VB a),(2,VQ b),(4,VI c)] w
def q6N a b c w K:=SG Q6 949978046398463 [2] [2,3] (vz K) 121 [(77,VB a),(2,VQ b),(4,VI c)] w
def q5t a b c w K:=SG Q6 3799912185593855 [2] [2,3] (vz K) 121 [(81,VB a),(2,VQ b),(4,VI c)] w
def q2Y a b c w K:=SG Q6 15199648742375423 [2] [2,3] (vz K) 121 [(85,VB a),(2,VQ b),(4,VI c)] w
def q2Z a b c w K:=SG Q6 972777519512027135 [2] [2,3] (vz K) 121 [(95,VB a),(2,VQ b),(4,VI c)] w
def qtj a w K:=SG Q6 7 [2,3] [2,3] (Qk K) 121 [(2,VQ a)] w
theorem qaX:q2Z d a c w K=(qo d (∃ e:Array Value,(∀ wq,(Instr.build 172 #[(4,(Value.int .i64 1)),(7,(Value.bool true))]).run P wq=.ok (.agg e) wq)/\zW 11 a e w (fun f=>qS 11 a f (fun u=>K (Value.tuple #[(Value.agg u),(Value.bool true)]) f))) (qo (c==36) (∃ g:Array Value,(∀ wq,(Instr.build 172 #[(0,(Value.bool true)),(3,(Value.int .i64 1))]).run P wq=.ok (.agg g) wq)/\zW 11 a g w (fun h=>qS 11 a h (fun v=>K (Value.tuple #[(Value.agg v),(Value.bool true)]) h))) (qo (c==37) (∃ i:Array Value,(∀ wq,(Instr.build 172 #[(4,(Value.int .i64 1)),(7,(Value.bool true)),(8,(Value.bool true))]).run P wq=.ok (.agg i) wq)/\zW 11 a i w (fun j=>qS 11 a j (fun x=>K (Value.tuple #[(Value.agg x),(Value.bool true)]) j))) (qo (c==38) (∃ k:Array Value,(∀ wq,(Instr.build 172 #[(7,(Value.bool true)),(8,(Value.bool true))]).run P wq=.ok (.agg k) wq)/\zW 11 a k w (fun l=>qS 11 a l (fun y=>K (Value.tuple #[(Value.agg y),(Value.bool true)]) l))) (qo (c==39) (∃ m:Array Value,(∀ wq,(Instr.build 172 #[(4,(Value.int .i64 1)),(7,(Value.bool true)),(8,(Value.bool true)),(9,(Value.bool true))]).run P wq=.ok (.agg m) wq)/\zW 11 a m w (fun n=>qS 11 a n (fun z=>K (Value.tuple #[(Value.agg z),(Value.bool true)]) n))) (qo (c==40) (∃ o:Array Value,(∀ wq,(Instr.build 172 #[(7,(Value.bool true)),(8,(Value.bool true)),(9,(Value.bool true))]).run P wq=.ok (.agg o) wq)/\zW 11 a o w (fun p=>qS 11 a p (fun a0=>K (Value.tuple #[(Value.agg a0),(Value.bool true)]) p))) (qo (c==41) (∃ q:Array Value,(∀ wq,(Instr.build 172 #[(4,(Value.int .i64 1)),(7,(Value.bool true))]).run P wq=.ok (.agg q) wq)/\zW 11 a q w (fun r=>qS 11 a r (fun b0=>K (Value.tuple #[(Value.agg b0),(Value.bool true)]) r))) (qo (c==43) (∃ s:Array Value,(∀ wq,(Instr.build 172 #[(3,(Value.int .i64 1)),(7,(Value.bool true))]).run P wq=.ok (.agg s) wq)/\zW 11 a s w (fun t=>qS 11 a t (fun c0=>K (Value.tuple #[(Value.agg c0),(Value.bool true)]) t))) (qtj a w K))))))))):=qD kr
theorem q8t:q2Y d a c w K=(qo d (∃ e:Array Value,(∀ wq,(Instr.build 172 #[(4,(Value.int .i64 1)),(5,(Value.int .i64 2)),(8,(Value.bool true))]).run P wq=.ok (.agg e) wq)/\zW 11 a e w (fun f=>qS 11 a f (fun k=>K (Value.tuple #[(Value.agg k),(Value.bool true)]) f))) (qo (c==33) (∃ g:Array Value,(∀ wq,(Instr.build 172 #[(4,(Value.int .i64 1)),(5,(Value.int .i64 1)),(7,(Value.bool true)),(8,(Value.bool true))]).run P wq=.ok (.agg g) wq)/\zW 11 a g w (fun h=>qS 11 a h (fun l=>K (Value.tuple #[(Value.agg l),(Value.bool true)]) h))) (qo (c==34) (∃ i:Array Value,(∀ wq,(Instr.build 172 #[(0,(Value.bool true)),(3,(Value.int .i64 1)),(4,(Value.int .i64 1)),(5,(Value.int .i64 1)),(6,(Value.int .i64 1)),(8,(Value.bool true))]).run P wq=.ok (.agg i) wq)/\zW 11 a i w (fun j=>qS 11 a j (fun m=>K (Value.tuple #[(Value.agg m),(Value.bool true)]) j))) (qo (c==35) (q2Z true a c w K) (q2Z (c==42) a c w K))))):=qD kr
theorem qfh:q5t d a c w K=(qo d (∃ e:Array Value,(∀ wq,(Instr.build 172 #[(3,(Value.int .i64 2)),(4,(Value.int .i64 1)),(8,(Value.bool true))]).run P wq=.ok (.agg e) wq)/\zW 11 a e w (fun f=>qS 11 a f (fun g=>K (Value.tuple #[(Value.agg g),(Value.bool true)]) f))) (qo (c==27) (q2Y true a c w K) (q2Y (c==31) a c w K))):=qD kr
theorem qcP:q6N d a c w K=(qo d (∃ e:Array Value,(∀ wq,(Instr.build 172 #[(2,(Value.bool true)),(4,(Value.int .i64 1)),(5,(Value.int .i64 1)),(8,(Value.bool true))]).run P wq=.ok (.agg e) wq)/\zW 11 a e w (fun f=>qS 11 a f (fun g=>K (Value.tuple #[(Value.agg g),(Value.bool true)]) f))) (qo (c==26) (q5t true a c w K) (q5t (c==30) a c w K))):=qD kr
theorem qcJ:q0U d a c w K=(qo d (∃ e:Array Value,(∀ wq,(Instr.build 172 #[(2,(Value.bool true)),(3,(Value.int .i64 1)),(4,(Value.int .i64 1)),(8,(Value.bool true))]).run P wq=.ok (.agg e) wq)/\zW 11 a e w (fun f=>qS 11 a f (fun g=>K (Value.tuple #[(Value.agg g),(Value.bool true)]) f))) (qo (c==25) (q6N true a c w K) (q6N (c==29) a c w K))):=qD kr
theorem qe9:q5u d c a w K=(qo d (∃ e:Array Value,(∀ wq,(Instr.build 172 #[(4,(Value.int .i64 2)),(7,(Value.bool true))]).run P wq=.ok (.agg e) wq)/\zW 11 c e w (fun f=>qS 11 c f (fun g=>K (Value.tuple #[(Value.agg g),(Value.bool true)]) f))) (qo (a==24) (q0U true c a w K) (qo (a==28) (q0U true c a w K) (q0U (a==32) c a w K)))):=qD kr
theorem qgk:q5C d a c w K=(qo d (∃ e:Array Value,(∀ wq,(Instr.build 172 #[(3,(Value.int .i64 2)),(7,(Value.bool true))]).run P wq=.ok (.agg e) wq)/\zW 11 a e w (fun f=>qS 11 a f (fun g=>K (Value.tuple #[(Value.agg g),(Value.bool true)]) f))) (qo (c==23) (q5u true a c w K) (q5u (c==44) a c w K))):=qD kr
theorem qfR:q5k d a c w K=(qo d (∃ e:Array Value,(∀ wq,(Instr.build 172 #[(3,(Value.int .i64 2)),(4,(Value.int .i64 1))]).run P wq=.ok (.agg e) wq)/\zW 11 a e w (fun f=>qS 11 a f (fun s=>K (Value.tuple #[(Value.agg s),(Value.bool true)]) f))) (qo (c==15) (∃ g:Array Value,(∀ wq,(Instr.build 172 #[(3,(Value.int .i64 1)),(4,(Value.int .i64 2)),(7,(Value.bool true))]).run P wq=.ok (.agg g) wq)/\zW 11 a g w (fun h=>qS 11 a h (fun t=>K (Value.tuple #[(Value.agg t),(Value.bool true)]) h))) (qo (c==16) (∃ i:Array Value,(∀ wq,(Instr.build 172 #[(3,(Value.int .i64 2)),(4,(Value.int .i64 2)),(5,(Value.int .i64 1)),(7,(Value.bool true))]).run P wq=.ok (.agg i) wq)/\zW 11 a i w (fun j=>qS 11 a j (fun u=>K (Value.tuple #[(Value.agg u),(Value.bool true)]) j))) (qo (c==18) (∃ k:Array Value,(∀ wq,(Instr.build 172 #[(3,(Value.int .i64 2)),(4,(Value.int .i64 1)),(5,(Value.int .i64 2)),(6,(Value.int .i64 2))]).run P wq=.ok (.agg k) wq)/\zW 11 a k w (fun l=>qS 11 a l (fun v=>K (Value.tuple #[(Value.agg v),(Value.bool true)]) l))) (qo (c==19) (∃ m:Array Value,(∀ wq,(Instr.build 172 #[(2,(Value.bool true)),(3,(Value.int .i64 1)),(7,(Value.bool true))]).run P wq=.ok (.agg m) wq)/\zW 11 a m w (fun n=>qS 11 a n (fun x=>K (Value.tuple #[(Value.agg x),(Value.bool true)]) n))) (qo (c==20) (∃ o:Array Value,(∀ wq,(Instr.build 172 #[(2,(Value.bool true)),(4,(Value.int .i64 1)),(7,(Value.bool true))]).run P wq=.ok (.agg o) wq)/\zW 11 a o w (fun p=>qS 11 a p (fun y=>K (Value.tuple #[(Value.agg y),(Value.bool true)]) p))) (qo (c==21) (∃ q:Array Value,(∀ wq,(Instr.build 172 #[(2,(Value.bool true)),(7,(Value.bool true)),(8,(Value.bool true))]).run P wq=.ok (.agg q) wq)/\zW 11 a q w (fun r=>qS 11 a r (fun z=>K (Value.tuple #[(Value.agg z),(Value.bool true)]) r))) (qo (c==22) (q5C true a c w K) (q5C (c==45) a c w K))))))))):=qD kr
theorem qgX:q6M d a c w K=(qo d (∃ e:Array Value,(∀ wq,(Instr.build 172 #[(3,(Value.int .i64 1)),(4,(Value.int .i64 2))]).run P wq=.ok (.agg e) wq)/\zW 11 a e w (fun f=>qS 11 a f (fun g=>K (Value.tuple #[(Value.agg g),(Value.bool true)]) f))) (qo (c==13) (q5k true a c w K) (q5k (c==14) a c w K))):=qD kr
theorem q3j:qlH d c e w K=(qo (d==1) (∃ f:Array Value,(∀ wq,(Instr.build 172 #[(3,(Value.int .i64 1)),(8,(Value.bool true))]).run P wq=.ok (.agg f) wq)/\zW 11 c f w (fun g=>qS 11 c g (fun c0=>K (Value.tuple #[(Value.agg c0),(Value.bool true)]) g))) (qo (d==2) (∃ h:Array Value,(∀ wq,(Instr.build 172 #[(3,(Value.int .i64 1)),(4,(Value.int .i64 1))]).run P wq=.ok (.agg h) wq)/\zW 11 c h w (fun i=>qS 11 c i (fun d0=>K (Value.tuple #[(Value.agg d0),(Value.bool true)]) i))) (qo (d==3) (∃ j:Array Value,(∀ wq,(Instr.build 172 #[(0,(Value.bool true)),(3,(Value.int .i64 1)),(4,(Value.int .i64 1)),(5,(Value.int .i64 1))]).run P wq=.ok (.agg j) wq)/\zW 11 c j w (fun k=>qS 11 c k (fun e0=>K (Value.tuple #[(Value.agg e0),(Value.bool true)]) k))) (qo (d==4) (∃ l:Array Value,(∀ wq,(Instr.build 172 #[(0,(Value.bool true)),(3,(Value.int .i64 1)),(4,(Value.int .i64 1)),(8,(Value.bool true))]).run P wq=.ok (.agg l) wq)/\zW 11 c l w (fun m=>qS 11 c m (fun f0=>K (Value.tuple #[(Value.agg f0),(Value.bool true)]) m))) (qo (d==5) (∃ n:Array Value,(∀ wq,(Instr.build 172 #[(0,(Value.bool true)),(1,(Value.bool true)),(2,(Value.bool true)),(3,(Value.int .i64 1)),(4,(Value.int .i64 1))]).run P wq=.ok (.agg n) wq)/\zW 11 c n w (fun o=>qS 11 c o (fun g0=>K (Value.tuple #[(Value.agg g0),(Value.bool true)]) o))) (qo (d==6) (∃ p:Array Value,(∀ wq,(Instr.build 172 #[(3,(Value.int .i64 1)),(4,(Value.int .i64 1)),(5,(Value.int .i64 1)),(6,(Value.int .i64 1))]).run P wq=.ok (.agg p) wq)/\zW 11 c p w (fun q=>qS 11 c q (fun h0=>K (Value.tuple #[(Value.agg h0),(Value.bool true)]) q))) (qo (d==7) (∃ r:Array Value,(∀ wq,(Instr.build 172 #[(3,(Value.int .i64 2)),(10,(Value.bool true))]).run P wq=.ok (.agg r) wq)/\zW 11 c r w (fun s=>qS 11 c s (fun i0=>K (Value.tuple #[(Value.agg i0),(Value.bool true)]) s))) (qo (d==8) (∃ t:Array Value,(∀ wq,(Instr.build 172 #[(3,(Value.int .i64 2)),(4,(Value.int .i64 2))]).run P wq=.ok (.agg t) wq)/\zW 11 c t w (fun u=>qS 11 c u (fun j0=>K (Value.tuple #[(Value.agg j0),(Value.bool true)]) u))) (qo (d==9) (∃ v:Array Value,(∀ wq,(Instr.build 172 #[(0,(Value.bool true)),(3,(Value.int .i64 2)),(4,(Value.int .i64 2)),(5,(Value.int .i64 2))]).run P wq=.ok (.agg v) wq)/\zW 11 c v w (fun x=>qS 11 c x (fun l0=>K (Value.tuple #[(Value.agg l0),(Value.bool true)]) x))) (qo (d==10) (∃ y:Array Value,(∀ wq,(Instr.build 172 #[(0,(Value.bool true)),(3,(Value.int .i64 2)),(4,(Value.int .i64 2))]).run P wq=.ok (.agg y) wq)/\zW 11 c y w (fun z=>qS 11 c z (fun m0=>K (Value.tuple #[(Value.agg m0),(Value.bool true)]) z))) (qo (d==11) (∃ a0:Array Value,(∀ wq,(Instr.build 172 #[(0,(Value.bool true)),(3,(Value.int .i64 1)),(4,(Value.int .i64 2)),(5,(Value.int .i64 2))]).run P wq=.ok (.agg a0) wq)/\zW 11 c a0 w (fun b0=>qS 11 c b0 (fun n0=>K (Value.tuple #[(Value.agg n0),(Value.bool true)]) b0))) (qo (d==12) (q6M true c d w K) (q6M (d==17) c d w K))))))))))))):=Eq.trans (b:=CS P (cA Q6 13) none [2] [2,3] (Ve K) (qi.mk 121 [(4,(VI d)),(3,(VB false)),(2,(VP (some c))),(0,(VI e))] []) w) kr (Eq.trans (Zk 0 [2,3] (vz K) kr) (Eq.trans (zh [5,2,4] (qxK K) kr) kr))
theorem qdU:qn2 d c w K=(qlH c d c w K):=Eq.trans (b:=CS P (cA Q6 3) none [2,3] [2,3] (Qk K) (qi.mk 121 [(3,(VB false)),(2,(VP (some d))),(0,(VI c))] []) w) kr (Eq.trans (zh [2] (Ve K) kr) (Eq.trans (zh [2,4] (qxe K) kr) kr))
theorem qfo:qnw c w K=(qu (qx P 172) 172 w (fun d e=>qn2 (Addr.mk d 0 none) c e K)):=Eq.trans (b:=CS P (cA Q6 1) none [2,3] [2,3] (Qk K) (qi.mk 121 [(0,(VI c))] []) w) kr (Eq.trans (zh [2,0] (qCS K) kr) kr)
theorem qAA:f119 a w K=(qnw a w K):=kr
theorem qDb a w K(h:f119 a w K):q9 P 119 [(Value.int .i64 a)] w K:=qA Q6 Tryz.func119 h
def qcq:=ql Tryz.f120
def qJE:=Tryz.f120.results.toList
abbrev q5B K:=qr P qJE K
def f120 a b w K:=CS P qcq none [4] [4] (q5B K) (qz 22 [(Value.int .u32 a),(VI b)]) w
abbrev qzK K:=kq qcq 7 [4] [4] (q5B K)
abbrev qk2 K:=qp 0 (qzK K)
def qwq K Y0 e w:=zv (fun e w=>CS P (cA qcq 116) none [6,0,5,4,1] [4,5] (qv [6,0,5,4,1] Y0 (qk2 K)) e w) e w
abbrev q1i K Y0:=qv [6,0,5,4,1] Y0 (qk2 K)
def qcw a b c d f g h i j w K Y0:=SG qcq 116 [6,0,5,4,1] [4,5] (q1i K Y0) 22 [(6,VI a),(0,Value.int .u32 b),(5,VS c d f),(4,VS g h i),(1,VI j)] w
def qjC a b c d f g h i j w K Y0:=SG qcq 233 [6,0,5,4,1] [4,5] (q1i K Y0) 22 [(0,Value.int .u32 a),(4,VS b c d),(1,VI f),(6,VI g),(5,VS h i j)] w
def qnQ a b c d f g h i j w K Y0:=SG qcq 467 [6,0,5,4,1] [4,5] (q1i K Y0) 22 [(0,Value.int .u32 a),(5,VS b c d),(4,VS f g h),(1,VI i),(6,VI j)] w
theorem qgA:qnQ a b c d e f g h i w K Y0=(Y0 (qi.mk 22 [(6,(Value.int .i64 (IntKind.wrap .i64 (i+1)))),(0,(Value.int .u32 a)),(5,(Value.slice b c d)),(4,(Value.slice e f g)),(1,(Value.int .i64 h))] []) w):=kr
theorem qgp:qjC b c d e f a g h i w K Y0=(0<=(IntKind.wrap .u64 (IntKind.wrap .i64 ((8:Int)*a)))/\qJ 1 [(Value.int .u8 (IntKind.wrap .u8 (b.fdiv (2 ^ (min (Int.toNat (IntKind.wrap .u64 (IntKind.wrap .i64 ((8:Int)*a)))) (IntKind.bits .u32))))))]/\qu (([(Value.int .u8 (IntKind.wrap .u8 (b.fdiv (2 ^ (min (Int.toNat (IntKind.wrap .u64 (IntKind.wrap .i64 ((8:Int)*a)))) (IntKind.bits .u32))))))].map fun(v:Value)=>v.cells.toList).flatten.toArray) 5 w (fun n o=>∃ (j:OA) (k l:Nat),∃ m:World,(Builtin.append_ #[38,38] 38 #[(Value.slice g h i),(Value.slice (some (Addr.mk n 0 none)) 1 1)]).run P o=.ok (.slice j k l) m/\qnQ b j k l c d e f a m K Y0)):=kr
def qle a b c w K:=SG qcq 15 [4] [4] (q5B K) 22 [(5,VS a b c)] w
theorem qg1:qle a b c w K=(K (Value.slice a b c) w):=kr
theorem qaJ:qcw a f b c d g h i e w K Y0=(qo (decide (a<e)) (qjC f g h i e a b c d w K Y0) (qle b c d w K)):=kr
theorem qC1:f120 a b w K=(qO (qwq K) (qi.mk 22 [(6,(Value.int .i64 0)),(0,(Value.int .u32 a)),(5,(Value.slice none 0 0)),(4,(Value.slice none 0 0)),(1,(Value.int .i64 b))] []) w):=kr
theorem qBp a b w K(h:f120 a b w K):q9 P 120 [(Value.int .u32 a),(Value.int .i64 b)] w K:=qA qcq Tryz.func120 h
def qtc:=ql Tryz.f180
def qKx:=Tryz.f180.results.toList
abbrev q59 K:=qr P qKx K
def f180 a w K:=CS P qtc none [2,3] [2,3] (q59 K) (qz 23 [(Value.agg a)]) w
abbrev qzQ K:=kq qtc 7 [2,3] [2,3] (q59 K)
def q5h a b c d w K:=SG qtc 29 [2,5,4] [2,3] (qzQ K) 23 [(19,VB a),(2,VQ b),(5,VB c),(4,VQ d)] w
def q6a a b c w K:=SG qtc 15 [2,3] [2,3] (q59 K) 23 [(2,VQ a),(5,VB b),(4,VQ c)] w
theorem qie:q6a a b c w K=(qS 11 c w (fun e=>zW 11 a e w (fun d=>qS 11 a d (fun f=>K (Value.tuple #[(Value.agg f),(Value.bool b)]) d)))):=kr
theorem qio:q5h d b c a w K=(qo d (zX (a.add 6) (Value.int .i64 0) w (fun e=>q6a b c a e K)) (q6a b c a w K)):=kr
theorem qyX:f180 e w K=(qu e 119 w (fun b l=>qu (qx P 172) 172 l (fun f g=>∃ h:Int,g.cell? (Addr.mk b 0 none)=some (.int .i64 h)/\q9 P 119 [(Value.int .i64 h)] g (fun m n=>∃ i:Array Value,∃ c:Bool,m=(.tuple #[(Value.agg i),(Value.bool c)])/\qu (qx P 172) 172 n (fun d o=>zW 11 (Addr.mk d 0 none) i o (fun a=>∃ j:Int,a.cell? (Addr.mk b 0 none)=some (.int .i64 j)/\qo (j==34) (∃ k:Int,a.cell? ((Addr.mk b 0 none).add 1)=some (.int .i64 k)/\q5h (k != 0) (Addr.mk f 0 none) c (Addr.mk d 0 none) a K) (q5h false (Addr.mk f 0 none) c (Addr.mk d 0 none) a K))))))):=kr
theorem qBe a w K(h:f180 a w K):q9 P 180 [(Value.agg a)] w K:=qA qtc Tryz.func180 h
def Qu:=ql Tryz.f181
def qJt:=Tryz.f181.results.toList
abbrev jK K:=qr P qJt K
def f181 a w K:=CS P Qu none [2] [2] (jK K) (qz 83 [(Value.agg a)]) w
def qo4 a w K:=SC Qu 1 [2] [2] (jK K) 83 [(0,Value.agg a)] w
abbrev qzB K:=kq Qu 1 [2] [2] (jK K)
def qnK a b w K:=SC Qu 3 [2] [2] (jK K) 83 [(2,VB false),(1,VQ a),(0,Value.agg b)] w
abbrev VX K:=kq Qu 3 [2] [2] (jK K)
abbrev qAS K:=kq Qu 6 [1] [2] (VX K)
def qjW a b c d w K:=SC Qu 13 [1] [2] (VX K) 83 [(4,VI a),(3,VQ b),(2,VB false),(1,VQ c),(0,Value.agg d)] w
abbrev Qi K:=qp 0 (VX K)
abbrev qnu K:=kq Qu 26 [1] [2,1] (Qi K)
abbrev qCN K:=kq Qu 52 [5,1,4] [2,1] (qnu K)
def q78 a b c w K:=SG Qu 53 [1] [2,1] (Qi K) 83 [(5,VB a),(1,VQ b),(4,VI c)] w
def q0N a b w K:=SG Qu 861 [1] [2,1] (Qi K) 83 [(2,VB a),(1,VQ b)] w
def qnP a b w K:=SG Qu 3453 [1] [2,1] (Qi K) 83 [(2,VB a),(1,VQ b)] w
def qnm a b w K:=SG Qu 13821 [1] [2,1] (Qi K) 83 [(2,VB a),(1,VQ b)] w
def qla a b w K:=SG Qu 55293 [1] [2,1] (Qi K) 83 [(2,VB a),(1,VQ b)] w
def qkQ a b w K:=SG Qu 884733 [1] [2,1] (Qi K) 83 [(2,VB a),(1,VQ b)] w
def qlX a w K:=SG Qu 7 [2] [2] (jK K) 83 [(1,VQ a)] w
abbrev quF K:=kq Qu 7 [2] [2] (jK K)
theorem qfT:qlX c w K=(∃ d:Int,w.cell? (c.add 1)=some (.int .i64 d)/\K (Value.bool (d==0)) w):=qD (qH [2] (quF K) kr)
theorem qdz:q78 e a d w K=(qo e (∃ g:Int,w.cell? (a.add 1)=some (.int .i64 g)/\q9 P 190 [(Value.int .i64 g),(Value.int .i64 1),(Value.int .i64 19)] w (fun e0 f0=>∃ h:Bool,e0=(.bool h)/\K (Value.bool h) f0)) (qo (d==5) (∃ i:Int,w.cell? (a.add 1)=some (.int .i64 i)/\q9 P 190 [(Value.int .i64 i),(Value.int .i64 1),(Value.int .i64 7)] w (fun g0 c=>∃ j:Bool,g0=(.bool j)/\qo j (∃ k:Int,c.cell? (a.add 2)=some (.int .i64 k)/\qo (k != 128) (∃ l:Int,c.cell? (a.add 3)=some (.int .i64 l)/\qo (l != 128) (∃ m:Int,c.cell? (a.add 1)=some (.int .i64 m)/\∃ n:Int,c.cell? (a.add 2)=some (.int .i64 n)/\∃ o:Int,c.cell? (a.add 3)=some (.int .i64 o)/\q9 P 191 [(Value.int .i64 m),(Value.int .i64 n),(Value.int .i64 o),(Value.int .i64 0)] c (fun h0 i0=>∃ p:Bool,h0=(.bool p)/\q0N p a i0 K)) (q0N false a c K)) (q0N false a c K)) (q0N false a c K))) (qo (d==9) (∃ q:Int,w.cell? (a.add 1)=some (.int .i64 q)/\q9 P 190 [(Value.int .i64 q),(Value.int .i64 8),(Value.int .i64 10)] w (fun j0 f=>∃ r:Bool,j0=(.bool r)/\qo r (qnP true a f K) (∃ s:Int,f.cell? (a.add 1)=some (.int .i64 s)/\q9 P 190 [(Value.int .i64 s),(Value.int .i64 20),(Value.int .i64 29)] f (fun l0 m0=>∃ t:Bool,l0=(.bool t)/\qnP t a m0 K)))) (qo (d==10) (∃ u:Int,w.cell? (a.add 1)=some (.int .i64 u)/\qo (u==1) (qnm true a w K) (∃ v:Int,w.cell? (a.add 1)=some (.int .i64 v)/\q9 P 190 [(Value.int .i64 v),(Value.int .i64 8),(Value.int .i64 10)] w (fun n0 o0=>∃ x:Bool,n0=(.bool x)/\qnm x a o0 K))) (qo (d==11) (∃ y:Int,w.cell? (a.add 1)=some (.int .i64 y)/\qo (y==14) (qla true a w K) (∃ z:Int,w.cell? (a.add 1)=some (.int .i64 z)/\qla (z==15) a w K)) (qo (d==34) (∃ a0:Int,w.cell? (a.add 1)=some (.int .i64 a0)/\q9 P 190 [(Value.int .i64 a0),(Value.int .i64 0),(Value.int .i64 2)] w (fun p0 q0=>∃ b0:Bool,p0=(.bool b0)/\K (Value.bool b0) q0)) (qo (d==36) (∃ c0:Int,w.cell? (a.add 1)=some (.int .i64 c0)/\qo (c0==1) (qkQ true a w K) (∃ d0:Int,w.cell? (a.add 1)=some (.int .i64 d0)/\qkQ (d0==2) a w K)) (qlX a w K)))))))):=qD kr
theorem qij:qjW c e d f w K=(qo (c==3) (q78 true d c w K) (q78 (c==4) d c w K)):=Eq.trans (b:=CS P (cA Qu 13) none [1] [2] (VX K) (qi.mk 83 [(4,(VI c)),(3,(VP (some e))),(2,(VB false)),(1,(VP (some d))),(0,(Value.agg f))] []) w) kr (Eq.trans (Zk 0 [2,1] (Qi K) kr) (Eq.trans (zh [5,1,4] (qnu K) kr) (Eq.trans (zh [5,1,4] (qCN K) kr) kr)))
theorem qgq:qnK c d w K=(∃ e:Int,w.cell? c=some (.int .i64 e)/\qjW e c c d w K):=Eq.trans (b:=CS P (cA Qu 3) none [2] [2] (jK K) (qi.mk 83 [(2,(VB false)),(1,(VP (some c))),(0,(Value.agg d))] []) w) kr (Eq.trans (zh [1] (VX K) kr) (Eq.trans (zh [1,4] (qAS K) kr) kr))
theorem qhS:qo4 c w K=(qu c 119 w (fun d e=>qnK (Addr.mk d 0 none) c e K)):=Eq.trans (b:=CS P (cA Qu 1) none [2] [2] (jK K) (qi.mk 83 [(0,(Value.agg c))] []) w) kr (Eq.trans (zh [1] (qzB K) kr) kr)
theorem qx3:f181 a w K=(qo4 a w K):=kr
theorem qCb a w K(h:f181 a w K):q9 P 181 [(Value.agg a)] w K:=qA Qu Tryz.func181 h
def Yd:=ql Tryz.f182
def qKq:=Tryz.f182.results.toList
abbrev jE K:=qr P qKq K
def f182 a w K:=CS P Yd none [2] [2] (jE K) (qz 26 [(Value.agg a)]) w
def qkU a w K:=SC Yd 1 [2] [2] (jE K) 26 [(0,Value.agg a)] w
abbrev qDg K:=kq Yd 1 [2] [2] (jE K)
def qlw a b w K:=SC Yd 3 [2] [2] (jE K) 26 [(2,VB false),(1,VQ a),(0,Value.agg b)] w
abbrev J5 K:=kq Yd 3 [2] [2] (jE K)
abbrev qAr K:=kq Yd 6 [1] [2] (J5 K)
def qnb a b c d w K:=SC Yd 13 [1] [2] (J5 K) 26 [(4,VI a),(3,VQ b),(2,VB false),(1,VQ c),(0,Value.agg d)] w
abbrev q4Z K:=qp 0 (J5 K)
abbrev qmR K:=kq Yd 26 [1] [2,1] (q4Z K)
abbrev qCg K:=kq Yd 52 [5,1,4] [2,1] (qmR K)
def Qh a b c w K:=SG Yd 53 [1] [2,1] (q4Z K) 26 [(5,VB a),(1,VQ b),(4,VI c)] w
def qnn a w K:=SG Yd 7 [2] [2] (jE K) 26 [(1,VQ a)] w
abbrev qvj K:=kq Yd 7 [2] [2] (jE K)
theorem qh3:qnn c w K=(∃ d:Int,w.cell? (c.add 3)=some (.int .i64 d)/\K (Value.bool (d==0)) w):=qD (qH [2] (qvj K) kr)
theorem qhs:Qh d a c w K=(qo d (∃ e:Int,w.cell? (a.add 3)=some (.int .i64 e)/\q9 P 192 [(Value.int .i64 e)] w (fun i j=>∃ f:Bool,i=(.bool f)/\K (Value.bool f) j)) (qo (c==32) (∃ g:Int,w.cell? (a.add 3)=some (.int .i64 g)/\q9 P 193 [(Value.int .i64 g)] w (fun k l=>∃ h:Bool,k=(.bool h)/\K (Value.bool h) l)) (qo (c==5) (K (Value.bool true) w) (qnn a w K)))):=qD kr
theorem qfA:qnb c e d f w K=(qo (c==19) (Qh true d c w K) (qo (c==20) (Qh true d c w K) (qo (c==21) (Qh true d c w K) (qo (c==24) (Qh true d c w K) (qo (c==25) (Qh true d c w K) (qo (c==28) (Qh true d c w K) (Qh (c==29) d c w K))))))):=Eq.trans (b:=CS P (cA Yd 13) none [1] [2] (J5 K) (qi.mk 26 [(4,(VI c)),(3,(VP (some e))),(2,(VB false)),(1,(VP (some d))),(0,(Value.agg f))] []) w) kr (Eq.trans (Zk 0 [2,1] (q4Z K) kr) (Eq.trans (zh [5,1,4] (qmR K) kr) (Eq.trans (zh [5,1,4] (qCg K) kr) kr)))
theorem qdu:qlw c d w K=(∃ e:Int,w.cell? c=some (.int .i64 e)/\qnb e c c d w K):=Eq.trans (b:=CS P (cA Yd 3) none [2] [2] (jE K) (qi.mk 26 [(2,(VB false)),(1,(VP (some c))),(0,(Value.agg d))] []) w) kr (Eq.trans (zh [1] (J5 K) kr) (Eq.trans (zh [1,4] (qAr K) kr) kr))
theorem qhu:qkU c w K=(qu c 119 w (fun d e=>qlw (Addr.mk d 0 none) c e K)):=Eq.trans (b:=CS P (cA Yd 1) none [2] [2] (jE K) (qi.mk 26 [(0,(Value.agg c))] []) w) kr (Eq.trans (zh [1] (qDg K) kr) kr)
theorem qBb:f182 a w K=(qkU a w K):=kr
theorem qBW a w K(h:f182 a w K):q9 P 182 [(Value.agg a)] w K:=qA Yd Tryz.func182 h
def jF:=ql Tryz.f183
def qJU:=Tryz.f183.results.toList
abbrev jI K:=qr P qJU K
def f183 a w K:=CS P jF none [2] [2] (jI K) (qz 84 [(Value.agg a)]) w
def qjM a w K:=SC jF 1 [2] [2] (jI K) 84 [(0,Value.agg a)] w
abbrev qxV K:=kq jF 1 [2] [2] (jI K)
def qjR a b w K:=SC jF 3 [2] [2] (jI K) 84 [(2,VB false),(1,VQ a),(0,Value.agg b)] w
abbrev YO K:=kq jF 3 [2] [2] (jI K)
abbrev qy3 K:=kq jF 6 [1] [2] (YO K)
def qmJ a b c d w K:=SC jF 13 [1] [2] (YO K) 84 [(4,VI a),(3,VQ b),(2,VB false),(1,VQ c),(0,Value.agg d)] w
abbrev vF K:=qp 0 (YO K)
abbrev qnk K:=kq jF 26 [1] [2,1] (vF K)
abbrev qyC K:=kq jF 52 [5,1,4] [2,1] (qnk K)
def q7C a b c w K:=SG jF 53 [1] [2,1] (vF K) 84 [(5,VB a),(1,VQ b),(4,VI c)] w
def q0H a b c w K:=SG jF 215 [1] [2,1] (vF K) 84 [(11,VB a),(1,VQ b),(4,VI c)] w
def q57 a b c w K:=SG jF 863 [1] [2,1] (vF K) 84 [(20,VB a),(1,VQ b),(4,VI c)] w
def qkd a b w K:=SG jF 221181 [1] [2,1] (vF K) 84 [(2,VB a),(1,VQ b)] w
def qmu a b w K:=SG jF 884733 [1] [2,1] (vF K) 84 [(2,VB a),(1,VQ b)] w
def q0m a b c w K:=SG jF 884735 [1] [2,1] (vF K) 84 [(56,VB a),(1,VQ b),(4,VI c)] w
def q5H a b c w K:=SG jF 3538943 [1] [2,1] (vF K) 84 [(63,VB a),(1,VQ b),(4,VI c)] w
def q21 a b w K:=SG jF 14155775 [1] [2,1] (vF K) 84 [(69,VB a),(1,VQ b)] w
def qbI a b w K:=SG jF 56623101 [1] [2,1] (vF K) 84 [(2,VB a),(1,VQ b)] w
def qan a w K:=SG jF 7 [2] [2] (jI K) 84 [(1,VQ a)] w
abbrev qsD K:=kq jF 7 [2] [2] (jI K)
theorem JP:qan c w K=(∃ d:Int,w.cell? (c.add 8)=some (.int .i64 d)/\K (Value.bool (d==0)) w):=qD (qH [2] (qsD K) kr)
theorem JV:q21 c a w K=(qo c (∃ e:Int,w.cell? (a.add 8)=some (.int .i64 e)/\q9 P 190 [(Value.int .i64 e),(Value.int .i64 0),(Value.int .i64 508)] w (fun h d=>∃ f:Bool,h=(.bool f)/\qo f (∃ g:Int,d.cell? (a.add 8)=some (.int .i64 g)/\(4:Int)≠0/\qbI (((g.tmod 4):Int)==0) a d K) (qbI false a d K))) (qan a w K)):=qD kr
theorem q25:q5H d a c w K=(qo d (∃ e:Int,w.cell? (a.add 8)=some (.int .i64 e)/\q9 P 190 [(Value.int .i64 e),(Value.int .i64 0),(Value.int .i64 511)] w (fun g h=>∃ f:Bool,g=(.bool f)/\K (Value.bool f) h)) (qo (c==44) (q21 true a w K) (q21 (c==45) a w K))):=qD kr
theorem q3B:q0m d c a w K=(qo d (∃ e:Int,w.cell? (c.add 8)=some (.int .i64 e)/\q9 P 190 [(Value.int .i64 e),(Value.int .i64 1),(Value.int .i64 9)] w (fun g h=>∃ f:Bool,g=(.bool f)/\K (Value.bool f) h)) (qo (a==42) (q5H true c a w K) (q5H (a==43) c a w K))):=qD kr
theorem q2D:q57 d a c w K=(qo d (∃ f:Int,w.cell? (a.add 8)=some (.int .i64 f)/\q9 P 194 [(Value.int .i64 f),(Value.int .i64 128)] w (fun q r=>∃ g:Bool,q=(.bool g)/\K (Value.bool g) r)) (qo (c==33) (∃ h:Int,w.cell? (a.add 8)=some (.int .i64 h)/\q9 P 190 [(Value.int .i64 h),(Value.int .i64 1),(Value.int .i64 16)] w (fun s t=>∃ i:Bool,s=(.bool i)/\K (Value.bool i) t)) (qo (c==35) (∃ j:Int,w.cell? (a.add 8)=some (.int .i64 j)/\q9 P 190 [(Value.int .i64 j),(Value.int .i64 0),(Value.int .i64 7)] w (fun u v=>∃ k:Bool,u=(.bool k)/\K (Value.bool k) v)) (qo (c==37) (∃ l:Int,w.cell? (a.add 8)=some (.int .i64 l)/\q9 P 190 [(Value.int .i64 l),(Value.int .i64 0),(Value.int .i64 8)] w (fun x e=>∃ m:Bool,x=(.bool m)/\qo m (∃ n:Int,e.cell? (a.add 9)=some (.int .u32 n)/\qkd (decide (n<=1000000)) a e K) (qkd false a e K))) (qo (c==38) (∃ o:Int,w.cell? (a.add 8)=some (.int .i64 o)/\qo (o==4) (qmu true a w K) (∃ p:Int,w.cell? (a.add 8)=some (.int .i64 p)/\qmu (p==8) a w K)) (qo (c==39) (q0m true a c w K) (qo (c==40) (q0m true a c w K) (q0m (c==41) a c w K)))))))):=qD kr
theorem q32:q0H d a c w K=(qo d (∃ e:Int,w.cell? (a.add 8)=some (.int .i64 e)/\∃ f:Int,w.cell? (a.add 3)=some (.int .i64 f)/\q9 P 194 [(Value.int .i64 e),(Value.int .i64 f)] w (fun h i=>∃ g:Bool,h=(.bool g)/\K (Value.bool g) i)) (qo (c==22) (q57 true a c w K) (q57 (c==23) a c w K))):=qD kr
theorem q2V:q7C d c a w K=(qo d (∃ e:Int,w.cell? (c.add 8)=some (.int .i64 e)/\q9 P 190 [(Value.int .i64 e),(Value.int .i64 0),(Value.int .i64 3)] w (fun g h=>∃ f:Bool,g=(.bool f)/\K (Value.bool f) h)) (qo (a==19) (q0H true c a w K) (qo (a==20) (q0H true c a w K) (q0H (a==21) c a w K)))):=qD kr
theorem q30:qmJ c e d f w K=(qo (c==15) (q7C true d c w K) (q7C (c==16) d c w K)):=Eq.trans (b:=CS P (cA jF 13) none [1] [2] (YO K) (qi.mk 84 [(4,(VI c)),(3,(VP (some e))),(2,(VB false)),(1,(VP (some d))),(0,(Value.agg f))] []) w) kr (Eq.trans (Zk 0 [2,1] (vF K) kr) (Eq.trans (zh [5,1,4] (qnk K) kr) (Eq.trans (zh [5,1,4] (qyC K) kr) kr)))
theorem qfE:qjR c d w K=(∃ e:Int,w.cell? c=some (.int .i64 e)/\qmJ e c c d w K):=Eq.trans (b:=CS P (cA jF 3) none [2] [2] (jI K) (qi.mk 84 [(2,(VB false)),(1,(VP (some c))),(0,(Value.agg d))] []) w) kr (Eq.trans (zh [1] (YO K) kr) (Eq.trans (zh [1,4] (qy3 K) kr) kr))
theorem qgu:qjM c w K=(qu c 119 w (fun d e=>qjR (Addr.mk d 0 none) c e K)):=Eq.trans (b:=CS P (cA jF 1) none [2] [2] (jI K) (qi.mk 84 [(0,(Value.agg c))] []) w) kr (Eq.trans (zh [1] (qxV K) kr) kr)
theorem qAj:f183 a w K=(qjM a w K):=kr
theorem qy6 a w K(h:f183 a w K):q9 P 183 [(Value.agg a)] w K:=qA jF Tryz.func183 h
def qgD:=ql Tryz.f184
def qJp:=Tryz.f184.results.toList
abbrev Va K:=qr P qJp K
def f184 a b c d w K:=CS P qgD none [8] [8] (Va K) (qz 29 [(VI a),(VI b),(VI c),(VI d)]) w
def qmk a b c d w K:=SG qgD 7 [8] [8] (Va K) 29 [(3,VI a),(0,VI b),(2,VI c),(1,VI d)] w
abbrev qBD K:=kq qgD 7 [8] [8] (Va K)
def qlK a w K:=SG qgD 117 [2,0] [8] (qBD K) 29 [(8,VB a)] w
def qjw a b w K:=SG qgD 15 [8] [8] (Va K) 29 [(2,VI a),(0,VI b)] w
def q4P a w K:=SG qgD 31 [8] [8] (Va K) 29 [(8,VB a)] w
theorem qic:q4P a w K=(K (Value.bool a) w):=kr
theorem qh9:qjw b a w K=(qo (decide (a>=0)) (q4P (decide (a<b)) w K) (q4P false w K)):=kr
theorem qhz:qmk b a c d w K=(qo (d==2) (qo (decide (a>=0)) (qlK (decide (a<b)) w K) (qlK false w K)) (qjw c a w K)):=kr
theorem qwU:f184 a b c d w K=(qo (b==0) (K (Value.bool (a==0)) w) (qmk d a c b w K)):=kr
theorem qAW a b c d w K(h:f184 a b c d w K):q9 P 184 [(Value.int .i64 a),(Value.int .i64 b),(Value.int .i64 c),(Value.int .i64 d)] w K:=qA qgD Tryz.func184 h
def qGy:=ql Tryz.f190
def qJM:=Tryz.f190.results.toList
abbrev qk5 K:=qr P qJM K
def f190 a b c w K:=CS P qGy none [6] [6] (qk5 K) (qz 15 [(VI a),(VI b),(VI c)]) w
def q72 a w K:=SG qGy 7 [6] [6] (qk5 K) 15 [(6,VB a)] w
theorem qcG:q72 a w K=(K (Value.bool a) w):=kr
theorem qyI:f190 a b c w K=(qo (decide (a>=b)) (q72 (decide (a<=c)) w K) (q72 false w K)):=kr
theorem qDh a b c w K(h:f190 a b c w K):q9 P 190 [(Value.int .i64 a),(Value.int .i64 b),(Value.int .i64 c)] w K:=qA qGy Tryz.func190 h
def Q8:=ql Tryz.f157
def qIx:=Tryz.f157.results.toList
abbrev Qg K:=qr P qIx K
def f157 a b c w K:=CS P Q8 none [6] [6] (Qg K) (qz 104 [(Value.agg a),(VI b),(VI c)]) w
abbrev qz5 K:=kq Q8 7 [6] [6] (Qg K)
def VL a b c d f w K:=SG Q8 29 [2,1,7,3] [6] (qz5 K) 104 [(30,VB a),(2,VI b),(1,VI c),(7,VQ d),(3,VQ f)] w
def q1b a b c d w K:=SG Q8 15 [6] [6] (Qg K) 104 [(2,VI a),(1,VI b),(7,VQ c),(3,VQ d)] w
abbrev q0t K:=kq Q8 15 [6] [6] (Qg K)
abbrev ZL K:=kq Q8 30 [2,1,7,3] [6] (q0t K)
def q18 a b c d f w K:=SG Q8 61 [2,1,7,3] [6] (q0t K) 104 [(69,VB a),(2,VI b),(1,VI c),(7,VQ d),(3,VQ f)] w
def qma a b c d w K:=SG Q8 31 [6] [6] (Qg K) 104 [(2,VI a),(1,VI b),(7,VQ c),(3,VQ d)] w
def VV a w K:=SG Q8 63 [6] [6] (Qg K) 104 [(6,VB a)] w
theorem qcO:VV a w K=(K (Value.bool a) w):=kr
theorem qgl:qma a b c d w K=(∃ h:Int,w.cell? (d.add 4)=some (.int .i64 h)/\∃ i:Int,w.cell? (c.add 3)=some (.int .i64 i)/\q9 P 184 [(Value.int .i64 h),(Value.int .i64 i),(Value.int .i64 b),(Value.int .i64 a)] w (fun t e=>∃ j:Bool,t=(.bool j)/\qo j (∃ k:Int,e.cell? (d.add 5)=some (.int .i64 k)/\∃ l:Int,e.cell? (c.add 4)=some (.int .i64 l)/\q9 P 184 [(Value.int .i64 k),(Value.int .i64 l),(Value.int .i64 b),(Value.int .i64 a)] e (fun u f=>∃ m:Bool,u=(.bool m)/\qo m (∃ n:Int,f.cell? (d.add 6)=some (.int .i64 n)/\∃ o:Int,f.cell? (c.add 5)=some (.int .i64 o)/\q9 P 184 [(Value.int .i64 n),(Value.int .i64 o),(Value.int .i64 b),(Value.int .i64 a)] f (fun v g=>∃ p:Bool,v=(.bool p)/\qo p (∃ q:Int,g.cell? (d.add 7)=some (.int .i64 q)/\∃ r:Int,g.cell? (c.add 6)=some (.int .i64 r)/\q9 P 184 [(Value.int .i64 q),(Value.int .i64 r),(Value.int .i64 b),(Value.int .i64 a)] g (fun x y=>∃ s:Bool,x=(.bool s)/\VV s y K)) (VV false g K))) (VV false f K))) (VV false e K))):=kr
theorem qg9:q18 a b c d e w K=(qo a (K (Value.bool false) w) (qma b c d e w K)):=kr
theorem qcL:VL a b c d e w K=(qo a (K (Value.bool false) w) (q1b b c d e w K)):=kr
theorem qCq:f157 h b c w K=(qu h 119 w (fun a i=>qS 15 (Addr.mk a 0 none) i (fun o=>q9 P 180 [(Value.agg o)] i (fun p q=>∃ j:Array Value,∃ k:Bool,p=(.tuple #[(Value.agg j),(Value.bool k)])/\qu (qx P 172) 172 q (fun d r=>zW 11 (Addr.mk d 0 none) j r (fun e=>qo (!k) (VL true c b (Addr.mk d 0 none) (Addr.mk a 0 none) e K) (qS 15 (Addr.mk a 0 none) e (fun s=>q9 P 181 [(Value.agg s)] e (fun t f=>∃ l:Bool,t=(.bool l)/\qo (!l) (VL true c b (Addr.mk d 0 none) (Addr.mk a 0 none) f K) (qS 15 (Addr.mk a 0 none) f (fun u=>q9 P 182 [(Value.agg u)] f (fun v g=>∃ m:Bool,v=(.bool m)/\qo (!m) (VL true c b (Addr.mk d 0 none) (Addr.mk a 0 none) g K) (qS 15 (Addr.mk a 0 none) g (fun x=>q9 P 183 [(Value.agg x)] g (fun y z=>∃ n:Bool,y=(.bool n)/\VL (!n) c b (Addr.mk d 0 none) (Addr.mk a 0 none) z K))))))))))))))):=kr
theorem qzU a b c w K(h:f157 a b c w K):q9 P 157 [(Value.agg a),(Value.int .i64 b),(Value.int .i64 c)] w K:=qA Q8 Tryz.func157 h
end Go.Fx.Tryz
