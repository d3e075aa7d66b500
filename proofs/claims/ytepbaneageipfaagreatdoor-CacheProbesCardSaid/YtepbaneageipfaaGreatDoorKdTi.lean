/- A part of the proof. -/
import Derived.Test.YtepbaneageipfaaGreatDoorKaTi
import Derived.KernelRfl
import Derived.Test.YtepbaneageipfaaGreatDoorKcTi
import Derived.Sort.Walk13a
import Derived.Test.YtepbaneageipfaaGreatDoorKbTi
set_option linter.all false
set_option autoImplicit true
set_option relaxedAutoImplicit true
noncomputable section
namespace Go.Fx.Tryz
set_option maxRecDepth 100000
open Go Go.Fx Go.Proofs
def qT:=ql Tryz.f150
def qGE:=Tryz.f150.results.toList
abbrev qQ K:=qr P qGE K
def f150 a b c d e f w K:=CS P qT none [8,9] [8,9] (qQ K) (qw 168 [(VS a b c),(VI d),(VI e),(VI f)]) w
def qll a b c d e f w K:=SC qT 1 [8,9] [8,9] (qQ K) 168 [(0,VS a b c),(1,VI d),(2,VI e),(3,VI f)] w
abbrev qvF K:=kq qT 1 [8,9] [8,9] (qQ K)
def qjS a b c d e f g w K:=SC qT 3 [8,9] [8,9] (qQ K) 168 [(9,VB false),(8,VI a),(0,VS b c d),(1,VI e),(2,VI f),(3,VI g)] w
abbrev qyF K:=kq qT 3 [8,9] [8,9] (qQ K)
def qkI a b c d f g h w K:=SG qT 7 [8,9] [8,9] (qQ K) 168 [(8,VI a),(9,VB b),(0,VS c d f),(1,VI g),(2,VI h)] w
abbrev qz1 K:=kq qT 7 [8,9] [8,9] (qQ K)
def qip a b c d e f g h i j k l m w K:=SC qT 15 [8,9] [8,9] (qQ K) 168 [(11,VI a),(10,VI b),(29,VI c),(28,VI d),(27,VI e),(26,VI f),(8,VI g),(9,VB h),(0,VS i j k),(1,VI l),(2,VI m)] w
abbrev ql3 K:=kq qT 15 [8,9] [8,9] (qQ K)
abbrev q6f K:=qn 0 (ql3 K)
def qtC K Y4 e w:=zh (fun e w=>CS P (cA qT 120) none [10,8,9,11,0,1] [8,9,11,0,1,10] (qt [10,8,9,11,0,1] Y4 (q6f K)) e w) e w
abbrev YD K Y4:=qt [10,8,9,11,0,1] Y4 (q6f K)
def q6M a b c d f g h i w K Y4:=SG qT 120 [10,8,9,11,0,1] [8,9,11,0,1,10] (YD K Y4) 168 [(10,VI a),(8,VI b),(9,VB c),(11,VI d),(0,VS f g h),(1,VI i)] w
abbrev q5f K Y4:=kq qT 120 [10,8,9,11,0,1] [8,9,11,0,1,10] (YD K Y4)
abbrev qyU K Y4:=kq qT 240 [8,9,11,0,1,10] [8,9,11,0,1,10] (q5f K Y4)
def q4d a b c d f g h i j w K Y4:=SG qT 481 [8,9,11,0,1,10] [8,9,11,0,1,10] (q5f K Y4) 168 [(43,VB a),(8,VI b),(9,VB c),(11,VI d),(0,VS f g h),(1,VI i),(10,VI j)] w
def qm9 a b c d f g h i w K Y4:=SG qT 241 [10,8,9,11,0,1] [8,9,11,0,1,10] (YD K Y4) 168 [(8,VI a),(9,VB b),(11,VI c),(0,VS d f g),(1,VI h),(10,VI i)] w
abbrev qBh K Y4:=qn 1 (YD K Y4)
theorem qdB:qm9 a c d e f g h i w K Y4=(Y4 (qh.mk 168 [(10,(Value.int .i64 (IntKind.wrap .i64 (i+1)))),(8,(Value.int .i64 a)),(9,(Value.bool c)),(11,(Value.int .i64 d)),(0,(Value.slice e f g)),(1,(Value.int .i64 h))] []) w):=qz (jt 1 [8,9,11,0,1,10] (qBh K Y4) kr)
def q4P a b c d f g h i w K:=SG qT 31 [8,9] [8,9] (qQ K) 168 [(11,VI a),(8,VI b),(9,VB c),(0,VS d f g),(1,VI h),(10,VI i)] w
abbrev qlR K:=kq qT 31 [8,9] [8,9] (qQ K)
abbrev q5h K:=qn 2 (qlR K)
def qs3 K Y8 e w:=zh (fun e w=>CS P (cA qT 248) none [11,8,9,0,1,10] [8,9,11,0,1,10] (qt [11,8,9,0,1,10] Y8 (q5h K)) e w) e w
abbrev Vi K Y8:=qt [11,8,9,0,1,10] Y8 (q5h K)
def qaL a b c d f g h i w K Y8:=SG qT 248 [11,8,9,0,1,10] [8,9,11,0,1,10] (Vi K Y8) 168 [(11,VI a),(8,VI b),(9,VB c),(0,VS d f g),(1,VI h),(10,VI i)] w
abbrev q16 K Y8:=kq qT 248 [11,8,9,0,1,10] [8,9,11,0,1,10] (Vi K Y8)
abbrev qqf K Y8:=kq qT 496 [8,9,0,1,10,11] [8,9,11,0,1,10] (q16 K Y8)
def q4R a b c d f g h i j w K Y8:=SG qT 993 [8,9,0,1,10,11] [8,9,11,0,1,10] (q16 K Y8) 168 [(60,VB a),(8,VI b),(9,VB c),(0,VS d f g),(1,VI h),(10,VI i),(11,VI j)] w
def qaO a b c d f g h i w K Y8:=SG qT 497 [11,8,9,0,1,10] [8,9,11,0,1,10] (Vi K Y8) 168 [(8,VI a),(9,VB b),(0,VS c d f),(1,VI g),(10,VI h),(11,VI i)] w
abbrev qtg K Y8:=qn 3 (Vi K Y8)
theorem qbj:qaO a c d e f g h i w K Y8=(Y8 (qh.mk 168 [(11,(Value.int .i64 (IntKind.wrap .i64 (i-1)))),(8,(Value.int .i64 a)),(9,(Value.bool c)),(0,(Value.slice d e f)),(1,(Value.int .i64 g)),(10,(Value.int .i64 h))] []) w):=qz (jt 3 [8,9,11,0,1,10] (qtg K Y8) kr)
def q2j a b c d f g h i w K:=SG qT 63 [8,9] [8,9] (qQ K) 168 [(11,VI a),(0,VS b c d),(1,VI f),(8,VI g),(9,VB h),(10,VI i)] w
abbrev Yl K:=kq qT 63 [8,9] [8,9] (qQ K)
abbrev qro K:=kq qT 126 [8,9,0,1,11,10] [8,9] (Yl K)
def q7i a w K:=SG qT 1013 [8,9,0,1,11,10] [8,9] (Yl K) 168 [(11,VI a)] w
abbrev qqQ K:=kq qT 1013 [8,9,0,1,11,10] [8,9] (Yl K)
theorem q6G:q7i c w K=(K (Value.tuple #[(Value.int .i64 c),(Value.bool true)]) w):=qz (qB [8,9] (qqQ K) kr)
def qba a b c d f g h i w K:=SG qT 127 [8,9] [8,9] (qQ K) 168 [(8,VI a),(9,VB b),(0,VS c d f),(1,VI g),(11,VI h),(10,VI i)] w
abbrev qqr K:=kq qT 127 [8,9] [8,9] (qQ K)
def q8H a b c d f g h i w K:=SG qT 255 [8,9] [8,9] (qQ K) 168 [(8,VI a),(9,VB b),(0,VS c d f),(1,VI g),(11,VI h),(10,VI i)] w
abbrev qu7 K:=kq qT 255 [8,9] [8,9] (qQ K)
def q8A a b c d e f g h i j k w K:=SC qT 511 [8,9] [8,9] (qQ K) 168 [(10,VI a),(96,VI b),(95,VI c),(8,VI d),(9,VB e),(0,VS f g h),(1,VI i),(11,VI j),(10,VI k)] w
abbrev qtY K:=kq qT 511 [8,9] [8,9] (qQ K)
def q9z a b c d e f g h i j k l m n w K:=SC qT 1023 [8,9] [8,9] (qQ K) 168 [(11,VI a),(98,VI b),(97,VI c),(10,VI d),(96,VI e),(95,VI f),(8,VI g),(9,VB h),(0,VS i j k),(1,VI l),(11,VI m),(10,VI n)] w
abbrev q9L K:=kq qT 1023 [8,9] [8,9] (qQ K)
abbrev q21 K:=qn 4 (q9L K)
def q3e K Y17 e w:=zh (fun e w=>CS P (cA qT 8184) none [10,8,9,11,0,1] [8,9,11,0,1] (qt [10,8,9,11,0,1] Y17 (q21 K)) e w) e w
abbrev q3D K Y17:=qt [10,8,9,11,0,1] Y17 (q21 K)
def q3k a b c d f g h i w K Y17:=SG qT 8184 [10,8,9,11,0,1] [8,9,11,0,1] (q3D K Y17) 168 [(10,VI a),(8,VI b),(9,VB c),(11,VI d),(0,VS f g h),(1,VI i)] w
abbrev yy K Y17:=qn 5 (q3D K Y17)
abbrev q9P K Y17:=kq qT 16368 [10,8,9,11,0,1] [8,9,11,0,1,10] (yy K Y17)
abbrev q1r K Y17:=qn 6 (q9P K Y17)
def qnw K Y17 Y18 e w:=zh (fun e w=>CS P (cA qT 130944) none [10,8,9,11,0,1] [8,9,11,0,1,10] (qt [10,8,9,11,0,1] Y18 (q1r K Y17)) e w) e w
abbrev Zl K Y17 Y18:=qt [10,8,9,11,0,1] Y18 (q1r K Y17)
def q3W a b c d f g h i w K Y17 Y18:=SG qT 130944 [10,8,9,11,0,1] [8,9,11,0,1,10] (Zl K Y17 Y18) 168 [(10,VI a),(8,VI b),(9,VB c),(11,VI d),(0,VS f g h),(1,VI i)] w
abbrev q0W K Y17 Y18:=kq qT 130944 [10,8,9,11,0,1] [8,9,11,0,1,10] (Zl K Y17 Y18)
abbrev qum K Y17 Y18:=kq qT 261888 [8,9,11,0,1,10] [8,9,11,0,1,10] (q0W K Y17 Y18)
def q1x a b c d f g h i j w K Y17 Y18:=SG qT 523777 [8,9,11,0,1,10] [8,9,11,0,1,10] (q0W K Y17 Y18) 168 [(112,VB a),(8,VI b),(9,VB c),(11,VI d),(0,VS f g h),(1,VI i),(10,VI j)] w
def qaQ a b c d f g h i w K Y17 Y18:=SG qT 261889 [10,8,9,11,0,1] [8,9,11,0,1,10] (Zl K Y17 Y18) 168 [(8,VI a),(9,VB b),(11,VI c),(0,VS d f g),(1,VI h),(10,VI i)] w
abbrev qpL K Y17 Y18:=qn 7 (Zl K Y17 Y18)
theorem qa9:qaQ a c d e f g h i w K Y17 Y18=(Y18 (qh.mk 168 [(10,(Value.int .i64 (IntKind.wrap .i64 (i+1)))),(8,(Value.int .i64 a)),(9,(Value.bool c)),(11,(Value.int .i64 d)),(0,(Value.slice e f g)),(1,(Value.int .i64 h))] []) w):=qz (jt 7 [8,9,11,0,1,10] (qpL K Y17 Y18) kr)
def q22 a b c d f g h i w K Y17:=SG qT 32737 [10,8,9,11,0,1] [8,9,11,0,1,10] (yy K Y17) 168 [(11,VI a),(8,VI b),(9,VB c),(0,VS d f g),(1,VI h),(10,VI i)] w
abbrev qab K Y17:=kq qT 32737 [10,8,9,11,0,1] [8,9,11,0,1,10] (yy K Y17)
abbrev q1B K Y17:=qn 8 (qab K Y17)
def qov K Y17 Y22 e w:=zh (fun e w=>CS P (cA qT 261896) none [11,8,9,0,1,10] [8,9,11,0,1,10] (qt [11,8,9,0,1,10] Y22 (q1B K Y17)) e w) e w
abbrev Zd K Y17 Y22:=qt [11,8,9,0,1,10] Y22 (q1B K Y17)
def q3f a b c d f g h i w K Y17 Y22:=SG qT 261896 [11,8,9,0,1,10] [8,9,11,0,1,10] (Zd K Y17 Y22) 168 [(11,VI a),(8,VI b),(9,VB c),(0,VS d f g),(1,VI h),(10,VI i)] w
abbrev q1O K Y17 Y22:=kq qT 261896 [11,8,9,0,1,10] [8,9,11,0,1,10] (Zd K Y17 Y22)
abbrev qqJ K Y17 Y22:=kq qT 523792 [8,9,0,1,10,11] [8,9,11,0,1,10] (q1O K Y17 Y22)
def q1E a b c d f g h i j w K Y17 Y22:=SG qT 1047585 [8,9,0,1,10,11] [8,9,11,0,1,10] (q1O K Y17 Y22) 168 [(129,VB a),(8,VI b),(9,VB c),(0,VS d f g),(1,VI h),(10,VI i),(11,VI j)] w
def q9r a b c d f g h i w K Y17 Y22:=SG qT 523793 [11,8,9,0,1,10] [8,9,11,0,1,10] (Zd K Y17 Y22) 168 [(8,VI a),(9,VB b),(0,VS c d f),(1,VI g),(10,VI h),(11,VI i)] w
abbrev qts K Y17 Y22:=qn 9 (Zd K Y17 Y22)
theorem q6I:q9r a c d e f g h i w K Y17 Y22=(Y22 (qh.mk 168 [(11,(Value.int .i64 (IntKind.wrap .i64 (i-1)))),(8,(Value.int .i64 a)),(9,(Value.bool c)),(0,(Value.slice d e f)),(1,(Value.int .i64 g)),(10,(Value.int .i64 h))] []) w):=qz (jt 9 [8,9,11,0,1,10] (qts K Y17 Y22) kr)
def q2E a b c d f g h i w K Y17:=SG qT 65475 [10,8,9,11,0,1] [8,9,11,0,1,10] (yy K Y17) 168 [(8,VI a),(9,VB b),(11,VI c),(0,VS d f g),(1,VI h),(10,VI i)] w
abbrev qaS K Y17:=kq qT 65475 [10,8,9,11,0,1] [8,9,11,0,1,10] (yy K Y17)
abbrev qv3 K Y17:=kq qT 130950 [8,9,0,1,11,10] [8,9,11,0,1,10] (qaS K Y17)
def q9C a b c d f w K:=SG qT 2047 [8,9] [8,9] (qQ K) 168 [(11,VI a),(0,VS b c d),(1,VI f)] w
abbrev qrS K:=kq qT 2047 [8,9] [8,9] (qQ K)
def q7u a w K:=SG qT 4095 [8,9] [8,9] (qQ K) 168 [(11,VI a)] w
abbrev qu3 K:=kq qT 4095 [8,9] [8,9] (qQ K)
theorem qaA:q7u c w K=(K (Value.tuple #[(Value.int .i64 c),(Value.bool false)]) w):=qz (qB [8,9] (qu3 K) kr)
theorem q8U:q9C c e f g d w K=(qg e (fun j=>0<=d/\d<(f:Nat)/\qg e (fun k=>0<=c/\c<(f:Nat)/\∃ h:Int,w.drew.cell? (j.add (Int.toNat d*1))=some (.int .u32 h)/\∃ i:Int,w.drew.cell? (k.add (Int.toNat c*1))=some (.int .u32 i)/\qg e (fun l=>0<=c/\c<(f:Nat)/\zF (l.add (Int.toNat c*1)) (Value.int .u32 h) w.drew (fun m=>qg e (fun n=>0<=d/\d<(f:Nat)/\zF (n.add (Int.toNat d*1)) (Value.int .u32 i) m (fun o=>q7u c o K))))))):=qz (qB [11] (qrS K) kr)
def q7A a b c d f g h i w K Y17:=SG qT 130951 [10,8,9,11,0,1] [8,9,11,0,1,10] (yy K Y17) 168 [(8,VI a),(9,VB b),(0,VS c d f),(1,VI g),(11,VI h),(10,VI i)] w
abbrev qtc K Y17:=kq qT 130951 [10,8,9,11,0,1] [8,9,11,0,1,10] (yy K Y17)
def q8O a b c d f g h i w K Y17:=SG qT 261903 [10,8,9,11,0,1] [8,9,11,0,1,10] (yy K Y17) 168 [(8,VI a),(9,VB b),(0,VS c d f),(1,VI g),(11,VI h),(10,VI i)] w
abbrev qs0 K Y17:=kq qT 261903 [10,8,9,11,0,1] [8,9,11,0,1,10] (yy K Y17)
theorem q8K:q8O c d e f g h i j w K Y17=(Y17 (qh.mk 168 [(10,(Value.int .i64 (IntKind.wrap .i64 (j+1)))),(8,(Value.int .i64 c)),(9,(Value.bool d)),(11,(Value.int .i64 (IntKind.wrap .i64 (i-1)))),(0,(Value.slice e f g)),(1,(Value.int .i64 h))] []) w):=qz (qB [10,8,9,0,1,11] (qs0 K Y17) kr)
theorem q8M:q7A g h e f i j c d w K Y17=(qg e (fun m=>0<=c/\c<(f:Nat)/\qg e (fun n=>0<=d/\d<(f:Nat)/\∃ k:Int,w.drew.cell? (m.add (Int.toNat c*1))=some (.int .u32 k)/\∃ l:Int,w.drew.cell? (n.add (Int.toNat d*1))=some (.int .u32 l)/\qg e (fun o=>0<=d/\d<(f:Nat)/\zF (o.add (Int.toNat d*1)) (Value.int .u32 k) w.drew (fun p=>qg e (fun q=>0<=c/\c<(f:Nat)/\zF (q.add (Int.toNat c*1)) (Value.int .u32 l) p (fun r=>q8O g h e f i j c d r K Y17))))))):=qz (qB [8,9,0,1,11,10] (qtc K Y17) kr)
theorem qa0:q2E i j c d e f g h w K Y17=(qm (decide (h > c)) (q9C c d e f g w K) (q7A i j d e f g c h w K Y17)):=qz (qB [8,9,0,1,11,10] (qaS K Y17) (qB [134,8,9,11,0,1,10] (qv3 K Y17) kr))
theorem Jl:q1E j a c d e f g h i w K Y17 Y22=(qm j (q9r a c d e f g h i w K Y17 Y22) (q2E a c i d e f g h w K Y17)):=qz kr
theorem q4c:q3f c h i e f j d g w K Y17 Y22=(qm (decide (g<=c)) (qg e (fun n=>0<=c/\c<(f:Nat)/\qg e (fun o=>0<=d/\d<(f:Nat)/\∃ k:Int,w.drew.cell? (n.add (Int.toNat c*1))=some (.int .u32 k)/\∃ l:Int,w.drew.cell? (o.add (Int.toNat d*1))=some (.int .u32 l)/\q9 P 148 [(Value.int .u32 k),(Value.int .u32 l)] w.drew (fun p q=>∃ m:Bool,p=(.bool m)/\q1E (!m) h i e f j d g c q K Y17 Y22)))) (q1E false h i e f j d g c w.drew K Y17 Y22)):=qz (qB [8,9,0,1,10,11] (q1O K Y17 Y22) (qB [129,8,9,0,1,10,11] (qqJ K Y17 Y22) kr))
theorem qbd:q22 c d e f g h i j w K Y17=(qH (qov K Y17) (qh.mk 168 [(11,(Value.int .i64 c)),(8,(Value.int .i64 d)),(9,(Value.bool e)),(0,(Value.slice f g h)),(1,(Value.int .i64 i)),(10,(Value.int .i64 j))] []) w):=qz (qB [8,9,11,0,1,10] (qab K Y17) (jt 8 [8,9,11,0,1,10] (q1B K Y17) (CSv [8,9,11,0,1,10] [11,8,9,0,1,10])))
theorem Jk:q1x j a c d e f g h i w K Y17 Y18=(qm j (qaQ a c d e f g h i w K Y17 Y18) (q22 d a c e f g h i w K Y17)):=qz kr
theorem q5w:q3W c h i g e f j d w K Y17 Y18=(qm (decide (c<=g)) (qg e (fun n=>0<=c/\c<(f:Nat)/\qg e (fun o=>0<=d/\d<(f:Nat)/\∃ k:Int,w.drew.cell? (n.add (Int.toNat c*1))=some (.int .u32 k)/\∃ l:Int,w.drew.cell? (o.add (Int.toNat d*1))=some (.int .u32 l)/\q9 P 148 [(Value.int .u32 k),(Value.int .u32 l)] w.drew (fun p q=>∃ m:Bool,p=(.bool m)/\q1x m h i g e f j d c q K Y17 Y18)))) (q1x false h i g e f j d c w.drew K Y17 Y18)):=qz (qB [8,9,11,0,1,10] (q0W K Y17 Y18) (qB [112,8,9,11,0,1,10] (qum K Y17 Y18) kr))
theorem q43:q3k c d e f g h i j w K Y17=(qH (qnw K Y17) (qh.mk 168 [(10,(Value.int .i64 c)),(8,(Value.int .i64 d)),(9,(Value.bool e)),(11,(Value.int .i64 f)),(0,(Value.slice g h i)),(1,(Value.int .i64 j))] []) w):=qz (jt 5 [8,9,11,0,1,10] (yy K Y17) (qB [11,8,9,0,1,10] (q9P K Y17) (jt 6 [8,9,11,0,1,10] (q1r K Y17) (CSv [8,9,11,0,1,10] [10,8,9,11,0,1]))))
theorem q6F:q9z c k l d m n e f g h i j o p w K=(qH (q3e K) (qh.mk 168 [(10,(Value.int .i64 d)),(8,(Value.int .i64 e)),(9,(Value.bool f)),(11,(Value.int .i64 c)),(0,(Value.slice g h i)),(1,(Value.int .i64 j))] []) w):=Eq.trans (b:=CS P (cA qT 1023) none [8,9] [8,9] (qQ K) (qh.mk 168 [(11,(VI c)),(98,(VI k)),(97,(VI l)),(10,(VI d)),(96,(VI m)),(95,(VI n)),(8,(VI e)),(9,(VB f)),(0,(VS g h i)),(1,(VI j)),(11,(VI o)),(10,(VI p))] []) w) kr (Eq.trans (qU [11,0,1] (q9L K) kr) (Eq.trans (Qx 4 [8,9,11,0,1] (q21 K) kr) ((qL (b:=(cA qT 8184)) (X':=[8,9,11,0,1]) (H:=[10,8,9,11,0,1]) kr kr kr).trans kr)))
theorem qad:q8A d e f g h i j k l c m w K=(q9z (IntKind.wrap .i64 (c-1)) (IntKind.wrap .i64 (c-1)) c d e f g h i j k l c m w K):=Eq.trans (b:=CS P (cA qT 511) none [8,9] [8,9] (qQ K) (qh.mk 168 [(10,(VI d)),(96,(VI e)),(95,(VI f)),(8,(VI g)),(9,(VB h)),(0,(VS i j k)),(1,(VI l)),(11,(VI c)),(10,(VI m))] []) w) kr (Eq.trans (qU [10,8,9,11,0,1] (qtY K) kr) kr)
theorem qaC:q8H d e f g h i j c w K=(q8A (IntKind.wrap .i64 (c+1)) (IntKind.wrap .i64 (c+1)) c d e f g h i j c w K):=qz (qB [10,8,9,0,1,11] (qu7 K) kr)
theorem q9a:qba g h e f i j c d w K=(qg e (fun m=>0<=c/\c<(f:Nat)/\qg e (fun n=>0<=d/\d<(f:Nat)/\∃ k:Int,w.drew.cell? (m.add (Int.toNat c*1))=some (.int .u32 k)/\∃ l:Int,w.drew.cell? (n.add (Int.toNat d*1))=some (.int .u32 l)/\qg e (fun o=>0<=d/\d<(f:Nat)/\zF (o.add (Int.toNat d*1)) (Value.int .u32 k) w.drew (fun p=>qg e (fun q=>0<=c/\c<(f:Nat)/\zF (q.add (Int.toNat c*1)) (Value.int .u32 l) p (fun r=>q8H g h e f i j c d r K))))))):=qz (qB [8,9,0,1,11,10] (qqr K) kr)
theorem q7B:q2j c e f h d i j g w K=(qm (decide (g > c)) (qg e (fun m=>0<=d/\d<(f:Nat)/\qg e (fun n=>0<=c/\c<(f:Nat)/\∃ k:Int,w.drew.cell? (m.add (Int.toNat d*1))=some (.int .u32 k)/\∃ l:Int,w.drew.cell? (n.add (Int.toNat c*1))=some (.int .u32 l)/\qg e (fun o=>0<=c/\c<(f:Nat)/\zF (o.add (Int.toNat c*1)) (Value.int .u32 k) w.drew (fun p=>qg e (fun q=>0<=d/\d<(f:Nat)/\zF (q.add (Int.toNat d*1)) (Value.int .u32 l) p (fun r=>q7i c r K))))))) (qba i j e f h d c g w K)):=qz (qB [8,9,0,1,11,10] (Yl K) (qB [65,11,0,1,8,9,10] (qro K) kr))
theorem q0L:q4R j a c d e f g h i w K Y8=(qm j (qaO a c d e f g h i w K Y8) (q2j i d e f g a c h w K)):=qz kr
theorem qag:qaL c h i e f j d g w K Y8=(qm (decide (g<=c)) (qg e (fun n=>0<=c/\c<(f:Nat)/\qg e (fun o=>0<=d/\d<(f:Nat)/\∃ k:Int,w.drew.cell? (n.add (Int.toNat c*1))=some (.int .u32 k)/\∃ l:Int,w.drew.cell? (o.add (Int.toNat d*1))=some (.int .u32 l)/\q9 P 148 [(Value.int .u32 k),(Value.int .u32 l)] w.drew (fun p q=>∃ m:Bool,p=(.bool m)/\q4R (!m) h i e f j d g c q K Y8)))) (q4R false h i e f j d g c w.drew K Y8)):=qz (qB [8,9,0,1,10,11] (q16 K Y8) (qB [60,8,9,0,1,10,11] (qqf K Y8) kr))
theorem qc6:q4P c d e f g h i j w K=(qH (qs3 K) (qh.mk 168 [(11,(Value.int .i64 c)),(8,(Value.int .i64 d)),(9,(Value.bool e)),(0,(Value.slice f g h)),(1,(Value.int .i64 i)),(10,(Value.int .i64 j))] []) w):=qz (qB [11,0,1,8,9,10] (qlR K) (jt 2 [8,9,11,0,1,10] (q5h K) (CSv [8,9,11,0,1,10] [11,8,9,0,1,10])))
theorem q2I:q4d j a c d e f g h i w K Y4=(qm j (qm9 a c d e f g h i w K Y4) (q4P d a c e f g h i w K)):=qz kr
theorem qaK:q6M c h i g e f j d w K Y4=(qm (decide (c<=g)) (qg e (fun n=>0<=c/\c<(f:Nat)/\qg e (fun o=>0<=d/\d<(f:Nat)/\∃ k:Int,w.drew.cell? (n.add (Int.toNat c*1))=some (.int .u32 k)/\∃ l:Int,w.drew.cell? (o.add (Int.toNat d*1))=some (.int .u32 l)/\q9 P 148 [(Value.int .u32 k),(Value.int .u32 l)] w.drew (fun p q=>∃ m:Bool,p=(.bool m)/\q4d m h i g e f j d c q K Y4)))) (q4d false h i g e f j d c w.drew K Y4)):=qz (qB [8,9,11,0,1,10] (q5f K Y4) (qB [43,8,9,11,0,1,10] (qyU K Y4) kr))
theorem qcc:qip c d k l m n e f g h i j o w K=(qH (qtC K) (qh.mk 168 [(10,(Value.int .i64 d)),(8,(Value.int .i64 e)),(9,(Value.bool f)),(11,(Value.int .i64 c)),(0,(Value.slice g h i)),(1,(Value.int .i64 j))] []) w):=Eq.trans (b:=CS P (cA qT 15) none [8,9] [8,9] (qQ K) (qh.mk 168 [(11,(VI c)),(10,(VI d)),(29,(VI k)),(28,(VI l)),(27,(VI m)),(26,(VI n)),(8,(VI e)),(9,(VB f)),(0,(VS g h i)),(1,(VI j)),(2,(VI o))] []) w) kr (Eq.trans (qU [11,8,9,0,1,10] (ql3 K) kr) (Eq.trans (Qx 0 [8,9,11,0,1,10] (q6f K) kr) ((qL (b:=(cA qT 120)) (X':=[8,9,11,0,1,10]) (H:=[10,8,9,11,0,1]) kr kr kr).trans kr)))
theorem qcC:qkI e f g h i c d w K=(qip (IntKind.wrap .i64 (d-1)) (IntKind.wrap .i64 (c+1)) (IntKind.wrap .i64 (d-1)) d (IntKind.wrap .i64 (c+1)) c e f g h i c d w K):=qz (qB [10,8,9,11,0,1] (qz1 K) kr)
theorem qfY:qjS g e f h c i d w K=(qg e (fun l=>0<=d/\d<(f:Nat)/\qg e (fun m=>0<=c/\c<(f:Nat)/\∃ j:Int,w.drew.cell? (l.add (Int.toNat d*1))=some (.int .u32 j)/\∃ k:Int,w.drew.cell? (m.add (Int.toNat c*1))=some (.int .u32 k)/\qg e (fun n=>0<=c/\c<(f:Nat)/\zF (n.add (Int.toNat c*1)) (Value.int .u32 j) w.drew (fun o=>qg e (fun p=>0<=d/\d<(f:Nat)/\zF (p.add (Int.toNat d*1)) (Value.int .u32 k) o (fun q=>qkI g false e f h c i q K))))))):=Eq.trans (b:=CS P (cA qT 3) none [8,9] [8,9] (qQ K) (qh.mk 168 [(9,(VB false)),(8,(VI g)),(0,(VS e f h)),(1,(VI c)),(2,(VI i)),(3,(VI d))] []) w) kr (Eq.trans (qU [8,9,0,1,2] (qyF K) kr) kr)
theorem qd3:qll c d e f g h w K=(qjS 0 c d e f g h w K):=Eq.trans (b:=CS P (cA qT 1) none [8,9] [8,9] (qQ K) (qh.mk 168 [(0,(VS c d e)),(1,(VI f)),(2,(VI g)),(3,(VI h))] []) w) kr (Eq.trans (qU [8,9,0,1,2,3] (qvF K) kr) kr)
theorem qyg:f150 a b c d e f w K=(qll a b c d e f w K):=kr
theorem qyP a b c d e f w K(h:f150 a b c d e f w K):q9 P 150 [(Value.slice a b c),(Value.int .i64 d),(Value.int .i64 e),(Value.int .i64 f)] w K:=qy qT Tryz.func150 h
def zT:=ql Tryz.f149
def qIv:=Tryz.f149.results.toList
abbrev yd K:=qr P qIv K
def f149 a b c d e f w K:=CS P zT none [8] [8] (yd K) (qw 84 [(VS a b c),(VI d),(VI e),(VI f)]) w
def qhB a b c d e f w K:=SC zT 1 [8] [8] (yd K) 84 [(0,VS a b c),(1,VI d),(2,VI e),(3,VI f)] w
abbrev qz4 K:=kq zT 1 [8] [8] (yd K)
def qlU a b c d e f g w K:=SC zT 3 [8] [8] (yd K) 84 [(8,VI a),(0,VS b c d),(1,VI e),(2,VI f),(3,VI g)] w
abbrev qAe K:=kq zT 3 [8] [8] (yd K)
def qiN a b c d f g w K:=SG zT 7 [8] [8] (yd K) 84 [(8,VI a),(0,VS b c d),(1,VI f),(2,VI g)] w
abbrev qxO K:=kq zT 7 [8] [8] (yd K)
def qlz a b c d e f g h i j k l w K:=SC zT 15 [8] [8] (yd K) 84 [(10,VI a),(9,VI b),(28,VI c),(27,VI d),(26,VI e),(25,VI f),(8,VI g),(0,VS h i j),(1,VI k),(2,VI l)] w
abbrev qmE K:=kq zT 15 [8] [8] (yd K)
abbrev q42 K:=qn 0 (qmE K)
def q9Z K Y4 e w:=zh (fun e w=>CS P (cA zT 120) none [9,8,10,0,1] [8,9] (qt [9,8,10,0,1] Y4 (q42 K)) e w) e w
abbrev q8s K Y4:=qt [9,8,10,0,1] Y4 (q42 K)
def q7L a b c d f g h w K Y4:=SG zT 120 [9,8,10,0,1] [8,9] (q8s K Y4) 84 [(9,VI a),(8,VI b),(10,VI c),(0,VS d f g),(1,VI h)] w
abbrev vA K Y4:=qn 1 (q8s K Y4)
abbrev qkp K Y4:=kq zT 240 [9,8,10,0,1] [8,9,10,0,1] (vA K Y4)
abbrev q4T K Y4:=qn 2 (qkp K Y4)
def qsM K Y4 Y5 e w:=zh (fun e w=>CS P (cA zT 1920) none [9,8,10,0,1] [8,9,10,0,1] (qt [9,8,10,0,1] Y5 (q4T K Y4)) e w) e w
abbrev YW K Y4 Y5:=qt [9,8,10,0,1] Y5 (q4T K Y4)
def q8Z a b c d f g h w K Y4 Y5:=SG zT 1920 [9,8,10,0,1] [8,9,10,0,1] (YW K Y4 Y5) 84 [(9,VI a),(8,VI b),(10,VI c),(0,VS d f g),(1,VI h)] w
abbrev q5x K Y4 Y5:=kq zT 1920 [9,8,10,0,1] [8,9,10,0,1] (YW K Y4 Y5)
abbrev qz9 K Y4 Y5:=kq zT 3840 [8,10,0,1,9] [8,9,10,0,1] (q5x K Y4 Y5)
def q64 a b c d f g h i w K Y4 Y5:=SG zT 7681 [8,10,0,1,9] [8,9,10,0,1] (q5x K Y4 Y5) 84 [(43,VB a),(8,VI b),(10,VI c),(0,VS d f g),(1,VI h),(9,VI i)] w
def qj1 a b c d f g h w K Y4 Y5:=SG zT 3841 [9,8,10,0,1] [8,9,10,0,1] (YW K Y4 Y5) 84 [(8,VI a),(10,VI b),(0,VS c d f),(1,VI g),(9,VI h)] w
abbrev qql K Y4 Y5:=qn 3 (YW K Y4 Y5)
theorem qbz:qj1 a c d e f g h w K Y4 Y5=(Y5 (qh.mk 84 [(9,(Value.int .i64 (IntKind.wrap .i64 (h+1)))),(8,(Value.int .i64 a)),(10,(Value.int .i64 c)),(0,(Value.slice d e f)),(1,(Value.int .i64 g))] []) w):=qz (jt 3 [8,9,10,0,1] (qql K Y4 Y5) kr)
def q4j a b c d f g h w K Y4:=SG zT 481 [9,8,10,0,1] [8,9,10,0,1] (vA K Y4) 84 [(10,VI a),(8,VI b),(9,VI c),(0,VS d f g),(1,VI h)] w
abbrev q9B K Y4:=kq zT 481 [9,8,10,0,1] [8,9,10,0,1] (vA K Y4)
abbrev q1q K Y4:=qn 4 (q9B K Y4)
def qpF K Y4 Y9 e w:=zh (fun e w=>CS P (cA zT 3848) none [10,8,9,0,1] [8,9,10,0,1] (qt [10,8,9,0,1] Y9 (q1q K Y4)) e w) e w
abbrev Vh K Y4 Y9:=qt [10,8,9,0,1] Y9 (q1q K Y4)
def qam a b c d f g h w K Y4 Y9:=SG zT 3848 [10,8,9,0,1] [8,9,10,0,1] (Vh K Y4 Y9) 84 [(10,VI a),(8,VI b),(9,VI c),(0,VS d f g),(1,VI h)] w
abbrev q15 K Y4 Y9:=kq zT 3848 [10,8,9,0,1] [8,9,10,0,1] (Vh K Y4 Y9)
abbrev qr8 K Y4 Y9:=kq zT 7696 [8,9,0,1,10] [8,9,10,0,1] (q15 K Y4 Y9)
def q13 a b c d f g h i w K Y4 Y9:=SG zT 15393 [8,9,0,1,10] [8,9,10,0,1] (q15 K Y4 Y9) 84 [(59,VB a),(8,VI b),(9,VI c),(0,VS d f g),(1,VI h),(10,VI i)] w
def q6U a b c d f g h w K Y4 Y9:=SG zT 7697 [10,8,9,0,1] [8,9,10,0,1] (Vh K Y4 Y9) 84 [(8,VI a),(9,VI b),(0,VS c d f),(1,VI g),(10,VI h)] w
abbrev quG K Y4 Y9:=qn 5 (Vh K Y4 Y9)
theorem q6R:q6U a c d e f g h w K Y4 Y9=(Y9 (qh.mk 84 [(10,(Value.int .i64 (IntKind.wrap .i64 (h-1)))),(8,(Value.int .i64 a)),(9,(Value.int .i64 c)),(0,(Value.slice d e f)),(1,(Value.int .i64 g))] []) w):=qz (jt 5 [8,9,10,0,1] (quG K Y4 Y9) kr)
def q0G a b c d f g h w K Y4:=SG zT 963 [9,8,10,0,1] [8,9,10,0,1] (vA K Y4) 84 [(8,VI a),(9,VI b),(10,VI c),(0,VS d f g),(1,VI h)] w
abbrev q8w K Y4:=kq zT 963 [9,8,10,0,1] [8,9,10,0,1] (vA K Y4)
abbrev qtI K Y4:=kq zT 1926 [8,0,1,10,9] [8,9,10,0,1] (q8w K Y4)
def q8N a w K:=SG zT 31 [8] [8] (yd K) 84 [(9,VI a)] w
abbrev qu4 K:=kq zT 31 [8] [8] (yd K)
theorem q7f:q8N c w K=(K (Value.int .i64 c) w):=qz (qB [8] (qu4 K) kr)
def q8R a b c d f g h w K Y4:=SG zT 1927 [9,8,10,0,1] [8,9,10,0,1] (vA K Y4) 84 [(8,VI a),(0,VS b c d),(1,VI f),(10,VI g),(9,VI h)] w
abbrev qsf K Y4:=kq zT 1927 [9,8,10,0,1] [8,9,10,0,1] (vA K Y4)
def q7N a b c d f g h w K Y4:=SG zT 3855 [9,8,10,0,1] [8,9,10,0,1] (vA K Y4) 84 [(8,VI a),(0,VS b c d),(1,VI f),(10,VI g),(9,VI h)] w
abbrev qqC K Y4:=kq zT 3855 [9,8,10,0,1] [8,9,10,0,1] (vA K Y4)
theorem q7C:q7N c d e f g h i w K Y4=(Y4 (qh.mk 84 [(9,(Value.int .i64 (IntKind.wrap .i64 (i+1)))),(8,(Value.int .i64 c)),(10,(Value.int .i64 (IntKind.wrap .i64 (h-1)))),(0,(Value.slice d e f)),(1,(Value.int .i64 g))] []) w):=qz (qB [9,8,0,1,10] (qqC K Y4) kr)
theorem q9f:q8R g e f h i c d w K Y4=(qg e (fun l=>0<=c/\c<(f:Nat)/\qg e (fun m=>0<=d/\d<(f:Nat)/\∃ j:Int,w.drew.cell? (l.add (Int.toNat c*1))=some (.int .u32 j)/\∃ k:Int,w.drew.cell? (m.add (Int.toNat d*1))=some (.int .u32 k)/\qg e (fun n=>0<=d/\d<(f:Nat)/\zF (n.add (Int.toNat d*1)) (Value.int .u32 j) w.drew (fun o=>qg e (fun p=>0<=c/\c<(f:Nat)/\zF (p.add (Int.toNat c*1)) (Value.int .u32 k) o (fun q=>q7N g e f h i c d q K Y4))))))):=qz (qB [8,0,1,10,9] (qsf K Y4) kr)
theorem q7D:q0G e c d f g h i w K Y4=(qm (decide (c > d)) (q8N c w K) (q8R e f g h i d c w K Y4)):=qz (qB [8,0,1,10,9] (q8w K Y4) (qB [64,8,9,10,0,1] (qtI K Y4) kr))
theorem Jo:q13 i a c d e f g h w K Y4 Y9=(qm i (q6U a c d e f g h w K Y4 Y9) (q0G a c h d e f g w K Y4)):=qz kr
theorem q97:qam c h g e f i d w K Y4 Y9=(qm (decide (g<=c)) (qg e (fun m=>0<=d/\d<(f:Nat)/\qg e (fun n=>0<=c/\c<(f:Nat)/\∃ j:Int,w.drew.cell? (m.add (Int.toNat d*1))=some (.int .u32 j)/\∃ k:Int,w.drew.cell? (n.add (Int.toNat c*1))=some (.int .u32 k)/\q9 P 148 [(Value.int .u32 j),(Value.int .u32 k)] w.drew (fun o p=>∃ l:Bool,o=(.bool l)/\q13 l h g e f i d c p K Y4 Y9)))) (q13 false h g e f i d c w.drew K Y4 Y9)):=qz (qB [8,9,0,1,10] (q15 K Y4 Y9) (qB [59,8,9,0,1,10] (qr8 K Y4 Y9) kr))
theorem qdF:q4j c d e f g h i w K Y4=(qH (qpF K Y4) (qh.mk 84 [(10,(Value.int .i64 c)),(8,(Value.int .i64 d)),(9,(Value.int .i64 e)),(0,(Value.slice f g h)),(1,(Value.int .i64 i))] []) w):=qz (qB [8,9,10,0,1] (q9B K Y4) (jt 4 [8,9,10,0,1] (q1q K Y4) (CSv [8,9,10,0,1] [10,8,9,0,1])))
theorem q2e:q64 i a c d e f g h w K Y4 Y5=(qm i (qj1 a c d e f g h w K Y4 Y5) (q4j c a h d e f g w K Y4)):=qz kr
theorem q93:q8Z c h g e f i d w K Y4 Y5=(qm (decide (c<=g)) (qg e (fun m=>0<=d/\d<(f:Nat)/\qg e (fun n=>0<=c/\c<(f:Nat)/\∃ j:Int,w.drew.cell? (m.add (Int.toNat d*1))=some (.int .u32 j)/\∃ k:Int,w.drew.cell? (n.add (Int.toNat c*1))=some (.int .u32 k)/\q9 P 148 [(Value.int .u32 j),(Value.int .u32 k)] w.drew (fun o p=>∃ l:Bool,o=(.bool l)/\q64 (!l) h g e f i d c p K Y4 Y5)))) (q64 false h g e f i d c w.drew K Y4 Y5)):=qz (qB [8,10,0,1,9] (q5x K Y4 Y5) (qB [43,8,10,0,1,9] (qz9 K Y4 Y5) kr))
theorem q85:q7L c d e f g h i w K Y4=(qH (qsM K Y4) (qh.mk 84 [(9,(Value.int .i64 c)),(8,(Value.int .i64 d)),(10,(Value.int .i64 e)),(0,(Value.slice f g h)),(1,(Value.int .i64 i))] []) w):=qz (jt 1 [8,9,10,0,1] (vA K Y4) (qB [10,8,9,0,1] (qkp K Y4) (jt 2 [8,9,10,0,1] (q4T K Y4) (CSv [8,9,10,0,1] [9,8,10,0,1]))))
theorem qeA:qlz c d j k l m e f g h i n w K=(qH (q9Z K) (qh.mk 84 [(9,(Value.int .i64 d)),(8,(Value.int .i64 e)),(10,(Value.int .i64 c)),(0,(Value.slice f g h)),(1,(Value.int .i64 i))] []) w):=Eq.trans (b:=CS P (cA zT 15) none [8] [8] (yd K) (qh.mk 84 [(10,(VI c)),(9,(VI d)),(28,(VI j)),(27,(VI k)),(26,(VI l)),(25,(VI m)),(8,(VI e)),(0,(VS f g h)),(1,(VI i)),(2,(VI n))] []) w) kr (Eq.trans (qU [9] (qmE K) kr) (Eq.trans (Qx 0 [8,9] (q42 K) kr) ((qL (b:=(cA zT 120)) (X':=[8,9]) (H:=[9,8,10,0,1]) kr kr kr).trans kr)))
theorem qg6:qiN e f g h c d w K=(qlz (IntKind.wrap .i64 (d-1)) (IntKind.wrap .i64 (c+1)) (IntKind.wrap .i64 (d-1)) d (IntKind.wrap .i64 (c+1)) c e f g h c d w K):=qz (qB [9,8,10,0,1] (qxO K) kr)
theorem qhp:qlU g e f h c i d w K=(qg e (fun l=>0<=d/\d<(f:Nat)/\qg e (fun m=>0<=c/\c<(f:Nat)/\∃ j:Int,w.drew.cell? (l.add (Int.toNat d*1))=some (.int .u32 j)/\∃ k:Int,w.drew.cell? (m.add (Int.toNat c*1))=some (.int .u32 k)/\qg e (fun n=>0<=c/\c<(f:Nat)/\zF (n.add (Int.toNat c*1)) (Value.int .u32 j) w.drew (fun o=>qg e (fun p=>0<=d/\d<(f:Nat)/\zF (p.add (Int.toNat d*1)) (Value.int .u32 k) o (fun q=>qiN g e f h c i q K))))))):=Eq.trans (b:=CS P (cA zT 3) none [8] [8] (yd K) (qh.mk 84 [(8,(VI g)),(0,(VS e f h)),(1,(VI c)),(2,(VI i)),(3,(VI d))] []) w) kr (Eq.trans (qU [8,0,1,2] (qAe K) kr) kr)
theorem qgd:qhB c d e f g h w K=(qlU 0 c d e f g h w K):=Eq.trans (b:=CS P (cA zT 1) none [8] [8] (yd K) (qh.mk 84 [(0,(VS c d e)),(1,(VI f)),(2,(VI g)),(3,(VI h))] []) w) kr (Eq.trans (qU [8,0,1,2,3] (qz4 K) kr) kr)
theorem qxa:f149 a b c d e f w K=(qhB a b c d e f w K):=kr
theorem qB6 a b c d e f w K(h:f149 a b c d e f w K):q9 P 149 [(Value.slice a b c),(Value.int .i64 d),(Value.int .i64 e),(Value.int .i64 f)] w K:=qy zT Tryz.func149 h
end Go.Fx.Tryz
namespace Go.Fx.Tryz
open Go Go.Fx
set_option linter.all false
open Go.Proofs
open Go.Sort (swp swp_size ltInt scanUp scanDown scanUp_ge scanDown_le scanUp_spec partLoop partLoop_eq partition partEqLoop partEqLoop_eq partitionEqual)
variable {w0 w:World} {H X:qA} {K:KT}
set_option maxRecDepth 20000
section
variable {p:Int->Bool} {d:Array Int} {i j:Nat}
theorem q5m(h1:i<=j)(h2:p d[i]! = true):scanUp p d j i=scanUp p d j (i+1):=by
 conv=>lhs;rw[scanUp]
 rw[if_pos (by simp[h1,h2])]
theorem Qd(h:¬ (i<=j/\p d[i]! = true)):scanUp p d j i=i:=by
 rw[scanUp,if_neg (by simpa using h)]
theorem qtB(d:Array Int)(i j b:Nat)(hi:i<=b)(hj:j<b):scanUp p d j i<=b:=by
 by_cases h:i<=j+1
 ·have:=(scanUp_spec p d j _ i rfl).2.1 h;omega
 ·rw[Qd om];exact hi
theorem VH(h0:1<=i)(h1:i<=j)(h2:p d[j]! = true):scanDown p d i j=scanDown p d i (j-1):=by
 obtain⟨q,rfl⟩:∃ q,j=q+1:=⟨j-1,by omega⟩
 conv=>lhs;rw[scanDown]
 rw[if_pos (by simp[h1,h2])]
 rfl
theorem jc(h:¬ (i<=j/\p d[j]! = true)):scanDown p d i j=j:=by
 cases j with
 | zero=>rfl
 | succ q=>rw[scanDown,if_neg (by simpa using h)]
end
section
variable {g c:Nat} {T:TypeId} {z:List Value}
abbrev ptE(g c n a:Nat)(i j:Nat):qh:=qh.mk 168 [(10,(Value.int .i64 i)),(8,(Value.int .i64 0)),(9,(Value.bool false)),(11,(Value.int .i64 j)),(0,(Value.slice (some (Addr.mk g 0 none)) n c)),(1,(Value.int .i64 a))] []
abbrev ptF(g c n a:Nat)(i j:Nat):qh:=qh.mk 168 [(11,(Value.int .i64 j)),(8,(Value.int .i64 0)),(9,(Value.bool false)),(0,(Value.slice (some (Addr.mk g 0 none)) n c)),(1,(Value.int .i64 a)),(10,(Value.int .i64 i))] []
def qs4(w0:World)(X:qA)(E:Nat->qh)(p:Int->Bool)(d:Array Int)(a b j I:Nat)(m:Nat)(ee:qh)(w:World):Prop:=
 ∃ i:Nat,a<i/\i<=b/\m=j+1-i/\scanUp p d j i=I/\ee=E i/\St w0 w X
def qrK(w0:World)(X:qA)(E:Nat->qh)(p:Int->Bool)(d:Array Int)(b I J:Nat)(m:Nat)(ee:qh)(w:World):Prop:=
 ∃ j:Nat,j<b/\m=j/\scanDown p d I j=J/\ee=E j/\St w0 w X
def qs6(w0:World)(H:qA)(g c:Nat)(T:TypeId)(z:List Value)(n a b:Nat)(R:Nat × Array Int)(m:Nat)(ee:qh)(w:World):Prop:=
 ∃ (i j:Nat) (d:Array Int),a<i/\i<=b/\j<b/\m=j+1-i/\d.size=n/\partLoop ltInt a i j d=R/\ee=ptE g c n a i j/\St w0 w ((g,Cs (zM d z) T)::H)
theorem qpB{d:Array Int}{n a b i j:Nat}{R:Nat × Array Int}(h:St w0 w ((g,Cs (zM d z) T)::H))(ha:a<i)(hi:i<=b)(hj:j<b)(hd:d.size=n)(hb:b<=n)(hn:n<1000000000000)(hR:partLoop ltInt a i j d=R)
  (hK:∀ w',St w0 w' ((g,Cs (zM (swp R.2 R.1 a) z) T)::H)->K (.tuple [I64 (R.1:Nat),.bool false].toArray) w'):qH (q3e K) (ptE g c n a i j) w:=by
 refine⟨qs6 w0 H g c T z n a b R,⟨j+1-i,i,j,d,ha,hi,hj,rfl,hd,hR,rfl,h⟩,?_⟩
 clear h ha hi hj hd hR
 rintro m ee w7 ⟨i',j',d2,ha',hi',hj',rfl,hd2,hR,rfl,h7⟩
 show q3k ..
 rw[q43]
 rw[partLoop_eq]at hR
 subst hd2
 refine⟨qs4 w0 ((g,Cs (zM d2 z) T)::H) (fun i=>ptE g c d2.size a i j') (fun x=>ltInt x d2[a]!) d2 a b j' (scanUp (fun x=>ltInt x d2[a]!) d2 j' i'),⟨j'+1-i',i',ha',hi',rfl,rfl,rfl,h7⟩,?_⟩
 have gI:=qtB (p:=fun x=>ltInt x d2[a]!) d2 i' j' b hi' hj'
 have gI0:=scanUp_ge (fun x=>ltInt x d2[a]!) d2 j' i'
 generalize scanUp (fun x=>ltInt x d2[a]!) d2 j' i'=I2 at hR gI gI0
 rintro m ee w8 ⟨i3,ha3,hi3,rfl,hup3,rfl,h8⟩
 show q3W ..
 rw[q5w,qe]
 have after3:∀ w9,St w0 w9 ((g,Cs (zM d2 z) T)::H)->q22 (j':Int) 0 false (some (Addr.mk g 0 none)) d2.size c a I2 w9 K (fun e' w'=>∃ m,m<j'+1-i'/\qs6 w0 H g c T z d2.size a b R m e' w'):=by
  intro w9 h9
  rw[qbd]
  refine⟨qrK w0 ((g,Cs (zM d2 z) T)::H) (fun j=>ptF g c d2.size a I2 j) (fun x=>!ltInt x d2[a]!) d2 b I2 (scanDown (fun x=>!ltInt x d2[a]!) d2 I2 j'),⟨j',j',hj',rfl,rfl,rfl,h9⟩,?_⟩
  have gJ:=scanDown_le (fun x=>!ltInt x d2[a]!) d2 I2 j'
  generalize scanDown (fun x=>!ltInt x d2[a]!) d2 I2 j'=J2 at hR gJ
  rintro j4 ee w10 ⟨_,hj4,rfl,hdn4,rfl,h10⟩
  show q3f ..
  rw[q4c,qe]
  have after4:∀ w11,j4=J2->St w0 w11 ((g,Cs (zM d2 z) T)::H)->q2E 0 false (j4:Int) (some (Addr.mk g 0 none)) d2.size c a I2 w11 K (fun e' w'=>∃ m,m<j'+1-i'/\qs6 w0 H g c T z d2.size a b R m e' w'):=by
   intro w11 hj h11
   subst hj
   rw[qa0,qe]
   constructor
   ·intro hgt
    have hgt:I2 > j4:=by simpa using hgt
    rw[if_pos hgt]at hR
    subst hR
    rw[q8U]
    refine zV (i:=j4) (j:=a) rfl rfl om om h11 fun w12 h12=>?_
    rw[qaA]
    exact hK w12 h12
   ·intro hle
    have hle:¬ I2 > j4:=by simpa using hle
    rw[if_neg hle]at hR
    rw[q8M]
    refine zV (i:=I2) (j:=j4) rfl rfl om om h11 fun w12 h12=>?_
    have ej:IntKind.wrap .i64 ((j4:Int)-1)=((j4-1:Nat):Int):=by rw[qc om om];omega
    have ei:IntKind.wrap .i64 ((I2:Int)+1)=((I2+1:Nat):Int):=by rw[qc om om];omega
    rw[q8K,ei,ej]
    exact⟨j4-1+1-(I2+1),by omega,I2+1,j4-1,_,by omega,by omega,by omega,rfl,swp_size _ _ _,hR,rfl,h12⟩
  constructor
  ·intro hle
   have hle:I2<=j4:=by simpa using hle
   refine yb (i:=j4) (j:=a) rfl rfl om om h10 (.head _) fun w11 h11=>⟨_,rfl,?_⟩
   rw[Jl,qe]
   refine⟨fun hb'=>?_,fun hb'=>?_⟩
   ·rw[q6I]
    refine⟨j4-1,by omega,j4-1,by omega,rfl,?_,?_,h11⟩
    ·rw[<-hdn4];exact(VH om hle hb').symm
    ·rw[qc om om,show(j4:Int)-1=((j4-1:Nat):Int)by omega]
   ·refine after4 w11 ?_ h11
    rw[<-hdn4];exact(jc (fun hh=>by rw[hh.2]at hb';cases hb')).symm
  ·intro hgt
   have hgt:¬ I2<=j4:=by simpa using hgt
   rw[Jl,qb]
   refine after4 _ ?_ h10.drew
   rw[<-hdn4];exact(jc (fun hh=>hgt hh.1)).symm
 constructor
 ·intro hle
  have hle:i3<=j':=by simpa using hle
  refine yb (i:=i3) (j:=a) rfl rfl om om h8 (.head _) fun w9 h9=>⟨_,rfl,?_⟩
  rw[Jk,qe]
  refine⟨fun hb'=>?_,fun hb'=>?_⟩
  ·rw[qa9]
   refine⟨j'+1-(i3+1),by omega,i3+1,by omega,by omega,rfl,?_,?_,h9⟩
   ·rw[<-hup3];exact(q5m hle hb').symm
   ·rw[qc om om];rfl
  ·have:i3=I2:=by rw[<-hup3];exact(Qd (fun hh=>by rw[hh.2]at hb';cases hb')).symm
   rw[this]
   exact after3 w9 h9
 ·intro hgt
  have hgt:¬ i3<=j':=by simpa using hgt
  rw[Jk,qb]
  have:i3=I2:=by rw[<-hup3];exact(Qd (fun hh=>hgt hh.1)).symm
  rw[this]
  exact after3 _ h8.drew
theorem q6B{d:Array Int}{a b pv:Nat}(h:St w0 w ((g,Cs (zM d z) T)::H))(hap:a<=pv)(hpb:pv<b)(hb:b<=d.size)(hn:d.size<1000000000000)
  (hK:∀ w',St w0 w' ((g,Cs (zM (partition ltInt d a b pv).2.2 z) T)::H)->K (.tuple [I64 ((partition ltInt d a b pv).1:Nat),.bool (partition ltInt d a b pv).2.1].toArray) w') :
  q9 P 150 [.slice (some (Addr.mk g 0 none)) d.size c,.int .i64 a,.int .i64 b,.int .i64 pv] w K:=by
 refine qyP _ _ _ _ _ _ _ _ ?_
 rw[qyg,qd3,qfY]
 refine zV (i:=a) (j:=pv) rfl rfl om om h fun w1 h1=>?_
 have hs1:(swp d a pv).size=d.size:=swp_size _ _ _
 unfold partition at hK
 simp only at hK
 generalize swp d a pv=d1 at h1 hs1 hK
 have ej:IntKind.wrap .i64 ((b:Int)-1)=((b-1:Nat):Int):=by rw[qc om om];omega
 have ei:IntKind.wrap .i64 ((a:Int)+1)=((a+1:Nat):Int):=by rw[qc om om];omega
 rw[qcC,ej,ei,qcc,<-hs1]
 rw[<-hs1]at hb hn
 refine⟨qs4 w0 ((g,Cs (zM d1 z) T)::H) (fun i=>ptE g c d1.size a i (b-1)) (fun x=>ltInt x d1[a]!) d1 a b (b-1) (scanUp (fun x=>ltInt x d1[a]!) d1 (b-1) (a+1)),⟨b-1+1-(a+1),a+1,by omega,by omega,rfl,rfl,rfl,h1⟩,?_⟩
 have hI:=qtB (p:=fun x=>ltInt x d1[a]!) d1 (a+1) (b-1) b om om
 have hI0:=scanUp_ge (fun x=>ltInt x d1[a]!) d1 (b-1) (a+1)
 generalize hII:scanUp (fun x=>ltInt x d1[a]!) d1 (b-1) (a+1)=I at hK hI hI0
 rintro m ee w2 ⟨i,hai,hib,rfl,hup,rfl,h2⟩
 show q6M ..
 rw[qaK,qe]
 have after:∀ w3,St w0 w3 ((g,Cs (zM d1 z) T)::H)->q4P ((b-1:Nat):Int) 0 false (some (Addr.mk g 0 none)) d1.size c a I w3 K:=by
  intro w3 h3
  rw[qc6]
  refine⟨qrK w0 ((g,Cs (zM d1 z) T)::H) (fun j=>ptF g c d1.size a I j) (fun x=>!ltInt x d1[a]!) d1 b I (scanDown (fun x=>!ltInt x d1[a]!) d1 I (b-1)),⟨b-1,b-1,by omega,rfl,rfl,rfl,h3⟩,?_⟩
  have hJ:=scanDown_le (fun x=>!ltInt x d1[a]!) d1 I (b-1)
  generalize hJJ:scanDown (fun x=>!ltInt x d1[a]!) d1 I (b-1)=J at hK hJ
  rintro j ee w4 ⟨_,hjb,rfl,hdn,rfl,h4⟩
  show qaL ..
  rw[qag,qe]
  have after2:∀ w5,j=J->St w0 w5 ((g,Cs (zM d1 z) T)::H)->q2j (j:Int) (some (Addr.mk g 0 none)) d1.size c a 0 false I w5 K:=by
   intro w5 hjJ h5
   subst hjJ
   rw[q7B,qe]
   constructor
   ·intro hgt
    have hgt:I > j:=by simpa using hgt
    simp only[if_pos hgt]at hK
    refine zV (i:=j) (j:=a) rfl rfl om om h5 fun w6 h6=>?_
    rw[q6G]
    exact hK w6 h6
   ·intro hle
    have hle:¬ I > j:=by simpa using hle
    simp only[if_neg hle]at hK
    rw[q9a]
    refine zV (i:=I) (j:=j) rfl rfl om om h5 fun w6 h6=>?_
    have hs2:(swp d1 I j).size=d1.size:=swp_size _ _ _
    have ej:IntKind.wrap .i64 ((j:Int)-1)=((j-1:Nat):Int):=by rw[qc om om];omega
    have ei:IntKind.wrap .i64 ((I:Int)+1)=((I+1:Nat):Int):=by rw[qc om om];omega
    rw[qaC,ei,qad,ej,q6F]
    exact qpB h6 om om om hs2 hb hn rfl hK
  constructor
  ·intro hle
   have hle:I<=j:=by simpa using hle
   refine yb (i:=j) (j:=a) rfl rfl om om h4 (.head _) fun w5 h5=>⟨_,rfl,?_⟩
   rw[q0L,qe]
   refine⟨fun hb'=>?_,fun hb'=>?_⟩
   ·rw[qbj]
    refine⟨j-1,by omega,j-1,by omega,rfl,?_,?_,h5⟩
    ·rw[<-hdn];exact(VH om hle hb').symm
    ·rw[qc om om,show(j:Int)-1=((j-1:Nat):Int)by omega]
   ·refine after2 w5 ?_ h5
    rw[<-hdn];exact(jc (fun hh=>by rw[hh.2]at hb';cases hb')).symm
  ·intro hgt
   have hgt:¬ I<=j:=by simpa using hgt
   rw[q0L,qb]
   refine after2 _ ?_ h4.drew
   rw[<-hdn];exact(jc (fun hh=>hgt hh.1)).symm
 constructor
 ·intro hle
  have hle:i<=b-1:=by simp at hle;omega
  refine yb (i:=i) (j:=a) rfl rfl om om h2 (.head _) fun w3 h3=>⟨_,rfl,?_⟩
  rw[q2I,qe]
  refine⟨fun hb'=>?_,fun hb'=>?_⟩
  ·rw[qdB]
   refine⟨b-1+1-(i+1),by omega,i+1,by omega,by omega,rfl,?_,?_,h3⟩
   ·rw[<-hup];exact(q5m hle hb').symm
   ·rw[qc om om];rfl
  ·have:i=I:=by rw[<-hup];exact(Qd (fun hh=>by rw[hh.2]at hb';cases hb')).symm
   rw[this]
   exact after w3 h3
 ·intro hgt
  have hgt:¬ i<=b-1:=by simp at hgt;omega
  rw[q2I,qb]
  have:i=I:=by rw[<-hup];exact(Qd (fun hh=>hgt hh.1)).symm
  rw[this]
  exact after _ h2.drew
abbrev peE(g c n a:Nat)(i j:Nat):qh:=qh.mk 84 [(9,(Value.int .i64 i)),(8,(Value.int .i64 0)),(10,(Value.int .i64 j)),(0,(Value.slice (some (Addr.mk g 0 none)) n c)),(1,(Value.int .i64 a))] []
abbrev peF(g c n a:Nat)(i j:Nat):qh:=qh.mk 84 [(10,(Value.int .i64 j)),(8,(Value.int .i64 0)),(9,(Value.int .i64 i)),(0,(Value.slice (some (Addr.mk g 0 none)) n c)),(1,(Value.int .i64 a))] []
def qtK(w0:World)(H:qA)(g c:Nat)(T:TypeId)(z:List Value)(n a b:Nat)(R:Nat × Array Int)(m:Nat)(ee:qh)(w:World):Prop:=
 ∃ (i j:Nat) (d:Array Int),a<i/\i<=b/\j<b/\m=j+1-i/\d.size=n/\partEqLoop ltInt a i j d=R/\ee=peE g c n a i j/\St w0 w ((g,Cs (zM d z) T)::H)
theorem qaX{d:Array Int}{n a b i j:Nat}{R:Nat × Array Int}(h:St w0 w ((g,Cs (zM d z) T)::H))(ha:a<i)(hi:i<=b)(hj:j<b)(hd:d.size=n)(hb:b<=n)(hn:n<1000000000000)(hR:partEqLoop ltInt a i j d=R)
  (hK:∀ w',St w0 w' ((g,Cs (zM R.2 z) T)::H)->K (I64 (R.1:Nat)) w'):qH (q9Z K) (peE g c n a i j) w:=by
 refine⟨qtK w0 H g c T z n a b R,⟨j+1-i,i,j,d,ha,hi,hj,rfl,hd,hR,rfl,h⟩,?_⟩
 clear h ha hi hj hd hR
 rintro m ee w7 ⟨i',j',d2,ha',hi',hj',rfl,hd2,hR,rfl,h7⟩
 show q7L ..
 rw[q85]
 rw[partEqLoop_eq]at hR
 subst hd2
 refine⟨qs4 w0 ((g,Cs (zM d2 z) T)::H) (fun i=>peE g c d2.size a i j') (fun x=>!ltInt d2[a]! x) d2 a b j' (scanUp (fun x=>!ltInt d2[a]! x) d2 j' i'),⟨j'+1-i',i',ha',hi',rfl,rfl,rfl,h7⟩,?_⟩
 have gI:=qtB (p:=fun x=>!ltInt d2[a]! x) d2 i' j' b hi' hj'
 have gI0:=scanUp_ge (fun x=>!ltInt d2[a]! x) d2 j' i'
 generalize scanUp (fun x=>!ltInt d2[a]! x) d2 j' i'=I2 at hR gI gI0
 rintro m ee w8 ⟨i3,ha3,hi3,rfl,hup3,rfl,h8⟩
 show q8Z ..
 rw[q93,qe]
 have after3:∀ w9,St w0 w9 ((g,Cs (zM d2 z) T)::H)->q4j (j':Int) 0 I2 (some (Addr.mk g 0 none)) d2.size c a w9 K (fun e' w'=>∃ m,m<j'+1-i'/\qtK w0 H g c T z d2.size a b R m e' w'):=by
  intro w9 h9
  rw[qdF]
  refine⟨qrK w0 ((g,Cs (zM d2 z) T)::H) (fun j=>peF g c d2.size a I2 j) (fun x=>ltInt d2[a]! x) d2 b I2 (scanDown (fun x=>ltInt d2[a]! x) d2 I2 j'),⟨j',j',hj',rfl,rfl,rfl,h9⟩,?_⟩
  have gJ:=scanDown_le (fun x=>ltInt d2[a]! x) d2 I2 j'
  generalize scanDown (fun x=>ltInt d2[a]! x) d2 I2 j'=J2 at hR gJ
  rintro j4 ee w10 ⟨_,hj4,rfl,hdn4,rfl,h10⟩
  show qam ..
  rw[q97,qe]
  have after4:∀ w11,j4=J2->St w0 w11 ((g,Cs (zM d2 z) T)::H)->q0G 0 I2 (j4:Int) (some (Addr.mk g 0 none)) d2.size c a w11 K (fun e' w'=>∃ m,m<j'+1-i'/\qtK w0 H g c T z d2.size a b R m e' w'):=by
   intro w11 hj h11
   subst hj
   rw[q7D,qe]
   constructor
   ·intro hgt
    have hgt:I2 > j4:=by simpa using hgt
    rw[if_pos hgt]at hR
    subst hR
    rw[q7f]
    exact hK w11 h11
   ·intro hle
    have hle:¬ I2 > j4:=by simpa using hle
    rw[if_neg hle]at hR
    rw[q9f]
    refine zV (i:=I2) (j:=j4) rfl rfl om om h11 fun w12 h12=>?_
    have ej:IntKind.wrap .i64 ((j4:Int)-1)=((j4-1:Nat):Int):=by rw[qc om om];omega
    have ei:IntKind.wrap .i64 ((I2:Int)+1)=((I2+1:Nat):Int):=by rw[qc om om];omega
    rw[q7C,ei,ej]
    exact⟨j4-1+1-(I2+1),by omega,I2+1,j4-1,_,by omega,by omega,by omega,rfl,swp_size _ _ _,hR,rfl,h12⟩
  constructor
  ·intro hle
   have hle:I2<=j4:=by simpa using hle
   refine yb (i:=a) (j:=j4) rfl rfl om om h10 (.head _) fun w11 h11=>⟨_,rfl,?_⟩
   rw[Jo,qe]
   refine⟨fun hb'=>?_,fun hb'=>?_⟩
   ·rw[q6R]
    refine⟨j4-1,by omega,j4-1,by omega,rfl,?_,?_,h11⟩
    ·rw[<-hdn4];exact(VH om hle hb').symm
    ·rw[qc om om,show(j4:Int)-1=((j4-1:Nat):Int)by omega]
   ·refine after4 w11 ?_ h11
    rw[<-hdn4];exact(jc (fun hh=>by rw[hh.2]at hb';cases hb')).symm
  ·intro hgt
   have hgt:¬ I2<=j4:=by simpa using hgt
   rw[Jo,qb]
   refine after4 _ ?_ h10.drew
   rw[<-hdn4];exact(jc (fun hh=>hgt hh.1)).symm
 constructor
 ·intro hle
  have hle:i3<=j':=by simpa using hle
  refine yb (i:=a) (j:=i3) rfl rfl om om h8 (.head _) fun w9 h9=>⟨_,rfl,?_⟩
  rw[q2e,qe]
  refine⟨fun hb'=>?_,fun hb'=>?_⟩
  ·rw[qbz]
   refine⟨j'+1-(i3+1),by omega,i3+1,by omega,by omega,rfl,?_,?_,h9⟩
   ·rw[<-hup3];exact(q5m hle hb').symm
   ·rw[qc om om];rfl
  ·have:i3=I2:=by rw[<-hup3];exact(Qd (fun hh=>by rw[hh.2]at hb';cases hb')).symm
   rw[this]
   exact after3 w9 h9
 ·intro hgt
  have hgt:¬ i3<=j':=by simpa using hgt
  rw[q2e,qb]
  have:i3=I2:=by rw[<-hup3];exact(Qd (fun hh=>hgt hh.1)).symm
  rw[this]
  exact after3 _ h8.drew
theorem Vj{d:Array Int}{a b pv:Nat}(h:St w0 w ((g,Cs (zM d z) T)::H))(hap:a<=pv)(hpb:pv<b)(hb:b<=d.size)(hn:d.size<1000000000000)
  (hK:∀ w',St w0 w' ((g,Cs (zM (partitionEqual ltInt d a b pv).2 z) T)::H)->K (I64 ((partitionEqual ltInt d a b pv).1:Nat)) w') :
  q9 P 149 [.slice (some (Addr.mk g 0 none)) d.size c,.int .i64 a,.int .i64 b,.int .i64 pv] w K:=by
 refine qB6 _ _ _ _ _ _ _ _ ?_
 rw[qxa,qgd,qhp]
 refine zV (i:=a) (j:=pv) rfl rfl om om h fun w1 h1=>?_
 have hs1:(swp d a pv).size=d.size:=swp_size _ _ _
 unfold partitionEqual at hK
 generalize swp d a pv=d1 at h1 hs1 hK
 have ej:IntKind.wrap .i64 ((b:Int)-1)=((b-1:Nat):Int):=by rw[qc om om];omega
 have ei:IntKind.wrap .i64 ((a:Int)+1)=((a+1:Nat):Int):=by rw[qc om om];omega
 rw[qg6,ej,ei,qeA]
 exact qaX h1 om om om hs1 hb hn rfl hK
end
end Go.Fx.Tryz
namespace Go.Fx.Tryz
set_option maxRecDepth 100000
open Go Go.Fx Go.Proofs
def qO:=ql Tryz.f147
def qGX:=Tryz.f147.results.toList
abbrev yE K:=qr P qGX K
def f147 a b c d e w K:=CS P qO none [6] [6] (yE K) (qw 133 [(VS a b c),(VI d),(VI e)]) w
def qkn a b c d e w K:=SC qO 1 [6] [6] (yE K) 133 [(0,VS a b c),(1,VI d),(2,VI e)] w
abbrev qvS K:=kq qO 1 [6] [6] (yE K)
def qjN a b c d e w K:=SC qO 3 [6] [6] (yE K) 133 [(6,VB false),(0,VS a b c),(1,VI d),(2,VI e)] w
abbrev qAO K:=kq qO 3 [6] [6] (yE K)
def qhP a b c d e f g h w K:=SC qO 7 [6] [6] (yE K) 133 [(7,VI a),(12,VI b),(11,VI c),(6,VB false),(0,VS d e f),(1,VI g),(2,VI h)] w
abbrev YS K:=kq qO 7 [6] [6] (yE K)
abbrev qx3 K:=kq qO 14 [] [6] (YS K)
def qlc a b c d e f g h i w K:=SC qO 29 [] [6] (YS K) 133 [(8,VI a),(7,VI b),(12,VI c),(11,VI d),(6,VB false),(0,VS e f g),(1,VI h),(2,VI i)] w
abbrev q5c K:=qn 0 (YS K)
def quC K Y4 e w:=zh (fun e w=>CS P (cA qO 116) none [7,6,8,0,2,1] [6] (qt [7,6,8,0,2,1] Y4 (q5c K)) e w) e w
abbrev QZ K Y4:=qt [7,6,8,0,2,1] Y4 (q5c K)
def q81 a b c d f g h i w K Y4:=SG qO 116 [7,6,8,0,2,1] [6] (QZ K Y4) 133 [(7,VI a),(6,VB b),(8,VI c),(0,VS d f g),(2,VI h),(1,VI i)] w
abbrev qjl K Y4:=kq qO 116 [7,6,8,0,2,1] [6] (QZ K Y4)
abbrev qxP K Y4:=kq qO 232 [7,6,0,2,1,8] [6] (qjl K Y4)
def qhC a b c d f g h i w K Y4:=SG qO 233 [7,6,8,0,2,1] [6] (QZ K Y4) 133 [(7,VI a),(6,VB b),(0,VS c d f),(2,VI g),(1,VI h),(8,VI i)] w
abbrev qku K Y4:=kq qO 233 [7,6,8,0,2,1] [6] (QZ K Y4)
abbrev zD K Y4:=qn 1 (qku K Y4)
abbrev qle K Y4:=kq qO 932 [7,6,0,2,1,8] [6,7,0,2,1,8] (zD K Y4)
abbrev q1d K Y4:=qn 2 (qle K Y4)
def qqp K Y4 Y6 e w:=zh (fun e w=>CS P (cA qO 7456) none [7,6,0,2,1,8] [6,7,0,2,1,8] (qt [7,6,0,2,1,8] Y6 (q1d K Y4)) e w) e w
abbrev Vk K Y4 Y6:=qt [7,6,0,2,1,8] Y6 (q1d K Y4)
def qax a b c d f g h i w K Y4 Y6:=SG qO 7456 [7,6,0,2,1,8] [6,7,0,2,1,8] (Vk K Y4 Y6) 133 [(7,VI a),(6,VB b),(0,VS c d f),(2,VI g),(1,VI h),(8,VI i)] w
abbrev q1X K Y4 Y6:=kq qO 7456 [7,6,0,2,1,8] [6,7,0,2,1,8] (Vk K Y4 Y6)
abbrev qq3 K Y4 Y6:=kq qO 14912 [6,0,2,1,8,7] [6,7,0,2,1,8] (q1X K Y4 Y6)
def q5X a b c d f g h i j w K Y4 Y6:=SG qO 29825 [6,0,2,1,8,7] [6,7,0,2,1,8] (q1X K Y4 Y6) 133 [(32,VB a),(6,VB b),(0,VS c d f),(2,VI g),(1,VI h),(8,VI i),(7,VI j)] w
def qk3 a b c d f g h i w K Y4 Y6:=SG qO 14913 [7,6,0,2,1,8] [6,7,0,2,1,8] (Vk K Y4 Y6) 133 [(6,VB a),(0,VS b c d),(2,VI f),(1,VI g),(8,VI h),(7,VI i)] w
abbrev qty K Y4 Y6:=qn 3 (Vk K Y4 Y6)
theorem qhk:qk3 a c d e f g h i w K Y4 Y6=(Y6 (qh.mk 133 [(7,(Value.int .i64 (IntKind.wrap .i64 (i+1)))),(6,(Value.bool a)),(0,(Value.slice c d e)),(2,(Value.int .i64 f)),(1,(Value.int .i64 g)),(8,(Value.int .i64 h))] []) w):=qz (jt 3 [6,7,0,2,1,8] (qty K Y4 Y6) kr)
def q4r a b c d f g h i w K Y4:=SG qO 1865 [7,6,0,2,1,8] [6,7,0,2,1,8] (zD K Y4) 133 [(7,VI a),(0,VS b c d),(2,VI f),(1,VI g),(8,VI h),(6,VB i)] w
abbrev q7x K Y4:=kq qO 1865 [7,6,0,2,1,8] [6,7,0,2,1,8] (zD K Y4)
abbrev qr2 K Y4:=kq qO 3730 [7,0,2,1,8,6] [6,7,0,2,1,8] (q7x K Y4)
def q7k a b c d f g h i w K Y4:=SG qO 3731 [7,6,0,2,1,8] [6,7,0,2,1,8] (zD K Y4) 133 [(7,VI a),(0,VS b c d),(2,VI f),(1,VI g),(8,VI h),(6,VB i)] w
abbrev q6O K Y4:=kq qO 3731 [7,6,0,2,1,8] [6,7,0,2,1,8] (zD K Y4)
abbrev qtf K Y4:=kq qO 7462 [6,7,0,2,1,8] [6,7,0,2,1,8] (q6O K Y4)
def qbg a b c d f g h i w K Y4:=SG qO 7463 [7,6,0,2,1,8] [6,7,0,2,1,8] (zD K Y4) 133 [(6,VB a),(7,VI b),(0,VS c d f),(2,VI g),(1,VI h),(8,VI i)] w
abbrev qqM K Y4:=kq qO 7463 [7,6,0,2,1,8] [6,7,0,2,1,8] (zD K Y4)
def q0H a b c d f g h i w K Y4:=SG qO 14927 [7,6,0,2,1,8] [6,7,0,2,1,8] (zD K Y4) 133 [(6,VB a),(7,VI b),(0,VS c d f),(2,VI g),(1,VI h),(8,VI i)] w
abbrev vG K Y4:=kq qO 14927 [7,6,0,2,1,8] [6,7,0,2,1,8] (zD K Y4)
abbrev qpV K Y4:=kq qO 29854 [6,7,0,2,1,8] [6,7,0,2,1,8] (vG K Y4)
def q7T a b c d e f g h i j k l w K Y4:=SC qO 119418 [6,7,0,2,1,8] [6,7,0,2,1,8] (vG K Y4) 133 [(61,VB true),(61,VB a),(60,VI b),(59,VI c),(58,VI d),(6,VB e),(7,VI f),(0,VS g h i),(2,VI j),(1,VI k),(8,VI l)] w
abbrev qub K Y4:=kq qO 119418 [6,7,0,2,1,8] [6,7,0,2,1,8] (vG K Y4)
def q9M a b c d e f g h i j k l m n o w K Y4:=SC qO 238837 [6,7,0,2,1,8] [6,7,0,2,1,8] (vG K Y4) 133 [(9,VI a),(63,VI b),(62,VI c),(61,VB true),(61,VB d),(60,VI e),(59,VI f),(58,VI g),(6,VB h),(7,VI i),(0,VS j k l),(2,VI m),(1,VI n),(8,VI o)] w
abbrev q2d K Y4:=qn 4 (vG K Y4)
def qoa K Y4 Y15 e w:=zh (fun e w=>CS P (cA qO 955348) none [6,7,0,2,1,8,9] [6,7,0,2,1,8] (qt [6,7,0,2,1,8,9] Y15 (q2d K Y4)) e w) e w
abbrev jW K Y4 Y15:=qt [6,7,0,2,1,8,9] Y15 (q2d K Y4)
def q3C a b c d f g h i j w K Y4 Y15:=SG qO 955348 [6,7,0,2,1,8,9] [6,7,0,2,1,8] (jW K Y4 Y15) 133 [(6,VB a),(7,VI b),(0,VS c d f),(2,VI g),(1,VI h),(8,VI i),(9,VI j)] w
abbrev q7O K Y4 Y15:=kq qO 955348 [6,7,0,2,1,8,9] [6,7,0,2,1,8] (jW K Y4 Y15)
abbrev qtU K Y4 Y15:=kq qO 1910696 [6,7,0,2,1,8,9] [6,7,0,2,1,8] (q7O K Y4 Y15)
def q9G a b c d f g h i j w K Y4 Y15:=SG qO 1910697 [6,7,0,2,1,8,9] [6,7,0,2,1,8] (jW K Y4 Y15) 133 [(6,VB a),(7,VI b),(0,VS c d f),(2,VI g),(1,VI h),(8,VI i),(9,VI j)] w
abbrev qaJ K Y4 Y15:=kq qO 1910697 [6,7,0,2,1,8,9] [6,7,0,2,1,8] (jW K Y4 Y15)
abbrev q0S K Y4 Y15:=qn 5 (qaJ K Y4 Y15)
abbrev q17 K Y4 Y15:=kq qO 7642788 [6,7,0,2,1,8,9] [6,7,0,2,1,8,9] (q0S K Y4 Y15)
abbrev qrB K Y4 Y15:=kq qO 15285576 [6,7,0,2,1,8,9] [6,7,0,2,1,8,9] (q17 K Y4 Y15)
def q8E a b c d f g h i j k w K Y4 Y15:=SG qO 30571153 [6,7,0,2,1,8,9] [6,7,0,2,1,8,9] (q17 K Y4 Y15) 133 [(78,VB a),(6,VB b),(7,VI c),(0,VS d f g),(2,VI h),(1,VI i),(8,VI j),(9,VI k)] w
def Q8 a b c d f g h i w K Y4:=SG qO 29855 [7,6,0,2,1,8] [6,7,0,2,1,8] (zD K Y4) 133 [(6,VB a),(7,VI b),(0,VS c d f),(2,VI g),(1,VI h),(8,VI i)] w
abbrev qsU K Y4:=kq qO 29855 [7,6,0,2,1,8] [6,7,0,2,1,8] (zD K Y4)
def q9y a b c d e f g h i j k l w K Y4:=SC qO 119422 [7,6,0,2,1,8] [6,7,0,2,1,8] (zD K Y4) 133 [(98,VB true),(98,VB a),(97,VI b),(96,VI c),(95,VI d),(6,VB e),(7,VI f),(0,VS g h i),(2,VI j),(1,VI k),(8,VI l)] w
abbrev qpK K Y4:=kq qO 119422 [7,6,0,2,1,8] [6,7,0,2,1,8] (zD K Y4)
def qai a b c d e f g h i j k l m n o w K Y4:=SC qO 238845 [7,6,0,2,1,8] [6,7,0,2,1,8] (zD K Y4) 133 [(10,VI a),(100,VI b),(99,VI c),(98,VB true),(98,VB d),(97,VI e),(96,VI f),(95,VI g),(6,VB h),(7,VI i),(0,VS j k l),(2,VI m),(1,VI n),(8,VI o)] w
abbrev q25 K Y4:=qn 6 (zD K Y4)
def qoj K Y4 Y21 e w:=zh (fun e w=>CS P (cA qO 955380) none [6,7,0,2,1,8,10] [6,7,0,2,1,8] (qt [6,7,0,2,1,8,10] Y21 (q25 K Y4)) e w) e w
abbrev jY K Y4 Y21:=qt [6,7,0,2,1,8,10] Y21 (q25 K Y4)
def q38 a b c d f g h i j w K Y4 Y21:=SG qO 955380 [6,7,0,2,1,8,10] [6,7,0,2,1,8] (jY K Y4 Y21) 133 [(6,VB a),(7,VI b),(0,VS c d f),(2,VI g),(1,VI h),(8,VI i),(10,VI j)] w
abbrev qaW K Y4 Y21:=kq qO 955380 [6,7,0,2,1,8,10] [6,7,0,2,1,8] (jY K Y4 Y21)
abbrev qv2 K Y4 Y21:=kq qO 1910760 [6,7,0,2,1,8,10] [6,7,0,2,1,8] (qaW K Y4 Y21)
def qbh a b c d f g h i j w K Y4 Y21:=SG qO 1910761 [6,7,0,2,1,8,10] [6,7,0,2,1,8] (jY K Y4 Y21) 133 [(6,VB a),(7,VI b),(0,VS c d f),(2,VI g),(1,VI h),(8,VI i),(10,VI j)] w
abbrev q7v K Y4 Y21:=kq qO 1910761 [6,7,0,2,1,8,10] [6,7,0,2,1,8] (jY K Y4 Y21)
abbrev q1e K Y4 Y21:=qn 7 (q7v K Y4 Y21)
abbrev q29 K Y4 Y21:=kq qO 7643044 [6,7,0,2,1,8,10] [6,7,0,2,1,8,10] (q1e K Y4 Y21)
abbrev qth K Y4 Y21:=kq qO 15286088 [6,7,0,2,1,8,10] [6,7,0,2,1,8,10] (q29 K Y4 Y21)
def qaN a b c d f g h i j k w K Y4 Y21:=SG qO 30572177 [6,7,0,2,1,8,10] [6,7,0,2,1,8,10] (q29 K Y4 Y21) 133 [(116,VB a),(6,VB b),(7,VI c),(0,VS d f g),(2,VI h),(1,VI i),(8,VI j),(10,VI k)] w
def QK a b c d f g h i w K Y4:=SG qO 467 [7,6,8,0,2,1] [6] (QZ K Y4) 133 [(7,VI a),(6,VB b),(0,VS c d f),(2,VI g),(1,VI h),(8,VI i)] w
theorem qbn:QK a c d e f g h i w K Y4=(Y4 (qh.mk 133 [(7,(Value.int .i64 a)),(6,(Value.bool c)),(8,(Value.int .i64 (IntKind.wrap .i64 (i+1)))),(0,(Value.slice d e f)),(2,(Value.int .i64 g)),(1,(Value.int .i64 h))] []) w):=qz kr
def q7U a b c d f g h i j w K Y4 Y21:=SG qO 15286089 [6,7,0,2,1,8,10] [6,7,0,2,1,8,10] (q1e K Y4 Y21) 133 [(6,VB a),(7,VI b),(0,VS c d f),(2,VI g),(1,VI h),(8,VI i),(10,VI j)] w
def q7g a b c d f g h i j w K Y4 Y21:=SG qO 3821523 [6,7,0,2,1,8,10] [6,7,0,2,1,8] (jY K Y4 Y21) 133 [(6,VB a),(7,VI b),(0,VS c d f),(2,VI g),(1,VI h),(8,VI i),(10,VI j)] w
theorem qal:q7g a c d e f g h i j w K Y4 Y21=(Y21 (qh.mk 133 [(6,(Value.bool a)),(7,(Value.int .i64 c)),(0,(Value.slice d e f)),(2,(Value.int .i64 g)),(1,(Value.int .i64 h)),(8,(Value.int .i64 i)),(10,(Value.int .i64 (IntKind.wrap .i64 (j+1))))] []) w):=qz kr
theorem qay:q7U e f c d g h i j a w K Y4 Y21=(qg c (fun m=>0<=(IntKind.wrap .i64 (a-1))/\(IntKind.wrap .i64 (a-1))<(d:Nat)/\qg c (fun n=>0<=a/\a<(d:Nat)/\∃ k:Int,w.drew.cell? (m.add (Int.toNat (IntKind.wrap .i64 (a-1))*1))=some (.int .u32 k)/\∃ l:Int,w.drew.cell? (n.add (Int.toNat a*1))=some (.int .u32 l)/\qg c (fun o=>0<=a/\a<(d:Nat)/\zF (o.add (Int.toNat a*1)) (Value.int .u32 k) w.drew (fun p=>qg c (fun q=>0<=(IntKind.wrap .i64 (a-1))/\(IntKind.wrap .i64 (a-1))<(d:Nat)/\zF (q.add (Int.toNat (IntKind.wrap .i64 (a-1))*1)) (Value.int .u32 l) p (fun r=>q7g e f c d g h i j a r K Y4 Y21))))))):=qz kr
theorem qaj:qaN j a c d e f g h i k w K Y4 Y21=(qm j (QK c a d e f g h i w K Y4) (q7U a c d e f g h i k w K Y4 Y21)):=qz kr
theorem qah:qbh f g d e h i j k c w K Y4 Y21=(qg d (fun o=>0<=c/\c<(e:Nat)/\qg d (fun p=>0<=(IntKind.wrap .i64 (c-1))/\(IntKind.wrap .i64 (c-1))<(e:Nat)/\∃ l:Int,w.drew.cell? (o.add (Int.toNat c*1))=some (.int .u32 l)/\∃ m:Int,w.drew.cell? (p.add (Int.toNat (IntKind.wrap .i64 (c-1))*1))=some (.int .u32 m)/\q9 P 148 [(Value.int .u32 l),(Value.int .u32 m)] w.drew (fun q r=>∃ n:Bool,q=(.bool n)/\qaN (!n) f g d e h i j k c r K Y4 Y21)))):=qz (qB [6,7,0,2,1,8,10] (q7v K Y4 Y21) (jt 7 [6,7,0,2,1,8,10] (q1e K Y4 Y21) (qB [6,7,0,2,1,8,10] (q29 K Y4 Y21) (qB [116,6,7,0,2,1,8,10] (qth K Y4 Y21) kr))))
theorem q51:q38 d e f g h c i j k w K Y4 Y21=(qm (decide (k<c)) (qbh d e f g h c i j k w K Y4 Y21) (QK e d f g h c i j w K Y4)):=qz (qB [6,7,0,2,1,8,10] (qaW K Y4 Y21) (qB [103,6,7,0,2,1,8,10] (qv2 K Y4 Y21) kr))
theorem q9R:qai a k l m n o p c d e f g h i j w K Y4=(qH (qoj K Y4) (qh.mk 133 [(6,(Value.bool c)),(7,(Value.int .i64 d)),(0,(Value.slice e f g)),(2,(Value.int .i64 h)),(1,(Value.int .i64 i)),(8,(Value.int .i64 j)),(10,(Value.int .i64 a))] []) w):=Eq.trans (b:=CS P (cA qO 238845) none [7,6,0,2,1,8] [6,7,0,2,1,8] (zD K Y4) (qh.mk 133 [(10,(VI a)),(100,(VI k)),(99,(VI l)),(98,(VB true)),(98,(VB m)),(97,(VI n)),(96,(VI o)),(95,(VI p)),(6,(VB c)),(7,(VI d)),(0,(VS e f g)),(2,(VI h)),(1,(VI i)),(8,(VI j))] []) w) kr (Eq.trans (Qx 6 [6,7,0,2,1,8] (q25 K Y4) kr) ((qL (b:=(cA qO 955380)) (X':=[6,7,0,2,1,8]) (H:=[6,7,0,2,1,8,10]) kr kr kr).trans kr))
theorem q8p:q9y d e f g h c i j k l m n w K Y4=(qai (IntKind.wrap .i64 (c+1)) (IntKind.wrap .i64 (c+1)) c d e f g h c i j k l m n w K Y4):=Eq.trans (b:=CS P (cA qO 119422) none [7,6,0,2,1,8] [6,7,0,2,1,8] (zD K Y4) (qh.mk 133 [(98,(VB true)),(98,(VB d)),(97,(VI e)),(96,(VI f)),(95,(VI g)),(6,(VB h)),(7,(VI c)),(0,(VS i j k)),(2,(VI l)),(1,(VI m)),(8,(VI n))] []) w) kr (Eq.trans (qU [6,7,0,2,1,8,10] (qpK K Y4) kr) kr)
theorem q9x:Q8 e c f g h d i j w K Y4=(qm (decide ((IntKind.wrap .i64 (d-c))>=2)) (q9y (decide ((IntKind.wrap .i64 (d-c))>=2)) (IntKind.wrap .i64 (d-c)) c d e c f g h d i j w K Y4) (QK c e f g h d i j w K Y4)):=qz (qB [98,6,7,0,2,1,8] (qsU K Y4) kr)
def qat a b c d f g h i j w K Y4 Y15:=SG qO 15285577 [6,7,0,2,1,8,9] [6,7,0,2,1,8,9] (q0S K Y4 Y15) 133 [(6,VB a),(7,VI b),(0,VS c d f),(2,VI g),(1,VI h),(8,VI i),(9,VI j)] w
def q76 a b c d f g h i j w K Y4 Y15:=SG qO 3821395 [6,7,0,2,1,8,9] [6,7,0,2,1,8] (jW K Y4 Y15) 133 [(6,VB a),(7,VI b),(0,VS c d f),(2,VI g),(1,VI h),(8,VI i),(9,VI j)] w
theorem qb6:q76 a c d e f g h i j w K Y4 Y15=(Y15 (qh.mk 133 [(6,(Value.bool a)),(7,(Value.int .i64 c)),(0,(Value.slice d e f)),(2,(Value.int .i64 g)),(1,(Value.int .i64 h)),(8,(Value.int .i64 i)),(9,(Value.int .i64 (IntKind.wrap .i64 (j-1))))] []) w):=qz kr
theorem q89:qat e f c d g h i j a w K Y4 Y15=(qg c (fun m=>0<=(IntKind.wrap .i64 (a-1))/\(IntKind.wrap .i64 (a-1))<(d:Nat)/\qg c (fun n=>0<=a/\a<(d:Nat)/\∃ k:Int,w.drew.cell? (m.add (Int.toNat (IntKind.wrap .i64 (a-1))*1))=some (.int .u32 k)/\∃ l:Int,w.drew.cell? (n.add (Int.toNat a*1))=some (.int .u32 l)/\qg c (fun o=>0<=a/\a<(d:Nat)/\zF (o.add (Int.toNat a*1)) (Value.int .u32 k) w.drew (fun p=>qg c (fun q=>0<=(IntKind.wrap .i64 (a-1))/\(IntKind.wrap .i64 (a-1))<(d:Nat)/\zF (q.add (Int.toNat (IntKind.wrap .i64 (a-1))*1)) (Value.int .u32 l) p (fun r=>q76 e f c d g h i j a r K Y4 Y15))))))):=qz kr
theorem q7n:q8E j a c d e f g h i k w K Y4 Y15=(qm j (Q8 a c d e f g h i w K Y4) (qat a c d e f g h i k w K Y4 Y15)):=qz kr
theorem q8C:q9G f g d e h i j k c w K Y4 Y15=(qg d (fun o=>0<=c/\c<(e:Nat)/\qg d (fun p=>0<=(IntKind.wrap .i64 (c-1))/\(IntKind.wrap .i64 (c-1))<(e:Nat)/\∃ l:Int,w.drew.cell? (o.add (Int.toNat c*1))=some (.int .u32 l)/\∃ m:Int,w.drew.cell? (p.add (Int.toNat (IntKind.wrap .i64 (c-1))*1))=some (.int .u32 m)/\q9 P 148 [(Value.int .u32 l),(Value.int .u32 m)] w.drew (fun q r=>∃ n:Bool,q=(.bool n)/\q8E (!n) f g d e h i j k c r K Y4 Y15)))):=qz (qB [6,7,0,2,1,8,9] (qaJ K Y4 Y15) (jt 5 [6,7,0,2,1,8,9] (q0S K Y4 Y15) (qB [6,7,0,2,1,8,9] (q17 K Y4 Y15) (qB [78,6,7,0,2,1,8,9] (qrB K Y4 Y15) kr))))
theorem q62:q3C c d e f g h i j k w K Y4 Y15=(qm (decide (k>=1)) (q9G c d e f g h i j k w K Y4 Y15) (Q8 c d e f g h i j w K Y4)):=qz (qB [6,7,0,2,1,8,9] (q7O K Y4 Y15) (qB [65,6,7,0,2,1,8,9] (qtU K Y4 Y15) kr))
theorem qa3:q9M a k l m n o p c d e f g h i j w K Y4=(qH (qoa K Y4) (qh.mk 133 [(6,(Value.bool c)),(7,(Value.int .i64 d)),(0,(Value.slice e f g)),(2,(Value.int .i64 h)),(1,(Value.int .i64 i)),(8,(Value.int .i64 j)),(9,(Value.int .i64 a))] []) w):=Eq.trans (b:=CS P (cA qO 238837) none [6,7,0,2,1,8] [6,7,0,2,1,8] (vG K Y4) (qh.mk 133 [(9,(VI a)),(63,(VI k)),(62,(VI l)),(61,(VB true)),(61,(VB m)),(60,(VI n)),(59,(VI o)),(58,(VI p)),(6,(VB c)),(7,(VI d)),(0,(VS e f g)),(2,(VI h)),(1,(VI i)),(8,(VI j))] []) w) kr (Eq.trans (Qx 4 [6,7,0,2,1,8] (q2d K Y4) kr) ((qL (b:=(cA qO 955348)) (X':=[6,7,0,2,1,8]) (H:=[6,7,0,2,1,8,9]) kr kr kr).trans kr))
theorem q75:q7T d e f g h c i j k l m n w K Y4=(q9M (IntKind.wrap .i64 (c-1)) (IntKind.wrap .i64 (c-1)) c d e f g h c i j k l m n w K Y4):=Eq.trans (b:=CS P (cA qO 119418) none [6,7,0,2,1,8] [6,7,0,2,1,8] (vG K Y4) (qh.mk 133 [(61,(VB true)),(61,(VB d)),(60,(VI e)),(59,(VI f)),(58,(VI g)),(6,(VB h)),(7,(VI c)),(0,(VS i j k)),(2,(VI l)),(1,(VI m)),(8,(VI n))] []) w) kr (Eq.trans (qU [6,7,0,2,1,8,9] (qub K Y4) kr) kr)
theorem qaY:q0H e c f g h i d j w K Y4=(qm (decide ((IntKind.wrap .i64 (c-d))>=2)) (q7T (decide ((IntKind.wrap .i64 (c-d))>=2)) (IntKind.wrap .i64 (c-d)) d c e c f g h i d j w K Y4) (Q8 e c f g h i d j w K Y4)):=qz (qB [6,7,0,2,1,8] (vG K Y4) (qB [61,6,7,0,2,1,8] (qpV K Y4) kr))
theorem q6S:qbg f c d e g h i j w K Y4=(qg d (fun m=>0<=(IntKind.wrap .i64 (c-1))/\(IntKind.wrap .i64 (c-1))<(e:Nat)/\qg d (fun n=>0<=c/\c<(e:Nat)/\∃ k:Int,w.drew.cell? (m.add (Int.toNat (IntKind.wrap .i64 (c-1))*1))=some (.int .u32 k)/\∃ l:Int,w.drew.cell? (n.add (Int.toNat c*1))=some (.int .u32 l)/\qg d (fun o=>0<=c/\c<(e:Nat)/\zF (o.add (Int.toNat c*1)) (Value.int .u32 k) w.drew (fun p=>qg d (fun q=>0<=(IntKind.wrap .i64 (c-1))/\(IntKind.wrap .i64 (c-1))<(e:Nat)/\zF (q.add (Int.toNat (IntKind.wrap .i64 (c-1))*1)) (Value.int .u32 l) p (fun r=>q0H f c d e g h i j r K Y4))))))):=qz (qB [6,7,0,2,1,8] (qqM K Y4) kr)
theorem q7q:q7k e f g h c d i j w K Y4=(qm (decide ((IntKind.wrap .i64 (c-d))<50)) (K (Value.bool false) w) (qbg j e f g h c d i w K Y4)):=qz (qB [6,7,0,2,1,8] (q6O K Y4) (qB [41,7,0,2,1,8,6] (qtf K Y4) kr))
theorem qc8:q4r c e f g d h i j w K Y4=(qm (c==d) (K (Value.bool true) w) (q7k c e f g d h i j w K Y4)):=qz (qB [7,0,2,1,8,6] (q7x K Y4) (qB [37,7,0,2,1,8,6] (qr2 K Y4) kr))
theorem q2M:q5X j a c d e f g h i w K Y4 Y6=(qm j (qk3 a c d e f g h i w K Y4 Y6) (q4r i c d e f g h a w K Y4)):=qz kr
theorem qaR:qax c g d e h f i j w K Y4 Y6=(qm (decide (c<f)) (qg d (fun n=>0<=c/\c<(e:Nat)/\qg d (fun o=>0<=(IntKind.wrap .i64 (c-1))/\(IntKind.wrap .i64 (c-1))<(e:Nat)/\∃ k:Int,w.drew.cell? (n.add (Int.toNat c*1))=some (.int .u32 k)/\∃ l:Int,w.drew.cell? (o.add (Int.toNat (IntKind.wrap .i64 (c-1))*1))=some (.int .u32 l)/\q9 P 148 [(Value.int .u32 k),(Value.int .u32 l)] w.drew (fun p q=>∃ m:Bool,p=(.bool m)/\q5X (!m) g d e h f i j c q K Y4 Y6)))) (q5X false g d e h f i j c w.drew K Y4 Y6)):=qz (qB [6,0,2,1,8,7] (q1X K Y4 Y6) (qB [32,6,0,2,1,8,7] (qq3 K Y4 Y6) kr))
theorem qbv:qhC c d e f g h i j w K Y4=(qH (qqp K Y4) (qh.mk 133 [(7,(Value.int .i64 c)),(6,(Value.bool d)),(0,(Value.slice e f g)),(2,(Value.int .i64 h)),(1,(Value.int .i64 i)),(8,(Value.int .i64 j))] []) w):=qz (qB [7,6,0,2,1,8] (qku K Y4) (jt 1 [6,7,0,2,1,8] (zD K Y4) (qB [7,0,2,1,8,6] (qle K Y4) (jt 2 [6,7,0,2,1,8] (q1d K Y4) (CSv [6,7,0,2,1,8] [7,6,0,2,1,8])))))
def q9p w K:=SG qO 15 [6] [6] (yE K) 133 [] w
abbrev qtu K:=kq qO 15 [6] [6] (yE K)
theorem q8d:q9p w K=(K (Value.bool false) w):=qz (qB [6] (qtu K) kr)
theorem q90:q81 d e c f g h i j w K Y4=(qm (decide (c<5)) (qhC d e f g h i j c w K Y4) (q9p w K)):=qz (qB [7,6,0,2,1,8] (qjl K Y4) (qB [14,7,6,0,2,1,8] (qxP K Y4) kr))
theorem qfE:qlc a c i j d e f g h w K=(qH (quC K) (qh.mk 133 [(7,(Value.int .i64 c)),(6,(Value.bool false)),(8,(Value.int .i64 a)),(0,(Value.slice d e f)),(2,(Value.int .i64 h)),(1,(Value.int .i64 g))] []) w):=Eq.trans (b:=CS P (cA qO 29) none [] [6] (YS K) (qh.mk 133 [(8,(VI a)),(7,(VI c)),(12,(VI i)),(11,(VI j)),(6,(VB false)),(0,(VS d e f)),(1,(VI g)),(2,(VI h))] []) w) kr (Eq.trans (Qx 0 [6] (q5c K) kr) ((qL (b:=(cA qO 116)) (X':=[6]) (H:=[7,6,8,0,2,1]) kr kr kr).trans kr))
theorem qh2:qhP c d e f g h i j w K=(qlc 0 c d e f g h i j w K):=Eq.trans (b:=CS P (cA qO 7) none [6] [6] (yE K) (qh.mk 133 [(7,(VI c)),(12,(VI d)),(11,(VI e)),(6,(VB false)),(0,(VS f g h)),(1,(VI i)),(2,(VI j))] []) w) kr (Eq.trans (qU [] (YS K) kr) (Eq.trans (qU [7,6,8,0,2,1] (qx3 K) kr) kr))
theorem qdj:qjN d e f c g w K=(qhP (IntKind.wrap .i64 (c+1)) (IntKind.wrap .i64 (c+1)) c d e f c g w K):=Eq.trans (b:=CS P (cA qO 3) none [6] [6] (yE K) (qh.mk 133 [(6,(VB false)),(0,(VS d e f)),(1,(VI c)),(2,(VI g))] []) w) kr (Eq.trans (qU [7,6,0,2,1] (qAO K) kr) kr)
theorem qdn:qkn c d e f g w K=(qjN c d e f g w K):=Eq.trans (b:=CS P (cA qO 1) none [6] [6] (yE K) (qh.mk 133 [(0,(VS c d e)),(1,(VI f)),(2,(VI g))] []) w) kr (Eq.trans (qU [6,0,2,1] (qvS K) kr) kr)
theorem qBk:f147 a b c d e w K=(qkn a b c d e w K):=kr
theorem qyI a b c d e w K(h:f147 a b c d e w K):q9 P 147 [(Value.slice a b c),(Value.int .i64 d),(Value.int .i64 e)] w K:=qy qO Tryz.func147 h
end Go.Fx.Tryz
namespace Go.Fx.Tryz
open Go Go.Fx
set_option linter.all false
open Go.Proofs
open Go.Sort (swp swp_size ltInt scanSorted shiftDown shiftUp partialIns partialInsertionSort)
variable {w0 w:World} {H X:qA} {K:KT}
set_option maxRecDepth 20000
section
variable {g c:Nat} {T:TypeId} {z:List Value} {Y4:YT}
theorem Z6:∀ (j:Nat) (d:Array Int),(shiftDown ltInt j d).size=d.size
 | 0,d=>rfl
 | j+1,d=>by
  unfold shiftDown
  split
  ·rfl
  ·rw[Z6 j,swp_size]
theorem YZ(b:Nat):∀ (m j:Nat) (d:Array Int),b-j=m->(shiftUp ltInt b j d).size=d.size
 | 0,j,d,h=>by rw[shiftUp,if_neg om]
 | m+1,j,d,h=>by
  rw[shiftUp,if_pos om]
  split
  ·rfl
  ·rw[YZ b m (j+1) _ om,swp_size]
def qHn(w0:World)(H:qA)(g c:Nat)(T:TypeId)(z:List Value)(n a b i s:Nat)(D:Array Int)(m:Nat)(ee:qh)(w:World):Prop:=
 ∃ (k:Nat) (d:Array Int),i<k/\k<=b/\m=b-k/\d.size=n/\shiftUp ltInt b k d=D/\ee=qh.mk 133 [(6,(Value.bool false)),(7,(Value.int .i64 i)),(0,(Value.slice (some (Addr.mk g 0 none)) n c)),(2,(Value.int .i64 b)),(1,(Value.int .i64 a)),(8,(Value.int .i64 s)),(10,(Value.int .i64 k))] []/\St w0 w ((g,Cs (zM d z) T)::H)
theorem qEi{d:Array Int}{n a b i s:Nat}(h:St w0 w ((g,Cs (zM d z) T)::H))(hd:d.size=n)(hi:i<b)(hb:b<=n)(hn:n<1000000000000)
  (hK:∀ w',St w0 w' ((g,Cs (zM (if b-i>=2 then shiftUp ltInt b (i+1) d else d) z) T)::H)->QK i false (some (Addr.mk g 0 none)) n c b a s w' K Y4) :
  Q8 false i (some (Addr.mk g 0 none)) n c b a s w K Y4:=by
 have e1:IntKind.wrap .i64 ((b:Int)-(i:Int))=((b-i:Nat):Int):=by rw[qc om om];omega
 have e2:IntKind.wrap .i64 ((i:Int)+1)=((i+1:Nat):Int):=by rw[qc om om];omega
 rw[q9x,e1,qe]
 refine⟨fun h2=>?_,fun h2=>?_⟩
 ·have h2:b-i>=2:=by simp at h2;omega
  rw[if_pos h2]at hK
  rw[q8p,e2,q9R]
  refine⟨qHn w0 H g c T z n a b i s (shiftUp ltInt b (i+1) d),⟨b-(i+1),i+1,d,by omega,by omega,rfl,hd,rfl,rfl,h⟩,?_⟩
  generalize shiftUp ltInt b (i+1) d=D at hK
  clear h hd
  rintro m ee w1 ⟨k,d,hik,hkb,rfl,hd,hD,rfl,h1⟩
  show q38 ..
  subst hd
  rw[shiftUp]at hD
  rw[q51,qe]
  constructor
  ·intro hlt
   have hlt:k<b:=by simpa using hlt
   rw[if_pos hlt]at hD
   have ek:IntKind.wrap .i64 ((k:Int)-1)=((k-1:Nat):Int):=by rw[qc om om];omega
   rw[qah]
   refine yb (i:=k) (j:=k-1) rfl ek om om h1 (.head _) fun w2 h2=>⟨_,rfl,?_⟩
   rw[qaj,qe]
   refine⟨fun hb'=>?_,fun hb'=>?_⟩
   ·rw[if_pos hb']at hD
    subst hD
    exact hK w2 h2
   ·rw[if_neg (by simp[hb'])]at hD
    rw[qay]
    refine zV (i:=k) (j:=k-1) rfl ek om om h2 fun w3 h3=>?_
    rw[qal]
    refine⟨b-(k+1),by omega,k+1,_,by omega,by omega,rfl,swp_size _ _ _,hD,?_,h3⟩
    rw[qc om om];rfl
  ·intro hge
   have hge:¬ k<b:=by simpa using hge
   rw[if_neg hge]at hD
   subst hD
   exact hK w1 h1
 ·have h2:¬ b-i>=2:=by simp at h2;omega
  rw[if_neg h2]at hK
  exact hK w h
def qGj(w0:World)(H:qA)(g c:Nat)(T:TypeId)(z:List Value)(n a b i s:Nat)(D:Array Int)(m:Nat)(ee:qh)(w:World):Prop:=
 ∃ (k:Nat) (d:Array Int),k<i/\m=k/\d.size=n/\shiftDown ltInt k d=D/\ee=qh.mk 133 [(6,(Value.bool false)),(7,(Value.int .i64 i)),(0,(Value.slice (some (Addr.mk g 0 none)) n c)),(2,(Value.int .i64 b)),(1,(Value.int .i64 a)),(8,(Value.int .i64 s)),(9,(Value.int .i64 k))] []/\St w0 w ((g,Cs (zM d z) T)::H)
theorem qF4{d:Array Int}{n a b i s:Nat}(h:St w0 w ((g,Cs (zM d z) T)::H))(hd:d.size=n)(hai:a<i)(hi:i<b)(hb:b<=n)(hn:n<1000000000000)
  (hK:∀ w',St w0 w' ((g,Cs (zM (if i-a>=2 then shiftDown ltInt (i-1) d else d) z) T)::H)->Q8 false i (some (Addr.mk g 0 none)) n c b a s w' K Y4) :
  q0H false i (some (Addr.mk g 0 none)) n c b a s w K Y4:=by
 have e1:IntKind.wrap .i64 ((i:Int)-(a:Int))=((i-a:Nat):Int):=by rw[qc om om];omega
 have e2:IntKind.wrap .i64 ((i:Int)-1)=((i-1:Nat):Int):=by rw[qc om om];omega
 rw[qaY,e1,qe]
 refine⟨fun h2=>?_,fun h2=>?_⟩
 ·have h2:i-a>=2:=by simp at h2;omega
  rw[if_pos h2]at hK
  rw[q75,e2,qa3]
  refine⟨qGj w0 H g c T z n a b i s (shiftDown ltInt (i-1) d),⟨i-1,i-1,d,by omega,rfl,hd,rfl,rfl,h⟩,?_⟩
  generalize shiftDown ltInt (i-1) d=D at hK
  clear h hd
  rintro k ee w1 ⟨_,d,hki,rfl,hd,hD,rfl,h1⟩
  show q3C ..
  subst hd
  rw[q62,qe]
  constructor
  ·intro hge
   obtain⟨q,rfl⟩:∃ q,k=q+1:=⟨k-1,by simp at hge;omega⟩
   have ek:IntKind.wrap .i64 (((q+1:Nat):Int)-1)=(q:Int):=by rw[qc om om];omega
   unfold shiftDown at hD
   rw[q8C]
   refine yb (i:=q+1) (j:=q) rfl ek om om h1 (.head _) fun w2 h2=>⟨_,rfl,?_⟩
   rw[q7n,qe]
   refine⟨fun hb'=>?_,fun hb'=>?_⟩
   ·rw[if_pos hb']at hD
    subst hD
    exact hK w2 h2
   ·rw[if_neg (by simp[hb'])]at hD
    rw[q89]
    refine zV (i:=q+1) (j:=q) rfl ek om om h2 fun w3 h3=>?_
    rw[qb6,ek]
    exact⟨q,by omega,q,_,by omega,rfl,swp_size _ _ _,hD,rfl,h3⟩
  ·intro hlt
   have:k=0:=by simp at hlt;omega
   subst this
   have hD:d=D:=hD
   subst hD
   exact hK w1 h1
 ·have h2:¬ i-a>=2:=by simp at h2;omega
  rw[if_neg h2]at hK
  exact hK w h
def qHi(w0:World)(X:qA)(g c:Nat)(d:Array Int)(a b s I:Nat)(m:Nat)(ee:qh)(w:World):Prop:=
 ∃ i:Nat,a<i/\i<=b/\m=b-i/\scanSorted ltInt d b i=I/\ee=qh.mk 133 [(7,(Value.int .i64 i)),(6,(Value.bool false)),(0,(Value.slice (some (Addr.mk g 0 none)) d.size c)),(2,(Value.int .i64 b)),(1,(Value.int .i64 a)),(8,(Value.int .i64 s))] []/\St w0 w X
def qC1(w0:World)(H:qA)(g c:Nat)(T:TypeId)(z:List Value)(n a b:Nat)(R:Array Int × Bool)(m:Nat)(ee:qh)(w:World):Prop:=
 ∃ (i:Nat) (d:Array Int),a<i/\i<=b/\m<=5/\d.size=n/\partialIns ltInt a b m i d=R/\ee=qh.mk 133 [(7,(Value.int .i64 i)),(6,(Value.bool false)),(8,(Value.int .i64 ((5-m:Nat):Int))),(0,(Value.slice (some (Addr.mk g 0 none)) n c)),(2,(Value.int .i64 b)),(1,(Value.int .i64 a))] []/\St w0 w ((g,Cs (zM d z) T)::H)
theorem qd9{d:Array Int}{a b:Nat}(h:St w0 w ((g,Cs (zM d z) T)::H))(hab:a<b)(hb:b<=d.size)(hn:d.size<1000000000000)
  (hK:∀ w',St w0 w' ((g,Cs (zM (partialInsertionSort ltInt d a b).1 z) T)::H)->K (.bool (partialInsertionSort ltInt d a b).2) w') :
  q9 P 147 [.slice (some (Addr.mk g 0 none)) d.size c,.int .i64 a,.int .i64 b] w K:=by
 refine qyI _ _ _ _ _ _ _ ?_
 have ei:IntKind.wrap .i64 ((a:Int)+1)=((a+1:Nat):Int):=by rw[qc om om];omega
 rw[qBk,qdn,qdj,ei,qh2,qfE]
 unfold partialInsertionSort at hK
 refine⟨qC1 w0 H g c T z d.size a b (partialIns ltInt a b 5 (a+1) d),⟨5,a+1,d,by omega,by omega,by omega,rfl,rfl,rfl,h⟩,?_⟩
 generalize hnn:d.size=n at hb hn
 generalize partialIns ltInt a b 5 (a+1) d=R at hK
 clear h hnn d
 rintro m ee w1 ⟨i,d,hai,hib,hm5,hd,hR,rfl,h1⟩
 show q81 ..
 subst hd
 rw[q90,qe]
 constructor
 ·intro hlt
  obtain⟨m,rfl⟩:∃ q,m=q+1:=⟨m-1,by simp at hlt;omega⟩
  rw[qbv]
  unfold partialIns at hR
  simp only at hR
  refine⟨qHi w0 ((g,Cs (zM d z) T)::H) g c d a b (5-(m+1)) (scanSorted ltInt d b i),⟨b-i,i,hai,hib,rfl,rfl,rfl,h1⟩,?_⟩
  generalize scanSorted ltInt d b i=I at hR
  clear h1
  rintro q ee w2 ⟨i2,hai2,hib2,rfl,hI,rfl,h2⟩
  show qax ..
  rw[scanSorted]at hI
  rw[qaR,qe]
  have after:∀ w3,i2=I->St w0 w3 ((g,Cs (zM d z) T)::H)->q4r i2 (some (Addr.mk g 0 none)) d.size c b a ((5-(m+1):Nat):Int) false w3 K (fun e' w'=>∃ m',m'<m+1/\qC1 w0 H g c T z d.size a b R m' e' w'):=by
   intro w3 hi h3
   subst hi
   rw[qc8,qe]
   refine⟨fun he=>?_,fun he=>?_⟩
   ·have he:i2=b:=by simp at he;omega
    rw[if_pos he]at hR
    subst hR
    exact hK w3 h3
   ·have he:i2≠b:=by simp at he;omega
    rw[if_neg he]at hR
    have e1:IntKind.wrap .i64 ((b:Int)-(a:Int))=((b-a:Nat):Int):=by rw[qc om om];omega
    rw[q7q,e1,qe]
    refine⟨fun h50=>?_,fun h50=>?_⟩
    ·have h50:b-a<50:=by simp at h50;omega
     rw[if_pos h50]at hR
     subst hR
     exact hK w3 h3
    ·have h50:¬ b-a<50:=by simp at h50;omega
     rw[if_neg h50]at hR
     have e2:IntKind.wrap .i64 ((i2:Int)-1)=((i2-1:Nat):Int):=by rw[qc om om];omega
     rw[q6S]
     refine zV (i:=i2) (j:=i2-1) rfl e2 om om h3 fun w4 h4=>?_
     refine qF4 h4 (swp_size _ _ _) hai2 om hb hn fun w5 h5=>?_
     have hsz:(if i2-a>=2 then shiftDown ltInt (i2-1) (swp d i2 (i2-1))else swp d i2 (i2-1)).size=d.size:=by
      split
      ·rw[Z6,swp_size]
      ·rw[swp_size]
     refine qEi h5 hsz om hb hn fun w6 h6=>?_
     rw[qbn]
     refine⟨m,by omega,i2,_,hai2,hib2,by omega,?_,hR,?_,h6⟩
     ·split
      ·rw[YZ _ _ _ _ rfl,hsz]
      ·exact hsz
     ·have:IntKind.wrap .i64 (((5-(m+1):Nat):Int)+1)=((5-m:Nat):Int):=by rw[qc om om];omega
      rw[this]
  constructor
  ·intro hlt2
   have hlt2:i2<b:=by simpa using hlt2
   have e2:IntKind.wrap .i64 ((i2:Int)-1)=((i2-1:Nat):Int):=by rw[qc om om];omega
   refine yb (i:=i2) (j:=i2-1) rfl e2 om om h2 (.head _) fun w3 h3=>⟨_,rfl,?_⟩
   rw[q2M,qe]
   refine⟨fun hb'=>?_,fun hb'=>?_⟩
   ·rw[if_pos (by simp[hlt2];simpa using hb')]at hI
    rw[qhk]
    refine⟨b-(i2+1),by omega,i2+1,by omega,by omega,rfl,hI,?_,h3⟩
    rw[qc om om];rfl
   ·rw[if_neg (by rw[hb'];simp)]at hI
    exact after w3 hI h3
  ·intro hge
   have hge:¬ i2<b:=by simpa using hge
   rw[if_neg (by simp[hge])]at hI
   rw[q2M,qb]
   exact after _ hI h2.drew
 ·intro hge
  have:m=0:=by simp at hge;omega
  subst this
  have hR:(d,false)=R:=hR
  subst hR
  rw[q8d]
  exact hK w1 h1
end
end Go.Fx.Tryz
namespace Go.Fx.Tryz
set_option maxRecDepth 100000
open Go Go.Fx Go.Proofs
def yA:=ql Tryz.f106
def qGm:=Tryz.f106.results.toList
abbrev vD K:=qr P qGm K
def f106 a b c d e f w K:=CS P yA none [] [] (vD K) (qw 134 [(VS a b c),(VI d),(VI e),(VI f)]) w
def qkx a b c d e f w K:=SC yA 1 [] [] (vD K) 134 [(0,VS a b c),(1,VI d),(2,VI e),(3,VI f)] w
abbrev qAy K:=kq yA 1 [] [] (vD K)
def qkQ a b c d e f w K:=SC yA 3 [] [] (vD K) 134 [(8,VB true),(0,VS a b c),(1,VI d),(2,VI e),(3,VI f)] w
abbrev qvA K:=kq yA 3 [] [] (vD K)
def qmx a b c d e f w K:=SC yA 7 [] [] (vD K) 134 [(9,VB true),(8,VB true),(0,VS a b c),(1,VI d),(2,VI e),(3,VI f)] w
abbrev q5E K:=qn 0 (vD K)
def qrO K Y3 e w:=zh (fun e w=>CS P (cA yA 28) none [2,1,0,9,8,3] [] (qt [2,1,0,9,8,3] Y3 (q5E K)) e w) e w
abbrev q7Q K Y3:=qt [2,1,0,9,8,3] Y3 (q5E K)
def q0X a b c d f g h i w K Y3:=SG yA 28 [2,1,0,9,8,3] [] (q7Q K Y3) 134 [(2,VI a),(1,VI b),(0,VS c d f),(9,VB g),(8,VB h),(3,VI i)] w
abbrev y8 K Y3:=qn 1 (q7Q K Y3)
abbrev qzi K Y3:=kq yA 56 [2,1,0,9,8,3] [2,1,0,9,8,3] (y8 K Y3)
def qjA a b c d f g h i j w K Y3:=SG yA 227 [2,1,0,9,8,3] [2,1,0,9,8,3] (y8 K Y3) 134 [(2,VI a),(1,VI b),(0,VS c d f),(9,VB g),(8,VB h),(3,VI i),(10,VI j)] w
abbrev qma K Y3:=kq yA 227 [2,1,0,9,8,3] [2,1,0,9,8,3] (y8 K Y3)
abbrev qzA K Y3:=kq yA 454 [2,1,0,9,8,10,3] [2,1,0,9,8,3] (qma K Y3)
def qia a b c d f g h i j w K Y3:=SG yA 455 [2,1,0,9,8,3] [2,1,0,9,8,3] (y8 K Y3) 134 [(2,VI a),(1,VI b),(0,VS c d f),(9,VB g),(8,VB h),(10,VI i),(3,VI j)] w
abbrev qaD K Y3:=kq yA 455 [2,1,0,9,8,3] [2,1,0,9,8,3] (y8 K Y3)
abbrev qrt K Y3:=kq yA 910 [2,1,0,9,8,3,10] [2,1,0,9,8,3] (qaD K Y3)
def q0d a b c d f g h i j w K Y3:=SG yA 911 [2,1,0,9,8,3] [2,1,0,9,8,3] (y8 K Y3) 134 [(2,VI a),(1,VI b),(0,VS c d f),(9,VB g),(8,VB h),(3,VI i),(10,VI j)] w
abbrev quB K Y3:=kq yA 911 [2,1,0,9,8,3] [2,1,0,9,8,3] (y8 K Y3)
def q0h a b c d f g h i j k l w K Y3:=SG yA 3647 [2,1,0,9,8,3] [2,1,0,9,8,3] (y8 K Y3) 134 [(2,VI a),(1,VI b),(0,VS c d f),(9,VB g),(8,VB h),(3,VI i),(11,VI j),(10,VI k),(12,VI l)] w
abbrev q2J K Y3:=kq yA 3647 [2,1,0,9,8,3] [2,1,0,9,8,3] (y8 K Y3)
abbrev qt3 K Y3:=kq yA 7294 [2,0,9,8,3,11,1,10] [2,1,0,9,8,3] (q2J K Y3)
def Yu a b c d f g h i j k l w K Y3:=SG yA 14589 [2,0,9,8,3,11,1,10] [2,1,0,9,8,3] (q2J K Y3) 134 [(68,VB a),(2,VI b),(1,VI c),(0,VS d f g),(9,VB h),(8,VB i),(3,VI j),(11,VI k),(10,VI l)] w
def YP a b c d f g h i j k w K Y3:=SG yA 7295 [2,1,0,9,8,3] [2,1,0,9,8,3] (y8 K Y3) 134 [(2,VI a),(0,VS b c d),(9,VB f),(8,VB g),(3,VI h),(11,VI i),(1,VI j),(10,VI k)] w
abbrev q2w K Y3:=kq yA 7295 [2,1,0,9,8,3] [2,1,0,9,8,3] (y8 K Y3)
abbrev qrr K Y3:=kq yA 14590 [2,0,3,1,10,11] [2,1,0,9,8,3] (q2w K Y3)
def q0V a b c d f g h i j k l w K Y3:=SG yA 29181 [2,0,3,1,10,11] [2,1,0,9,8,3] (q2w K Y3) 134 [(87,VB a),(2,VI b),(0,VS c d f),(9,VB g),(8,VB h),(3,VI i),(11,VI j),(1,VI k),(10,VI l)] w
def q0Y a b c d f g h i w K Y3:=SG yA 14591 [2,1,0,9,8,3] [2,1,0,9,8,3] (y8 K Y3) 134 [(2,VI a),(0,VS b c d),(3,VI f),(1,VI g),(10,VI h),(11,VI i)] w
abbrev qsV K Y3:=kq yA 14591 [2,1,0,9,8,3] [2,1,0,9,8,3] (y8 K Y3)
theorem q8c:q0Y d e f g i h j k w K Y3=(q9 P 150 [(Value.slice e f g),(Value.int .i64 h),(Value.int .i64 d),(Value.int .i64 k)] w (fun n m=>∃ c:Int,∃ l:Bool,n=(.tuple #[(Value.int .i64 c),(Value.bool l)])/\(8:Int)≠0/\qm (decide ((IntKind.wrap .i64 (c-h))<(IntKind.wrap .i64 (d-c)))) (q9 P 106 [(Value.slice e f g),(Value.int .i64 h),(Value.int .i64 c),(Value.int .i64 i)] m (fun o p=>o=(.tuple #[])/\Y3 (qh.mk 134 [(2,(Value.int .i64 d)),(1,(Value.int .i64 (IntKind.wrap .i64 (c+1)))),(0,(Value.slice e f g)),(9,(Value.bool l)),(8,(Value.bool (decide ((IntKind.wrap .i64 (c-h))>=(IntKind.wrap .i64 (j.tdiv 8)))))),(3,(Value.int .i64 i))] []) p)) (q9 P 106 [(Value.slice e f g),(Value.int .i64 (IntKind.wrap .i64 (c+1))),(Value.int .i64 d),(Value.int .i64 i)] m (fun q r=>q=(.tuple #[])/\Y3 (qh.mk 134 [(2,(Value.int .i64 c)),(1,(Value.int .i64 h)),(0,(Value.slice e f g)),(9,(Value.bool l)),(8,(Value.bool (decide ((IntKind.wrap .i64 (d-c))>=(IntKind.wrap .i64 (j.tdiv 8)))))),(3,(Value.int .i64 i))] []) r)))):=qz (qB [2,0,3,14,1,10,15] (qsV K Y3) kr)
theorem Jg:q0V i a c d e j k f g h l w K Y3=(qm i (q9 P 149 [(Value.slice c d e),(Value.int .i64 h),(Value.int .i64 a),(Value.int .i64 g)] w (fun n o=>∃ m:Int,n=(.int .i64 m)/\Y3 (qh.mk 134 [(2,(Value.int .i64 a)),(1,(Value.int .i64 m)),(0,(Value.slice c d e)),(9,(Value.bool j)),(8,(Value.bool k)),(3,(Value.int .i64 f))] []) o)) (q0Y a c d e f h l g w K Y3)):=qz kr
theorem qh0:YP g e f h i j k d c l w K Y3=(qm (decide (c > 0)) (qg e (fun p=>0<=(IntKind.wrap .i64 (c-1))/\(IntKind.wrap .i64 (c-1))<(f:Nat)/\qg e (fun q=>0<=d/\d<(f:Nat)/\∃ m:Int,w.drew.cell? (p.add (Int.toNat (IntKind.wrap .i64 (c-1))*1))=some (.int .u32 m)/\∃ n:Int,w.drew.cell? (q.add (Int.toNat d*1))=some (.int .u32 n)/\q9 P 148 [(Value.int .u32 m),(Value.int .u32 n)] w.drew (fun r s=>∃ o:Bool,r=(.bool o)/\q0V (!o) g e f h i j k d c l s K Y3)))) (q0V false g e f h i j k d c l w.drew K Y3)):=qz (qB [2,0,3,1,10,11] (q2w K Y3) (qB [87,2,0,9,8,3,11,1,10] (qrr K Y3) kr))
theorem q10:Yu l a c d e f g h i j k w K Y3=(qm l (q9 P 147 [(Value.slice d e f),(Value.int .i64 c),(Value.int .i64 a)] w (fun o m=>∃ n:Bool,o=(.bool n)/\qm n (K (Value.tuple #[]) m) (YP a d e f g h i j c k m K Y3))) (YP a d e f g h i j c k w K Y3)):=qz kr
theorem qgk:q0h e f g h i c d j k l m w K Y3=(qm d (qm c (Yu (m==1) e f g h i c d j k l w K Y3) (Yu false e f g h i c d j k l w K Y3)) (Yu false e f g h i c d j k l w K Y3)):=qz (qB [2,0,9,8,3,11,1,10] (q2J K Y3) (qB [68,2,1,0,9,8,3,11,10] (qt3 K Y3) kr))
theorem qcP:q0d c d e f g h i j k w K Y3=(q9 P 145 [(Value.slice e f g),(Value.int .i64 d),(Value.int .i64 c)] w (fun o n=>∃ l:Int,∃ m:Int,o=(.tuple #[(Value.int .i64 l),(Value.int .i64 m)])/\qm (m==2) (q9 P 146 [(Value.slice e f g),(Value.int .i64 d),(Value.int .i64 c)] n (fun p q=>p=(.tuple #[])/\q0h c d e f g h i j (IntKind.wrap .i64 ((IntKind.wrap .i64 (c-1))-(IntKind.wrap .i64 (l-d)))) k 1 q K Y3)) (q0h c d e f g h i j l k m n K Y3))):=qz (qB [2,1,0,9,8,3,10,11,12] (quB K Y3) kr)
theorem qgu:qia c d e f g i h j k w K Y3=(qm (!h) (q9 P 144 [(Value.slice e f g),(Value.int .i64 d),(Value.int .i64 c)] w (fun l m=>l=(.tuple #[])/\q0d c d e f g i h (IntKind.wrap .i64 (k-1)) j m K Y3)) (q0d c d e f g i h k j w K Y3)):=qz (qB [2,1,0,9,8,3,10] (qaD K Y3) (qB [35,2,1,0,9,8,10,3] (qrt K Y3) kr))
theorem qgZ:qjA c d e f g i j h k w K Y3=(qm (h==0) (q9 P 143 [(Value.slice e f g),(Value.int .i64 d),(Value.int .i64 c)] w (fun l m=>l=(.tuple #[])/\K (Value.tuple #[]) m)) (qia c d e f g i j k h w K Y3)):=qz (qB [2,1,0,9,8,10,3] (qma K Y3) (qB [29,2,1,0,9,8,3,10] (qzA K Y3) kr))
theorem Jj:q0X c d e f g h i j w K Y3=(qm (decide ((IntKind.wrap .i64 (c-d))<=12)) (q9 P 142 [(Value.slice e f g),(Value.int .i64 d),(Value.int .i64 c)] w (fun k l=>k=(.tuple #[])/\K (Value.tuple #[]) l)) (qjA c d e f g h i j (IntKind.wrap .i64 (c-d)) w K Y3)):=qz (jt 1 [2,1,0,9,8,3] (y8 K Y3) (qB [2,1,0,9,8,3,10] (qzi K Y3) kr))
theorem q2n:qmx a c d e f g w K=(qH (qrO K) (qh.mk 134 [(2,(Value.int .i64 f)),(1,(Value.int .i64 e)),(0,(Value.slice a c d)),(9,(Value.bool true)),(8,(Value.bool true)),(3,(Value.int .i64 g))] []) w):=Eq.trans (b:=CS P (cA yA 7) none [] [] (vD K) (qh.mk 134 [(9,(VB true)),(8,(VB true)),(0,(VS a c d)),(1,(VI e)),(2,(VI f)),(3,(VI g))] []) w) kr (Eq.trans (Qx 0 [] (q5E K) kr) ((qL (b:=(cA yA 28)) (X':=[]) (H:=[2,1,0,9,8,3]) kr kr kr).trans kr))
theorem q0I:qkQ c d e f g h w K=(qmx c d e f g h w K):=Eq.trans (b:=CS P (cA yA 3) none [] [] (vD K) (qh.mk 134 [(8,(VB true)),(0,(VS c d e)),(1,(VI f)),(2,(VI g)),(3,(VI h))] []) w) kr (Eq.trans (qU [2,1,0,9,8,3] (qvA K) kr) kr)
theorem q28:qkx c d e f g h w K=(qkQ c d e f g h w K):=Eq.trans (b:=CS P (cA yA 1) none [] [] (vD K) (qh.mk 134 [(0,(VS c d e)),(1,(VI f)),(2,(VI g)),(3,(VI h))] []) w) kr (Eq.trans (qU [2,1,0,8,3] (qAy K) kr) kr)
theorem qmM:f106 a b c d e f w K=(qkx a b c d e f w K):=kr
theorem qmI a b c d e f w K(h:f106 a b c d e f w K):q9 P 106 [(Value.slice a b c),(Value.int .i64 d),(Value.int .i64 e),(Value.int .i64 f)] w K:=qy yA Tryz.func106 h
end Go.Fx.Tryz
namespace Go.Fx.Tryz
open Go Go.Fx
set_option linter.all false
open Go.Proofs
open Go.Sort (swp ltInt pdq Below rd SWO swo_ltInt insertionSort_holds heapSort_holds partialInsertionSort_holds partition_holds partitionEqual_holds reverseRange_holds breakPatterns_holds choosePivot_holds pdq_sorts Hint rd_facts round_eq round_part pdq_small pdq_heap pdq_done pdq_eq pdq_left pdq_right choosePivot breakPatterns reverseRange partialInsertionSort partition partitionEqual)
variable {w0 w:World} {H X:qA} {K:KT}
set_option maxRecDepth 20000
section
variable {g c:Nat} {T:TypeId} {z:List Value}
def q2q(w0:World)(H:qA)(g c:Nat)(T:TypeId)(z:List Value)(n M:Nat)(D:Array Int)(m:Nat)(ee:qh)(w:World):Prop:=
 ∃ (a b limit:Nat) (wb wp:Bool) (d:Array Int),m=b-a/\m<=M/\a<=b/\b<=n/\limit<=100/\d.size=n/\Below ltInt a b d/\pdq ltInt d a b limit wb wp=D/\
  ee=qh.mk 134 [(2,(Value.int .i64 b)),(1,(Value.int .i64 a)),(0,(Value.slice (some (Addr.mk g 0 none)) n c)),(9,(Value.bool wp)),(8,(Value.bool wb)),(3,(Value.int .i64 limit))] []/\St w0 w ((g,Cs (zM d z) T)::H)
theorem qH8(h:Hint):(qjo h==2)=decide (h=.decreasing):=by cases h<;>rfl
theorem qIA(h:Hint):(qjo h==1)=decide (h=.increasing):=by cases h<;>rfl
theorem qDT{N n M:Nat}{D:Array Int}{d3:Array Int}{a b lim pv:Nat}{wb wp:Bool}{m:Nat}
  (ih:∀ {w:World} {K:KT} {d:Array Int} {a b limit:Nat},b-a<N->St w0 w ((g,Cs (zM d z) T)::H)->a<=b->b<=d.size->d.size<1000000000000->limit<=100->Below ltInt a b d->
   (∀ w',St w0 w' ((g,Cs (zM (pdq ltInt d a b limit true true) z) T)::H)->K (.tuple [].toArray) w')->q9 P 106 [.slice (some (Addr.mk g 0 none)) d.size c,.int .i64 a,.int .i64 b,.int .i64 limit] w K)
  (h:St w0 w ((g,Cs (zM d3 z) T)::H)) (hd:d3.size=n) (hab:12<b-a) (hb:b<=n) (hn:n<1000000000000) (hlim:lim<=100) (hp:a<=pv/\pv<b) (hB:Below ltInt a b d3) (hM:b-a<=M) (hN:b-a<=N) (hm:m=b-a)
  (he:(decide (a > 0)&&!ltInt d3[a-1]! d3[pv]!)=true->pdq ltInt (partitionEqual ltInt d3 a b pv).2 (partitionEqual ltInt d3 a b pv).1 b lim wb wp=D)
  (hl:(decide (a > 0)&&!ltInt d3[a-1]! d3[pv]!)=false->(partition ltInt d3 a b pv).1-a<b-(partition ltInt d3 a b pv).1->pdq ltInt (pdq ltInt (partition ltInt d3 a b pv).2.2 a (partition ltInt d3 a b pv).1 lim true true) ((partition ltInt d3 a b pv).1+1) b lim (decide ((partition ltInt d3 a b pv).1-a>=(b-a) / 8)) (partition ltInt d3 a b pv).2.1=D)
  (hr:(decide (a > 0)&&!ltInt d3[a-1]! d3[pv]!)=false->¬ (partition ltInt d3 a b pv).1-a<b-(partition ltInt d3 a b pv).1->pdq ltInt (pdq ltInt (partition ltInt d3 a b pv).2.2 ((partition ltInt d3 a b pv).1+1) b lim true true) a (partition ltInt d3 a b pv).1 lim (decide (b-(partition ltInt d3 a b pv).1>=(b-a) / 8)) (partition ltInt d3 a b pv).2.1=D) :
  YP b (some (Addr.mk g 0 none)) n c wp wb lim pv a ((b-a:Nat):Int) w K (fun e' w'=>∃ m',m'<m/\q2q w0 H g c T z n M D m' e' w'):=by
 subst hd
 have s11:∀ w1,(decide (a > 0)&&!ltInt d3[a-1]! d3[pv]!)=false->St w0 w1 ((g,Cs (zM d3 z) T)::H)->q0Y b (some (Addr.mk g 0 none)) d3.size c lim a ((b-a:Nat):Int) pv w1 K (fun e' w'=>∃ m',m'<m/\q2q w0 H g c T z d3.size M D m' e' w'):=by
  intro w1 hc h1
  rw[q8c]
  refine q6B h1 hp.1 hp.2 hb hn fun w2 h2=>⟨_,_,rfl,by omega,?_⟩
  obtain⟨r1,r2,r3,r4,r5,r6,r7⟩:=round_part swo_ltInt (partition_holds ltInt) (d3:=d3) (d4:=(partition ltInt d3 a b pv).2.2) (mid:=(partition ltInt d3 a b pv).1) (ap:=(partition ltInt d3 a b pv).2.1) hp.1 hp.2 hb hB rfl
  have hl:=hl hc
  have hr:=hr hc
  generalize (partition ltInt d3 a b pv).1=mid at *
  generalize (partition ltInt d3 a b pv).2.1=ap at *
  generalize (partition ltInt d3 a b pv).2.2=d4 at *
  have e1:IntKind.wrap .i64 ((mid:Int)-(a:Int))=((mid-a:Nat):Int):=by rw[qc om om];omega
  have e2:IntKind.wrap .i64 ((b:Int)-(mid:Int))=((b-mid:Nat):Int):=by rw[qc om om];omega
  have e3:IntKind.wrap .i64 (((b-a:Nat):Int).tdiv 8)=(((b-a) / 8:Nat):Int):=by rw[Int.tdiv_eq_ediv_of_nonneg om,qc om om];omega
  have e4:IntKind.wrap .i64 ((mid:Int)+1)=((mid+1:Nat):Int):=by rw[qc om om];omega
  rw[e1,e2,e3,e4,qe,<-r3]
  refine⟨fun hlt=>?_,fun hge=>?_⟩
  ·have hlt:mid-a<b-mid:=by simp at hlt;omega
   refine ih om h2 r1 om om hlim r4 fun w3 h3=>⟨rfl,?_⟩
   obtain⟨q1,q2⟩:=pdq_sorts ltInt swo_ltInt d4 a mid lim true true r1 om r4
   have q3:=(r6 _ q1 q2).1
   refine⟨b-(mid+1),by omega,mid+1,b,lim,_,_,_,rfl,by omega,by omega,by omega,hlim,q1.1,q3,hl hlt,?_,h3⟩
   have:decide (((mid-a:Nat):Int)>=(((b-a) / 8:Nat):Int))=decide (mid-a>=(b-a) / 8):=by
    rw[Bool.eq_iff_iff];simp only[decide_eq_true_eq];omega
   rw[this]
  ·have hge:¬ mid-a<b-mid:=by simp at hge;omega
   refine ih om h2 om om om hlim r5 fun w3 h3=>⟨rfl,?_⟩
   obtain⟨q1,q2⟩:=pdq_sorts ltInt swo_ltInt d4 (mid+1) b lim true true om om r5
   have q3:=(r7 _ q1 q2).1
   refine⟨mid-a,by omega,a,mid,lim,_,_,_,rfl,by omega,by omega,by omega,hlim,q1.1,q3,hr hge,?_,h3⟩
   have:decide (((b-mid:Nat):Int)>=(((b-a) / 8:Nat):Int))=decide (b-mid>=(b-a) / 8):=by
    rw[Bool.eq_iff_iff];simp only[decide_eq_true_eq];omega
   rw[this]
 rw[qh0,qe]
 constructor
 ·intro ha0
  have ha0:a > 0:=by simp at ha0;omega
  have e1:IntKind.wrap .i64 ((a:Int)-1)=((a-1:Nat):Int):=by rw[qc om om];omega
  refine yb (i:=a-1) (j:=pv) e1 rfl om om h (.head _) fun w1 h1=>⟨_,rfl,?_⟩
  rw[Jg,qe]
  refine⟨fun hn'=>?_,fun hn'=>?_⟩
  ·have hc:(decide (a > 0)&&!ltInt d3[a-1]! d3[pv]!)=true:=by simp[ha0];simpa using hn'
   have he:=he hc
   refine Vj h1 hp.1 hp.2 hb hn fun w2 h2=>⟨_,rfl,?_⟩
   obtain⟨r1,r2,r3,r4,_⟩:=round_eq swo_ltInt (partitionEqual_holds (lt:=ltInt)) (d3:=d3) (d4:=(partitionEqual ltInt d3 a b pv).2) (mid:=(partitionEqual ltInt d3 a b pv).1) ha0 hp.1 hp.2 hb hB (by simpa using hn') rfl
   exact⟨b-(partitionEqual ltInt d3 a b pv).1,by omega,_,b,lim,wb,wp,_,rfl,by omega,r2,hb,hlim,r3,r4,he,rfl,h2⟩
  ·exact s11 w1 (by rw[hn',Bool.and_false]) h1
 ·intro ha0
  have ha0:¬ a > 0:=by simp at ha0;omega
  rw[Jg,qb]
  exact s11 _ (by simp[ha0]) h.drew
theorem qqg:∀ (N:Nat) {w:World} {K:KT} {d:Array Int} {a b limit:Nat},b-a<N->St w0 w ((g,Cs (zM d z) T)::H)->a<=b->b<=d.size->d.size<1000000000000->limit<=100->Below ltInt a b d->
  (∀ w',St w0 w' ((g,Cs (zM (pdq ltInt d a b limit true true) z) T)::H)->K (.tuple [].toArray) w')->q9 P 106 [.slice (some (Addr.mk g 0 none)) d.size c,.int .i64 a,.int .i64 b,.int .i64 limit] w K
 | 0,_,_,_,_,_,_,hN,_,_,_,_,_,_,_=>absurd hN (Nat.not_lt_zero _)
 | N+1,w,K,d,a,b,limit,hN,h,hab,hb,hn,hlim,hB,hK=>by
  refine qmI _ _ _ _ _ _ _ _ ?_
  rw[qmM,q28,q0I,q2n]
  refine⟨q2q w0 H g c T z d.size (b-a) (pdq ltInt d a b limit true true),⟨b-a,a,b,limit,true,true,d,rfl,Nat.le_refl _,hab,hb,hlim,rfl,hB,rfl,rfl,h⟩,?_⟩
  generalize pdq ltInt d a b limit true true=D at hK
  have hM:b-a<=N:=by omega
  generalize b-a=M at hM
  generalize hnn:d.size=n at hb hn
  clear h hab hb hB hN hlim hnn
  rintro m ee w1 ⟨a,b,limit,wb,wp,d,hm,hmM,hab,hb,hlim,hd,hB,hD,rfl,h1⟩
  show q0X ..
  have el:IntKind.wrap .i64 ((b:Int)-(a:Int))=((b-a:Nat):Int):=by rw[qc om om];omega
  subst hd
  rw[Jj,el,qe]
  constructor
  ·intro h12
   have h12:b-a<=12:=by simp at h12;omega
   rw[pdq_small h12]at hD
   subst hD
   exact q6w h1 hab hb hn fun w2 h2=>⟨rfl,hK w2 h2⟩
  ·intro h12
   have h12:¬ b-a<=12:=by simp at h12;omega
   rw[qgZ,qe]
   constructor
   ·intro h0
    have h0:limit=0:=by simp at h0;omega
    rw[pdq_heap h12 h0]at hD
    subst hD
    exact qwi h1 hab hb hn fun w2 h2=>⟨rfl,hK w2 h2⟩
   ·intro h0
    have h0:¬ limit=0:=by simp at h0;omega
    obtain⟨k1,k2,k3,k4,k5,k6,k7,k8⟩:=rd_facts (lt:=ltInt) (d:=d) (a:=a) (b:=b) (limit:=limit) (wb:=wb) (wp:=wp) swo_ltInt partialInsertionSort_holds reverseRange_holds om hb hB
    have kl:(rd ltInt d a b limit wb wp).lim<=100:=Nat.le_trans Go.Sort.rd_lim_le hlim
    have t9:∀ w2,(rd ltInt d a b limit wb wp).pi.2=false->St w0 w2 ((g,Cs (zM (rd ltInt d a b limit wb wp).pi.1 z) T)::H)->
      YP b (some (Addr.mk g 0 none)) d.size c wp wb (rd ltInt d a b limit wb wp).lim (rd ltInt d a b limit wb wp).pivot a ((b-a:Nat):Int) w2 K (fun e' w'=>∃ m',m'<m/\q2q w0 H g c T z d.size M D m' e' w'):=by
     intro w2 hpi h2
     refine qDT (N:=N) (fun q1 q2 q3 q4 q5 q6 q7 q8=>qqg N q1 q2 q3 q4 q5 q6 q7 q8) h2 k7 om hb hn kl k6 k8 om om hm (fun hc=>?_) (fun hc hlt=>?_) (fun hc hge=>?_)
     ·rw[<-hD]
      have ha0:a > 0:=by simp at hc;exact hc.1
      have hnl:ltInt (rd ltInt d a b limit wb wp).pi.1[a-1]! (rd ltInt d a b limit wb wp).pi.1[(rd ltInt d a b limit wb wp).pivot]! = false:=by simp at hc;exact hc.2
      obtain⟨r1,r2,_⟩:=round_eq swo_ltInt (partitionEqual_holds (lt:=ltInt)) (d3:=(rd ltInt d a b limit wb wp).pi.1) (pivot:=(rd ltInt d a b limit wb wp).pivot) (d4:=(partitionEqual ltInt (rd ltInt d a b limit wb wp).pi.1 a b (rd ltInt d a b limit wb wp).pivot).2) (mid:=(partitionEqual ltInt (rd ltInt d a b limit wb wp).pi.1 a b (rd ltInt d a b limit wb wp).pivot).1) ha0 k6.1 k6.2 (by rw[k7];exact hb) k8 hnl rfl
      exact(pdq_eq h12 h0 hpi hc ⟨r1,r2⟩).symm
     ·rw[<-hD]
      obtain⟨r1,r2,_⟩:=partition_holds ltInt swo_ltInt (rd ltInt d a b limit wb wp).pi.1 a b (rd ltInt d a b limit wb wp).pivot k6.1 k6.2 (by rw[k7];exact hb)
      exact(pdq_left h12 h0 hpi hc ⟨r1,r2⟩ hlt).symm
     ·rw[<-hD]
      obtain⟨r1,r2,_⟩:=partition_holds ltInt swo_ltInt (rd ltInt d a b limit wb wp).pi.1 a b (rd ltInt d a b limit wb wp).pivot k6.1 k6.2 (by rw[k7];exact hb)
      exact(pdq_right h12 h0 hpi hc ⟨r1,r2⟩ hge).symm
    have t7:∀ w2,St w0 w2 ((g,Cs (zM (rd ltInt d a b limit wb wp).d2 z) T)::H)->
      q0h b a (some (Addr.mk g 0 none)) d.size c wp wb (rd ltInt d a b limit wb wp).lim (rd ltInt d a b limit wb wp).pivot ((b-a:Nat):Int) (qjo (rd ltInt d a b limit wb wp).hint) w2 K (fun e' w'=>∃ m',m'<m/\q2q w0 H g c T z d.size M D m' e' w'):=by
     intro w2 h2
     have no:(wb&&wp&&decide ((rd ltInt d a b limit wb wp).hint=.increasing))=false->Yu false b a (some (Addr.mk g 0 none)) d.size c wp wb (rd ltInt d a b limit wb wp).lim (rd ltInt d a b limit wb wp).pivot ((b-a:Nat):Int) w2 K (fun e' w'=>∃ m',m'<m/\q2q w0 H g c T z d.size M D m' e' w'):=by
      intro hc
      have hp:=Go.Sort.rd_pi_no hc
      rw[q10,qb]
      refine t9 w2 (by rw[hp]) ?_
      rw[hp]
      exact h2
     rw[qgk,qe]
     refine⟨fun hwb=>?_,fun hwb=>no (by rw[hwb];rfl)⟩
     rw[qe]
     refine⟨fun hwp=>?_,fun hwp=>no (by rw[hwp,Bool.and_false];rfl)⟩
     rw[qIA]
     cases hh:decide ((rd ltInt d a b limit wb wp).hint=.increasing)with
     | false=>exact no (by rw[hh,Bool.and_false])
     | true=>
      have hp:=Go.Sort.rd_pi_yes (lt:=ltInt) (d:=d) (a:=a) (b:=b) (limit:=limit) (wb:=wb) (wp:=wp) (by rw[hwb,hwp]at hh ⊢;rw[hh];rfl)
      rw[q10,qd,<-k4]
      refine qd9 h2 om om om fun w3 h3=>⟨_,rfl,?_⟩
      rw[qe]
      refine⟨fun hy=>?_,fun hy=>?_⟩
      ·rw[pdq_done h12 h0 (by rw[hp];exact hy)]at hD
       subst hD
       rw[hp]at hK
       exact hK w3 h3
      ·rw[k4]
       refine t9 w3 (by rw[hp];exact hy) ?_
       rw[hp]
       exact h3
    have t6:∀ w2,St w0 w2 ((g,Cs (zM (rd ltInt d a b limit wb wp).d1 z) T)::H)->
      q0d b a (some (Addr.mk g 0 none)) d.size c wp wb (rd ltInt d a b limit wb wp).lim ((b-a:Nat):Int) w2 K (fun e' w'=>∃ m',m'<m/\q2q w0 H g c T z d.size M D m' e' w'):=by
     intro w2 h2
     rw[qcP,<-k1]
     refine qrL (.head _) h2 om om om fun w3 h3=>⟨_,_,rfl,?_⟩
     have hc:(rd ltInt d a b limit wb wp).c=choosePivot ltInt (rd ltInt d a b limit wb wp).d1 a b:=Go.Sort.rd_c
     rw[<-hc,qH8,qe]
     refine⟨fun hdec=>?_,fun hdec=>?_⟩
     ·have hdec:(rd ltInt d a b limit wb wp).c.2=.decreasing:=by simpa using hdec
      obtain⟨x1,x2,x3⟩:=Go.Sort.rd_dec hdec
      refine qes h3 om om om fun w4 h4=>⟨rfl,?_⟩
      have e1:IntKind.wrap .i64 (IntKind.wrap .i64 ((b:Int)-1)-IntKind.wrap .i64 (((rd ltInt d a b limit wb wp).c.1:Int)-(a:Int)))=((rd ltInt d a b limit wb wp).pivot:Int):=by
       rw[x2,qc (x:=(b:Int)-1) om om,qc (x:=((rd ltInt d a b limit wb wp).c.1:Int)-(a:Int)) om om,qc om om]
       omega
      rw[e1,k1]
      have:=t7 w4 (by rw[x1];exact h4)
      rw[x3]at this
      exact this
     ·have hdec:(rd ltInt d a b limit wb wp).c.2≠.decreasing:=by simpa using hdec
      obtain⟨x1,x2,x3⟩:=Go.Sort.rd_not hdec
      have:=t7 w3 (by rw[x1];exact h3)
      rw[x2,x3]at this
      rw[k1]
      exact this
    rw[qgu,qe]
    refine⟨fun hwb=>?_,fun hwb=>?_⟩
    ·have hwb:wb=false:=by simpa using hwb
     subst hwb
     obtain⟨x1,x2⟩:=Go.Sort.rd_false (lt:=ltInt) (d:=d) (a:=a) (b:=b) (limit:=limit) (wp:=wp)
     refine qsO h1 hab hb hn fun w2 h2=>⟨rfl,?_⟩
     have e1:IntKind.wrap .i64 ((limit:Int)-1)=((limit-1:Nat):Int):=by rw[qc om om];omega
     rw[e1]
     have:=t6 w2 (by rw[x1];exact h2)
     rw[x2]at this
     exact this
    ·have hwb:wb=true:=by simpa using hwb
     subst hwb
     obtain⟨x1,x2⟩:=Go.Sort.rd_true (lt:=ltInt) (d:=d) (a:=a) (b:=b) (limit:=limit) (wp:=wp)
     have:=t6 w1 (by rw[x1];exact h1)
     rw[x2]at this
     exact this
end
end Go.Fx.Tryz
namespace Go.Fx.Tryz
set_option maxRecDepth 100000
open Go Go.Fx Go.Proofs
def c61:=ql Tryz.f61
def qJ1:=Tryz.f61.results.toList
abbrev qDN K:=qr P qJ1 K
def f61 a b c w K:=CS P c61 none [] [] (qDN K) (qw 11 [(VS a b c)]) w
theorem qF1:f61 b a c w K=(q9 P 107 [(Value.int .u64 (IntKind.wrap .u64 ((a:Nat):Int)))] w (fun e f=>∃ d:Int,e=(.int .i64 d)/\q9 P 106 [(Value.slice b a c),(Value.int .i64 0),(Value.int .i64 ((a:Nat):Int)),(Value.int .i64 d)] f (fun g h=>g=(.tuple #[])/\K (Value.tuple #[]) h))):=kr
theorem qCw a b c w K(h:f61 a b c w K):q9 P 61 [(Value.slice a b c)] w K:=qy c61 Tryz.func61 h
def c28:=ql Tryz.f28
def qKD:=Tryz.f28.results.toList
abbrev qfg K:=qr P qKD K
def f28 a b w K:=CS P c28 none [4,5] [4,5] (qfg K) (qw 25 [(VP a),(Value.int .u32 b)]) w
def qrP a b c w K:=SG c28 7 [4,5] [4,5] (qfg K) 25 [(4,VQ a),(1,Value.int .u32 b),(0,VP c)] w
def qrw a b w K:=SG c28 31 [4,5] [4,5] (qfg K) 25 [(4,VQ a),(6,VQ b)] w
theorem qpm:qrw a b w K=(qS 3 b w (fun e=>q9 P 62 [(Value.agg e)] w (fun f g=>∃ c:Array Value,f=(.agg c)/\zG 3 a c g (fun d=>qS 3 a d (fun h=>K (Value.tuple #[(Value.agg h),(Value.int .i64 0)]) d))))):=kr
theorem qpe:qrP a b c w K=(qg c (fun k=>∃ d:Option Nat,w.cell? (k.add 3)=some (.map d)/\∃ e:Array Value,∃ f:Bool,(∀ wq,vj w wq->(Instr.lookup 105 (Value.map d) (Value.int .u32 b) true).run P wq=.ok (.tuple #[(Value.agg e),(Value.bool f)]) wq)/\qs (qv P 41) 41 w (fun g l=>zG 3 (Addr.mk g 0 none) e l (fun h=>qm (!f) (∃ i:Array Value,(∀ wq,(Instr.build 41 #[]).run P wq=.ok (.agg i) wq)/\zG 3 a i h (fun j=>qS 3 a j (fun m=>K (Value.tuple #[(Value.agg m),(Value.int .i64 211)]) j))) (qrw a (Addr.mk g 0 none) h K))))):=kr
theorem qCA:f28 a c w K=(qs (qv P 41) 41 w (fun b h=>q9 P 53 [(Value.pointer a)] h (fun i d=>∃ e:Bool,i=(.bool e)/\qm e (∃ f:Array Value,(∀ wq,(Instr.build 41 #[]).run P wq=.ok (.agg f) wq)/\zG 3 (Addr.mk b 0 none) f d (fun g=>qS 3 (Addr.mk b 0 none) g (fun j=>K (Value.tuple #[(Value.agg j),(Value.int .i64 5)]) g))) (qrP (Addr.mk b 0 none) c a d K)))):=kr
theorem qEs a b w K(h:f28 a b w K):q9 P 28 [(Value.pointer a),(Value.int .u32 b)] w K:=qy c28 Tryz.func28 h
def c41:=ql Tryz.f41
def qKH:=Tryz.f41.results.toList
abbrev q69 K:=qr P qKH K
def f41 a b c w K:=CS P c41 none [6,7] [6,7] (q69 K) (qw 48 [(VP a),(Value.int .u32 b),(VI c)]) w
def qpG a b c d w K:=SG c41 15 [6,7] [6,7] (q69 K) 48 [(2,VI a),(1,Value.int .u32 b),(0,VP c),(8,VQ d)] w
abbrev qCY K:=kq c41 31 [6,7] [6,7] (q69 K)
def q5T a b c d f w K:=SG c41 125 [10,2,1,0] [6,7] (qCY K) 48 [(35,VB a),(10,Value.int .u32 b),(2,VI c),(1,Value.int .u32 d),(0,VP f)] w
def quK a b c d w K:=SG c41 63 [6,7] [6,7] (q69 K) 48 [(10,Value.int .u32 a),(2,VI b),(1,Value.int .u32 c),(0,VP d)] w
theorem qnf:quK a b c d w K=(∃ e:Array Value,(∀ wq,(Instr.build 142 #[(0,(Value.int .u32 c)),(1,(Value.int .i64 b))]).run P wq=.ok (.agg e) wq)/\q9 P 80 [(Value.pointer d),(Value.agg e),(Value.int .u32 a)] w (fun g h=>g=(.tuple #[])/\∃ f:Array Value,(∀ wq,(Instr.build 142 #[(0,(Value.int .u32 c)),(1,(Value.int .i64 b))]).run P wq=.ok (.agg f) wq)/\q9 P 81 [(Value.pointer d),(Value.agg f),(Value.int .u32 a)] h (fun i j=>i=(.tuple #[])/\K (Value.tuple #[(Value.bool true),(Value.int .i64 0)]) j))):=kr
theorem q3g:q5T a b c d e w K=(qm a (K (Value.tuple #[(Value.bool false),(Value.int .i64 0)]) w) (quK b c d e w K)):=kr
theorem qoA:qpG b c a d w K=(∃ g:Int,w.cell? (d.add 2)=some (.int .u32 g)/\q9 P 21 [(Value.pointer a),(Value.int .u32 g)] w (fun j e=>∃ f:Int,∃ h:Bool,j=(.tuple #[(Value.int .u32 f),(Value.bool h)])/\qm (!h) (q5T true f b c a e K) (qS 5 d e (fun k=>q9 P 79 [(Value.agg k)] e (fun l m=>∃ i:Bool,l=(.bool i)/\q5T (!i) f b c a m K))))):=kr
theorem qCN:f41 a b c w K=(q9 P 78 [(Value.pointer a),(Value.int .u32 b),(Value.int .i64 c)] w (fun h i=>∃ e:Array Value,∃ d:Int,h=(.tuple #[(Value.agg e),(Value.int .i64 d)])/\qs (qv P 62) 62 i (fun f j=>zG 5 (Addr.mk f 0 none) e j (fun g=>qm (d != 0) (K (Value.tuple #[(Value.bool false),(Value.int .i64 d)]) g) (qpG c b a (Addr.mk f 0 none) g K))))):=kr
theorem qCk a b c w K(h:f41 a b c w K):q9 P 41 [(Value.pointer a),(Value.int .u32 b),(Value.int .i64 c)] w K:=qy c41 Tryz.func41 h
end Go.Fx.Tryz
namespace Go.Fx.Tryz
open Go Go.Fx
set_option linter.all false
open Go.Proofs
open Go.Sort (ltInt pdq bitsLen)
variable {w0 w:World} {H:qA} {K:KT}
set_option maxRecDepth 20000
theorem qyb(h:St w0 w H){n:Nat}(hn:n<4611686018427387904)(hK:∀ w',St w0 w' H->K (I64 (bitsLen n:Nat)) w'):q9 P 107 [.int .u64 (n:Nat)] w K:=by
 refine QA (Any.bits_Len (Go.Proofs.SlLaysF0.n15.bits (P:=P) (ρ:=Tryz.sort_ren) { Tryz.sortPow with }) (n:Int) w om om) ?_
 rintro e w' ⟨rfl,rfl⟩
 refine⟨_,rfl,?_⟩
 have:=hK w' h
 rw[Int.toNat_natCast,Go.Proofs.bitLen_eq _ om]
 exact this
theorem qsX{a:Option Addr}{c:Nat}{ks:List Int}{Lo:qA}(h:St w0 w (Lo++H))(hS:zn 1 24 (.slice a ks.length c) ks.length (ks.map qca) Lo)(hn:ks.length<1000000)
  (hK:∀ w' Lo',zn 1 24 (.slice a ks.length c) ks.length ((ks.mergeSort fun x y=>decide (x<=y)).map qca) Lo'->(qD w0 Lo->qD w0 Lo')->St w0 w' (Lo'++H)->K (.tuple [].toArray) w') :
  q9 P 61 [.slice a ks.length c] w K:=by
 refine qCw _ _ _ _ _ ?_
 rw[qF1]
 have e6:IntKind.wrap .u64 (ks.length:Int)=(ks.length:Int):=by
  simp only[IntKind.wrap,IntKind.bits,IntKind.signed]
  simp
  omega
 rw[e6]
 refine qyb h om fun w1 h1=>⟨_,rfl,?_⟩
 have hbl:bitsLen ks.length<=62:=(Go.Sort.bitsLen_le_iff _ 62).2 om
 rcases hS.2 with⟨e1,e2,e3⟩ | ⟨g,cap,cur,e1,rfl,h3,h4,h5,h6⟩
 ·-- no number
  have hz:ks=[]:=List.eq_nil_of_length_eq_zero e2
  subst hz
  obtain⟨rfl,rfl⟩:a=none/\c=0:=by simpa using e1
  subst e3
  refine qmI _ _ _ _ _ _ _ _ ?_
  rw[qmM,q28,q0I,q2n]
  refine⟨fun m ee w=>m=0/\ee=qh.mk 134 [(2,(Value.int .i64 0)),(1,(Value.int .i64 0)),(0,(Value.slice none 0 0)),(9,(Value.bool true)),(8,(Value.bool true)),(3,(Value.int .i64 (bitsLen 0:Nat)))] []/\St w0 w H,⟨0,rfl,rfl,h1⟩,?_⟩
  rintro m ee w2 ⟨rfl,rfl,h2⟩
  show q0X ..
  rw[Jj,show IntKind.wrap .i64 ((0:Int)-0)=0 by decide,show decide ((0:Int)<=12)=true by decide,qd]
  refine qiQ _ _ _ _ _ _ _ ?_
  rw[qhz,q1S,q2r]
  refine⟨fun m ee w=>m=0/\ee=qh.mk 49 [(0,(Value.slice none 0 0)),(6,(Value.int .i64 1)),(1,(Value.int .i64 0)),(2,(Value.int .i64 0))] []/\St w0 w H,⟨0,rfl,rfl,h2⟩,?_⟩
  rintro m ee w3 ⟨rfl,rfl,h3⟩
  show q1j ..
  rw[Jb,show decide ((1:Int)<0)=false by decide,qb]
  exact⟨rfl,rfl,hK w3 [] (by simpa using hS) (fun hN=>hN) h3⟩
 ·obtain⟨rfl,rfl⟩:a=some ⟨g,0,none⟩/\c=cap:=by simpa using e1
  have hcur:cur=zM ks.toArray (cur.drop ks.length):=by
   have:cur.take (ks.length*1)=ks.map qca:=h6
   rw[Nat.mul_one]at this
   show cur=ks.toArray.toList.map qca++cur.drop ks.length
   rw[List.toList_toArray,<-this,List.take_append_drop]
  have h1:St w0 w1 ((g,Cs cur 24)::H):=h1
  generalize hz:cur.drop ks.length=z at hcur
  have hzl:z.length=c-ks.length:=by rw[<-hz,List.length_drop,h5];omega
  subst hcur
  have hsz:ks.toArray.size=ks.length:=by simp
  rw[<-hsz]
  rw[<-hsz]at hbl
  refine qqg (a:=0) (b:=ks.toArray.size) (limit:=bitsLen ks.toArray.size) (ks.toArray.size+1) om h1 om om om om (.inl rfl) fun w2 h2=>⟨rfl,?_⟩
  have hs:(pdq ltInt ks.toArray 0 ks.toArray.size (bitsLen ks.toArray.size) true true).toList=ks.mergeSort (fun x y=>decide (x<=y)):=Go.Sort.sortInt ks
  refine hK w2 [(g,Cs (zM (pdq ltInt ks.toArray 0 ks.toArray.size (bitsLen ks.toArray.size) true true) z) 24)] ?_ (fun hN=>by simpa [qD]using hN) h2
  rw[hsz]at hs ⊢
  refine⟨by simp,.inr ⟨g,c,_,rfl,rfl,h3,h4,?_,?_⟩⟩
  ·show(List.map qca _++z).length=_
   rw[hs,List.length_append,List.length_map,List.length_mergeSort,hzl]
   omega
  ·show(List.map qca _++z).take _=_
   rw[hs,List.take_left' (by simp)]
end Go.Fx.Tryz
namespace Go.Fx.Tryz
set_option maxRecDepth 100000
open Go Go.Fx Go.Proofs
def js:=ql Tryz.f18
def qIU:=Tryz.f18.results.toList
abbrev zt K:=qr P qIU K
def f18 a b w K:=CS P js none [4,5,6] [4,5,6] (zt K) (qw 173 [(VP a),(Value.agg b)]) w
def qti a b w K:=SC js 1 [4,5,6] [4,5,6] (zt K) 173 [(0,VP a),(1,Value.agg b)] w
abbrev qFk K:=kq js 1 [4,5,6] [4,5,6] (zt K)
def quN a b c d e f g h w K:=SC js 3 [4,5,6] [4,5,6] (zt K) 173 [(6,VI a),(5,VS b c d),(4,Value.int .u32 e),(3,VQ f),(0,VP g),(1,Value.agg h)] w
abbrev quO K:=kq js 3 [4,5,6] [4,5,6] (zt K)
abbrev qEo K:=kq js 6 [5,0,4,6,3] [4,5,6] (quO K)
def qrR a b c d f g h w K:=SG js 7 [4,5,6] [4,5,6] (zt K) 173 [(5,VS a b c),(0,VP d),(4,Value.int .u32 f),(6,VI g),(3,VQ h)] w
abbrev qD0 K:=kq js 7 [4,5,6] [4,5,6] (zt K)
def qqa a b c d e f g h i j k l m n o p q r s t u v x y z a0 b0 w K:=SC js 15 [4,5,6] [4,5,6] (zt K) 173 [(8,VI a),(7,VS b c d),(19,VI e),(18,VS f g h),(14,(Value.tuple #[(VS i j k),(VI l)])),(17,(Value.tuple #[(VS m n o),(VI p)])),(16,VS q r s),(15,VQ t),(5,VS u v x),(0,VP y),(4,Value.int .u32 z),(6,VI a0),(3,VQ b0)] w
abbrev qpN K:=kq js 15 [4,5,6] [4,5,6] (zt K)
abbrev qEG K:=kq js 30 [5,0,4,6,3,7] [4,5,6] (qpN K)
def qpX a b c d f g h i j k w K:=SG js 31 [4,5,6] [4,5,6] (zt K) 173 [(5,VS a b c),(0,VP d),(4,Value.int .u32 f),(6,VI g),(3,VQ h),(7,VS i j k)] w
abbrev qfb K:=kq js 31 [4,5,6] [4,5,6] (zt K)
abbrev qFA K:=kq js 62 [5,0,4,6,3] [4,5,6] (qfb K)
def q56 a b c d f g h i w K:=SG js 125 [5,0,4,6,3] [4,5,6] (qfb K) 173 [(29,VB a),(5,VS b c d),(0,VP f),(4,Value.int .u32 g),(6,VI h),(3,VQ i)] w
def qpI a b c d f g h w K:=SG js 63 [4,5,6] [4,5,6] (zt K) 173 [(5,VS a b c),(0,VP d),(4,Value.int .u32 f),(6,VI g),(3,VQ h)] w
abbrev qlq K:=kq js 63 [4,5,6] [4,5,6] (zt K)
abbrev qxx K:=kq js 126 [5,0,4,6,3] [4,5,6] (qlq K)
def qqu a b c d f g h w K:=SG js 127 [4,5,6] [4,5,6] (zt K) 173 [(5,VS a b c),(0,VP d),(4,Value.int .u32 f),(6,VI g),(3,VQ h)] w
abbrev q63 K:=kq js 127 [4,5,6] [4,5,6] (zt K)
abbrev qyd K:=kq js 254 [5,0,4,6,3] [4,5,6] (q63 K)
def q5Q a b c d f g h i w K:=SG js 509 [5,0,4,6,3] [4,5,6] (q63 K) 173 [(53,VB a),(5,VS b c d),(0,VP f),(4,Value.int .u32 g),(6,VI h),(3,VQ i)] w
def qf4 a b c d f g h w K:=SG js 255 [4,5,6] [4,5,6] (zt K) 173 [(5,VS a b c),(0,VP d),(4,Value.int .u32 f),(6,VI g),(3,VQ h)] w
abbrev qhK K:=kq js 255 [4,5,6] [4,5,6] (zt K)
abbrev q52 K:=qn 0 (qhK K)
def qt4 K Y10 e w:=zh (fun e w=>CS P (cA js 2040) none [5,0,4,6,3] [4,5,6,0,3] (qt [5,0,4,6,3] Y10 (q52 K)) e w) e w
abbrev Vp K Y10:=qt [5,0,4,6,3] Y10 (q52 K)
def q9d a b c d f g h w K Y10:=SG js 2040 [5,0,4,6,3] [4,5,6,0,3] (Vp K Y10) 173 [(5,VS a b c),(0,VP d),(4,Value.int .u32 f),(6,VI g),(3,VQ h)] w
abbrev q53 K Y10:=kq js 2040 [5,0,4,6,3] [4,5,6,0,3] (Vp K Y10)
abbrev qvN K Y10:=kq js 4080 [0,4,6,3,5] [4,5,6,0,3] (q53 K Y10)
def q04 a b c d f g h i w K Y10:=SG js 8161 [0,4,6,3,5] [4,5,6,0,3] (q53 K Y10) 173 [(79,VB a),(0,VP b),(4,Value.int .u32 c),(6,VI d),(3,VQ f),(5,VS g h i)] w
def qmq a b c d f g h w K Y10:=SG js 4081 [5,0,4,6,3] [4,5,6,0,3] (Vp K Y10) 173 [(0,VP a),(4,Value.int .u32 b),(6,VI c),(3,VQ d),(5,VS f g h)] w
abbrev Zp K Y10:=qn 1 (Vp K Y10)
abbrev qzK K Y10:=kq js 8162 [5,0,4,6,3] [4,5,6,0,3] (Zp K Y10)
def q4Q a b c d f g h w K Y10:=SG js 16325 [5,0,4,6,3] [4,5,6,0,3] (Zp K Y10) 173 [(0,VP a),(4,Value.int .u32 b),(6,VI c),(3,VQ d),(5,VS f g h)] w
abbrev qx7 K Y10:=kq js 16325 [5,0,4,6,3] [4,5,6,0,3] (Zp K Y10)
def qkF a b c d f g h i j k w K Y10:=SG js 32651 [5,0,4,6,3] [4,5,6,0,3] (Zp K Y10) 173 [(0,VP a),(4,Value.int .u32 b),(6,VI c),(3,VQ d),(11,VS f g h),(5,VS i j k)] w
abbrev qyy K Y10:=kq js 32651 [5,0,4,6,3] [4,5,6,0,3] (Zp K Y10)
theorem qbr:qkF c e f g h d i j k l w K Y10=(qg c (fun r=>∃ m:Int,w.cell? (r.add 9)=some (.int .i64 m)/\qg c (fun s=>zF (s.add 9) (Value.int .i64 (IntKind.wrap .i64 (m+((d:Nat):Int)))) w (fun t=>∃ (n:OA) (o p:Nat),∃ q:World,(Builtin.append_ #[22,22] 22 #[(Value.slice j k l),(Value.slice h d i)]).run P t=.ok (.slice n o p) q/\Y10 (qh.mk 173 [(5,(Value.slice n o p)),(0,(Value.pointer c)),(4,(Value.int .u32 e)),(6,(Value.int .i64 f)),(3,(Value.pointer (some g)))] []) q)))):=qz (qB [0,4,6,3,11,5] (qyy K Y10) kr)
theorem qh6:q4Q c d e f g h i w K Y10=(qg c (fun s=>qg c (fun t=>∃ (k:OA) (l u:Nat),w.drew.cell? (s.add 4)=some (.slice k l u)/\∃ j:Int,w.drew.cell? (t.add 7)=some (.int .i64 j)/\qg k (fun v=>0<=j/\j<(l:Nat)/\∃ (m:OA) (n o:Nat),w.drew.cell? (v.add (Int.toNat j*1))=some (.slice m n o)/\q9 P 60 [(Value.pointer c),(Value.slice m n o)] w.drew (fun x y=>∃ (p:OA) (q r:Nat),x=(.slice p q r)/\qkF c d e f p q r g h i y K Y10))))):=qz (qB [0,4,6,3,11,5] (qx7 K Y10) kr)
theorem qg9:qmq c d e f g h i w K Y10=(qg c (fun l=>qg c (fun m=>∃ k:Int,w.drew.cell? (l.add 7)=some (.int .i64 k)/\∃ j:Int,w.drew.cell? m=some (.int .i64 j)/\j≠0/\qg c (fun n=>zF (n.add 7) (Value.int .i64 ((IntKind.wrap .i64 (k+1)).tmod j)) w.drew (fun o=>q4Q c d e f g h i o K Y10))))):=qz (jt 1 [4,5,6,0,3] (Zp K Y10) (qB [0,4,6,3,5] (qzK K Y10) kr))
def JE a b c d f w K:=SG js 511 [4,5,6] [4,5,6] (zt K) 173 [(5,VS a b c),(0,VP d),(3,VQ f)] w
abbrev qy6 K:=kq js 511 [4,5,6] [4,5,6] (zt K)
def q4D a b c d w K:=SG js 4095 [4,5,6] [4,5,6] (zt K) 173 [(5,VS a b c),(0,VP d)] w
abbrev qyY K:=kq js 4095 [4,5,6] [4,5,6] (zt K)
def JQ a b c d w K:=SG js 8191 [4,5,6] [4,5,6] (zt K) 173 [(5,VS a b c),(0,VP d)] w
abbrev qyq K:=kq js 8191 [4,5,6] [4,5,6] (zt K)
theorem qhj:JQ d e f c w K=(qg c (fun j=>∃ g:Int,w.cell? (j.add 8)=some (.int .u32 g)/\q9 P 63 [(Value.pointer c),(Value.int .u32 g)] w (fun k h=>k=(.tuple #[])/\qg c (fun l=>∃ i:Int,h.cell? (l.add 8)=some (.int .u32 i)/\K (Value.tuple #[(Value.int .u32 i),(Value.slice d e f),(Value.int .i64 0)]) h)))):=qz (qB [5,0] (qyq K) kr)
theorem qfM:q4D g h i c w K=(qg c (fun m=>qg c (fun n=>qg c (fun x=>qg c (fun y=>qg c (fun e0=>∃ (j:OA) (k o:Nat),w.drew.cell? (m.add 4)=some (.slice j k o)/\∃ d:Int,w.drew.cell? (n.add 7)=some (.int .i64 d)/\∃ (p:OA) (q z:Nat),w.drew.cell? (x.add 4)=some (.slice p q z)/\∃ e:Int,w.drew.cell? (y.add 7)=some (.int .i64 e)/\qg p (fun a0=>0<=e/\e<(q:Nat)/\∃ (r:OA) (s t:Nat),w.drew.cell? (a0.add (Int.toNat e*1))=some (.slice r s t)/\∃ u:Int,w.drew.cell? (e0.add 8)=some (.int .u32 u)/\qE 1 [(Value.int .u32 u)]/\qs (([(Value.int .u32 u)].map fun(v:Value)=>v.cells.toList).flatten.toArray) 24 w.drew (fun f0 f=>f.cell? (a0.add (Int.toNat e*1))=some (.slice r s t)/\f.cell? (y.add 7)=some (.int .i64 e)/\f.cell? (x.add 4)=some (.slice p q z)/\f.cell? (n.add 7)=some (.int .i64 d)/\f.cell? (m.add 4)=some (.slice j k o)/\∃ (b0:OA) (c0 d0:Nat),∃ l:World,(Builtin.append_ #[22,22] 22 #[(Value.slice r s t),(Value.slice (some (Addr.mk f0 0 none)) 1 1)]).run P f=.ok (.slice b0 c0 d0) l/\l.cell? (n.add 7)=some (.int .i64 d)/\l.cell? (m.add 4)=some (.slice j k o)/\qg j (fun g0=>0<=d/\d<(k:Nat)/\zF (g0.add (Int.toNat d*1)) (Value.slice b0 c0 d0) l (fun h0=>JQ g h i c h0 K)))))))))):=qz (qB [5,0] (qyY K) kr)
theorem qeR:JE d e f c g w K=(q9 P 61 [(Value.slice d e f)] w (fun r l=>r=(.tuple #[])/\qg c (fun s=>∃ m:Int,l.cell? (s.add 8)=some (.int .u32 m)/\qg c (fun t=>zF (t.add 8) (Value.int .u32 (IntKind.wrap .u32 (m+1))) l (fun h=>qg c (fun n=>qg c (fun o=>∃ i:Option Nat,h.drew.cell? (n.add 3)=some (.map i)/\∃ j:Int,h.drew.cell? (o.add 8)=some (.int .u32 j)/\qS 3 g h.drew (fun u=>q9 P 62 [(Value.agg u)] h.drew (fun v k=>∃ p:Array Value,v=(.agg p)/\k.cell? (o.add 8)=some (.int .u32 j)/\k.cell? (n.add 3)=some (.map i)/\∃ q:World,(Instr.mapUpdate 105 (Value.map i) (Value.int .u32 j) (Value.agg p)).run P k=.ok () q/\q4D d e f c q K))))))))):=qz (qB [5,0,3] (qy6 K) kr)
theorem q27:q04 g a h i c d e f w K Y10=(qm g (qmq a h i c d e f w K Y10) (JE d e f a c w K)):=qz kr
theorem q8y:q9d e f g c h i d w K Y10=(qg c (fun u=>qg c (fun m=>∃ n:Int,w.drew.cell? (u.add 7)=some (.int .i64 n)/\∃ (o:OA) (k p:Nat),w.drew.cell? (d.add 2)=some (.slice o k p)/\∃ l:Int,w.drew.cell? (m.add 1)=some (.int .i64 l)/\q9 P 58 [(Value.pointer c),(Value.int .i64 n)] w.drew (fun v j=>∃ q:Int,v=(.int .i64 q)/\j.cell? (m.add 1)=some (.int .i64 l)/\j.cell? (d.add 2)=some (.slice o k p)/\qm (decide ((IntKind.wrap .i64 (q+((k:Nat):Int))) > l)) (q04 true c h i d e f g j K Y10) (qg c (fun x=>∃ r:Option Nat,j.cell? (x.add 3)=some (.map r)/\∃ s:Int,(∀ wq,vj j wq->(Builtin.len_ #[105] 3 #[(Value.map r)]).run P wq=.ok (.int .i64 s) wq)/\q9 P 59 [(Value.pointer c)] j (fun y z=>∃ t:Int,y=(.int .i64 t)/\q04 (decide (s>=t)) c h i d e f g z K Y10))))))):=qz (qB [0,4,6,3,5] (q53 K Y10) (qB [79,0,4,6,3,5] (qvN K Y10) kr))
theorem qoE:qf4 c d e f g h i w K=(qH (qt4 K) (qh.mk 173 [(5,(Value.slice c d e)),(0,(Value.pointer f)),(4,(Value.int .u32 g)),(6,(Value.int .i64 h)),(3,(Value.pointer (some i)))] []) w):=qz (qB [5,0,3] (qhK K) (jt 0 [4,5,6,0,3] (q52 K) (CSv [4,5,6,0,3] [5,0,4,6,3])))
theorem q3u:q5Q a c d e f g h i w K=(qm a (K (Value.tuple #[(Value.int .u32 0),(Value.slice none 0 0),(Value.int .i64 2)]) w) (qf4 c d e f g h i w K)):=qz kr
theorem qnx:qqu e f g c h i d w K=(qg c (fun m=>∃ (n:OA) (j o:Nat),w.drew.cell? (d.add 2)=some (.slice n j o)/\∃ k:Int,w.drew.cell? (m.add 1)=some (.int .i64 k)/\qm (decide ((((j:Nat):Int):Int) > k)) (q5Q true e f g c h i d w.drew K) (qg c (fun p=>∃ l:Int,w.drew.cell? (p.add 8)=some (.int .u32 l)/\q5Q (l==2147483647) e f g c h i d w.drew K)))):=qz (qB [5,0,4,6,3] (q63 K) (qB [53,5,0,4,6,3] (qyd K) kr))
theorem qoK:qpI e f g c h i d w K=(∃ j:Int,w.cell? d=some (.int .u32 j)/\q9 P 21 [(Value.pointer c),(Value.int .u32 j)] w (fun m k=>∃ n:Int,∃ l:Bool,m=(.tuple #[(Value.int .u32 n),(Value.bool l)])/\qm l (K (Value.tuple #[(Value.int .u32 0),(Value.slice none 0 0),(Value.int .i64 5)]) k) (qqu e f g c h i d k K))):=qz (qB [5,0,4,6,3] (qlq K) (qB [5,0,4,6,3,10] (qxx K) kr))
theorem q37:q56 a c d e f g h i w K=(qm a (K (Value.tuple #[(Value.int .u32 0),(Value.slice none 0 0),(Value.int .i64 1)]) w) (qpI c d e f g h i w K)):=qz kr
theorem qnN:qpX d e f g h i c j k l w K=(∃ (m:OA) (n o:Nat),w.cell? (c.add 1)=some (.slice m n o)/\q9 P 55 [(Value.slice m n o)] w (fun s p=>∃ q:Bool,s=(.bool q)/\qm (!q) (q56 true d e f g h i c p K) (q9 P 56 [(Value.slice j k l),(Value.func (.func 57) #[] #[])] p (fun t u=>∃ r:Bool,t=(.bool r)/\q56 r d e f g h i c u K)))):=qz (qB [5,0,4,6,3] (qfb K) (qB [29,5,0,4,6,3] (qFA K) kr))
theorem q3G:qqa c d e f n o p q r s t u v x y z a0 b0 c0 d0 g h i j k l m w K=(qm (c != 0) (K (Value.tuple #[(Value.int .u32 0),(Value.slice none 0 0),(Value.int .i64 170)]) w) (qpX g h i j k l m d e f w K)):=Eq.trans (b:=CS P (cA js 15) none [4,5,6] [4,5,6] (zt K) (qh.mk 173 [(8,(VI c)),(7,(VS d e f)),(19,(VI n)),(18,(VS o p q)),(14,(Value.tuple #[(VS r s t),(VI u)])),(17,(Value.tuple #[(VS v x y),(VI z)])),(16,(VS a0 b0 c0)),(15,(VP (some d0))),(5,(VS g h i)),(0,(VP j)),(4,(Value.int .u32 k)),(6,(VI l)),(3,(VP (some m)))] []) w) kr (Eq.trans (qU [5,0,4,6,3,7] (qpN K) kr) (Eq.trans (qU [21,5,0,4,6,3,7] (qEG K) kr) kr))
theorem qos:qrR h i j k l m c w K=(∃ (n:OA) (o p:Nat),w.cell? (c.add 2)=some (.slice n o p)/\q9 P 54 [(Value.slice n o p)] w (fun q r=>∃ (d:OA) (e f:Nat),∃ g:Int,q=(.tuple #[(Value.slice d e f),(Value.int .i64 g)])/\qqa g d e f g d e f d e f g d e f g n o p (c.add 2) h i j k l m c r K)):=qz (qB [5,0,4,6,3,7,8] (qD0 K) kr)
theorem qpq:quN d e f g h i c j w K=(q9 P 53 [(Value.pointer c)] w (fun m k=>∃ l:Bool,m=(.bool l)/\qm l (K (Value.tuple #[(Value.int .u32 0),(Value.slice none 0 0),(Value.int .i64 5)]) k) (qrR e f g c h d i k K))):=Eq.trans (b:=CS P (cA js 3) none [4,5,6] [4,5,6] (zt K) (qh.mk 173 [(6,(VI d)),(5,(VS e f g)),(4,(Value.int .u32 h)),(3,(VP (some i))),(0,(VP c)),(1,(Value.agg j))] []) w) kr (Eq.trans (qU [5,0,4,6,3] (quO K) kr) (Eq.trans (qU [13,5,0,4,6,3] (qEo K) kr) kr))
theorem qoP:qti d c w K=(qs c 41 w (fun e f=>quN 0 none 0 0 0 (Addr.mk e 0 none) d c f K)):=Eq.trans (b:=CS P (cA js 1) none [4,5,6] [4,5,6] (zt K) (qh.mk 173 [(0,(VP d)),(1,(Value.agg c))] []) w) kr (Eq.trans (qU [5,0,4,6,3] (qFk K) kr) kr)
theorem qCg:f18 a b w K=(qti a b w K):=kr
theorem qDo a b w K(h:f18 a b w K):q9 P 18 [(Value.pointer a),(Value.agg b)] w K:=qy js Tryz.func18 h
def c20:=ql Tryz.f20
def qJ9:=Tryz.f20.results.toList
abbrev q5i K:=qr P qJ9 K
def f20 a b w K:=CS P c20 none [4] [4] (q5i K) (qw 41 [(VP a),(Value.agg b)]) w
def qq5 a b c d f w K:=SG c20 7 [4] [4] (q5i K) 41 [(3,VQ a),(4,VS b c d),(0,VP f)] w
abbrev qEe K:=kq c20 15 [4] [4] (q5i K)
abbrev qsh K:=qn 0 (qEe K)
def qyQ K Y1 e w:=zh (fun e w=>CS P (cA c20 244) none [5,3,14,4,0] [4,0,5] (qt [5,3,14,4,0] Y1 (qsh K)) e w) e w
abbrev qiJ K Y1:=qt [5,3,14,4,0] Y1 (qsh K)
def q6i a b c d f g h i j w K Y1:=SG c20 244 [5,3,14,4,0] [4,0,5] (qiJ K Y1) 41 [(5,VS a b c),(3,VQ d),(14,VQ f),(4,VS g h i),(0,VP j)] w
def qsY a b c d w K:=SG c20 31 [4] [4] (q5i K) 41 [(0,VP a),(5,VS b c d)] w
theorem qnP:qsY a c d e w K=(q9 P 60 [(Value.pointer a),(Value.slice c d e)] w (fun j f=>∃ (g:OA) (b h:Nat),j=(.slice g b h)/\qg a (fun k=>∃ i:Int,f.cell? (k.add 10)=some (.int .i64 i)/\qg a (fun l=>zF (l.add 10) (Value.int .i64 (IntKind.wrap .i64 (i+((b:Nat):Int)))) f (fun m=>K (Value.slice g b h) m))))):=kr
def qtp a b c d f g h i j w K Y1:=SG c20 979 [5,3,14,4,0] [4,0,5] (qiJ K Y1) 41 [(3,VQ a),(14,VQ b),(4,VS c d f),(0,VP g),(5,VS h i j)] w
theorem qp9:qtp a b c d e f g h i w K Y1=(∃ (k38 k:Value) (l:World),(Instr.entry (Value.pointer (some b))).run P w=.ok (.tuple #[k38,k]) l/\∃ j:Int,k38=(.int .u32 j)/\∃ m:Array Value,k=(.agg m)/\qs (qv P 41) 41 l (fun n a0=>zG 3 (Addr.mk n 0 none) m a0 (fun o=>∃ (p:OA) (q r:Nat),o.cell? ((Addr.mk n 0 none).add 1)=some (.slice p q r)/\q9 P 65 [(Value.slice p q r),(Value.func (.func 66) #[] #[(Value.pointer (some a))])] o (fun b0 s=>∃ t:Bool,b0=(.bool t)/\qm t (qE 1 [(Value.int .u32 j)]/\qs (([(Value.int .u32 j)].map fun(v:Value)=>v.cells.toList).flatten.toArray) 24 s (fun c0 d0=>∃ (u:OA) (x y:Nat),∃ z:World,(Builtin.append_ #[22,22] 22 #[(Value.slice g h i),(Value.slice (some (Addr.mk c0 0 none)) 1 1)]).run P d0=.ok (.slice u x y) z/\Y1 (qh.mk 41 [(5,(Value.slice u x y)),(3,(Value.pointer (some a))),(14,(Value.pointer (some b))),(4,(Value.slice c d e)),(0,(Value.pointer f))] []) z)) (Y1 (qh.mk 41 [(5,(Value.slice g h i)),(3,(Value.pointer (some a))),(14,(Value.pointer (some b))),(4,(Value.slice c d e)),(0,(Value.pointer f))] []) s))))):=kr
theorem q2B:q6i b c d f a g h i e w K Y1=((∃ j:World,(Instr.next (Value.pointer (some a)) false 0).run P w=.ok (.tuple #[.bool false]) j/\qsY e b c d j K)\/∃ (k21 l:Value) (k:World),(Instr.next (Value.pointer (some a)) false 0).run P w=.ok (.tuple #[.bool true,k21,l]) k/\qtp f a g h i e b c d k K Y1):=kr
theorem qn8:qq5 b c d e a w K=(qg a (fun i=>∃ f:Option Nat,w.cell? (i.add 3)=some (.map f)/\∃ (g:Nat) (h:World),(Instr.range 105 (Value.map f)).run P w=.ok (.pointer (some (Addr.mk g 0 none))) h/\qH (qyQ K) (qh.mk 41 [(5,(Value.slice none 0 0)),(3,(Value.pointer (some b))),(14,(Value.pointer (some (Addr.mk g 0 none)))),(4,(Value.slice c d e)),(0,(Value.pointer a))] []) h)):=kr
theorem qDh:f20 a b w K=(qs b 36 w (fun e f=>q9 P 53 [(Value.pointer a)] f (fun g c=>∃ d:Bool,g=(.bool d)/\qm d (K (Value.slice none 0 0) c) (qq5 (Addr.mk e 0 none) none 0 0 a c K)))):=kr
theorem qCF a b w K(h:f20 a b w K):q9 P 20 [(Value.pointer a),(Value.agg b)] w K:=qy c20 Tryz.func20 h
def c21:=ql Tryz.f21
def qKC:=Tryz.f21.results.toList
abbrev qrf K:=qr P qKC K
def f21 a b w K:=CS P c21 none [4,5] [4,5] (qrf K) (qw 19 [(VP a),(Value.int .u32 b)]) w
def qqB a b w K:=SG c21 7 [4,5] [4,5] (qrf K) 19 [(1,Value.int .u32 a),(0,VP b)] w
theorem qnu:qqB b c w K=(q9 P 68 [(Value.pointer c),(Value.int .u32 b)] w (fun d e=>∃ a:Int,∃ f:Int,d=(.tuple #[(Value.int .u32 a),(Value.int .i64 f)])/\K (Value.tuple #[(Value.int .u32 a),(Value.bool (a != 0))]) e)):=kr
theorem qDC:f21 a b w K=(q9 P 53 [(Value.pointer a)] w (fun e c=>∃ d:Bool,e=(.bool d)/\qm d (K (Value.tuple #[(Value.int .u32 0),(Value.bool false)]) c) (qqB b a c K))):=kr
theorem qFU a b w K(h:f21 a b w K):q9 P 21 [(Value.pointer a),(Value.int .u32 b)] w K:=qy c21 Tryz.func21 h
def c22:=ql Tryz.f22
def qKv:=Tryz.f22.results.toList
abbrev qrG K:=qr P qKv K
def f22 a b w K:=CS P c22 none [4] [4] (qrG K) (qw 16 [(VP a),(Value.int .u32 b)]) w
def qul a b w K:=SG c22 7 [4] [4] (qrG K) 16 [(1,Value.int .u32 a),(0,VP b)] w
theorem qoC:qul a b w K=(q9 P 68 [(Value.pointer b),(Value.int .u32 a)] w (fun d e=>∃ f:Int,∃ c:Int,d=(.tuple #[(Value.int .u32 f),(Value.int .i64 c)])/\K (Value.int .i64 c) e)):=kr
theorem qG8:f22 a b w K=(q9 P 53 [(Value.pointer a)] w (fun e c=>∃ d:Bool,e=(.bool d)/\qm d (K (Value.int .i64 0) c) (qul b a c K))):=kr
theorem qEY a b w K(h:f22 a b w K):q9 P 22 [(Value.pointer a),(Value.int .u32 b)] w K:=qy c22 Tryz.func22 h
def c23:=ql Tryz.f23
def qJe:=Tryz.f23.results.toList
abbrev ZW K:=qr P qJe K
def f23 a w K:=CS P c23 none [2] [2] (ZW K) (qw 56 [(VP a)]) w
def qt2 a b w K:=SG c23 7 [2] [2] (ZW K) 56 [(0,VP a),(2,VQ b)] w
def qt7 a b c w K:=SG c23 15 [2] [2] (ZW K) 56 [(3,VQ a),(0,VP b),(2,VQ c)] w
abbrev qDp K:=kq c23 15 [2] [2] (ZW K)
abbrev qss K:=qn 0 (qDp K)
def qxG K Y2 e w:=zh (fun e w=>CS P (cA c23 244) none [29,3,0,2,28] [2,3,0] (qt [29,3,0,2,28] Y2 (qss K)) e w) e w
abbrev q4q K Y2:=qt [29,3,0,2,28] Y2 (qss K)
def qmQ a b c d f w K Y2:=SG c23 244 [29,3,0,2,28] [2,3,0] (q4q K Y2) 56 [(29,VI a),(3,VQ b),(0,VP c),(2,VQ d),(28,VI f)] w
def qu0 a b c d f w K Y2:=SG c23 979 [29,3,0,2,28] [2,3,0] (q4q K Y2) 56 [(3,VQ a),(0,VP b),(2,VQ c),(28,VI d),(29,VI f)] w
def qsx a b c d f w K Y2:=SG c23 1959 [29,3,0,2,28] [2,3,0] (q4q K Y2) 56 [(3,VQ a),(0,VP b),(2,VQ c),(28,VI d),(29,VI f)] w
theorem qoc:qsx a b c d e w K Y2=(Y2 (qh.mk 56 [(29,(Value.int .i64 (IntKind.wrap .i64 (e+1)))),(3,(Value.pointer (some a))),(0,(Value.pointer b)),(2,(Value.pointer (some c))),(28,(Value.int .i64 d))] []) w):=kr
theorem qp3:qu0 a b e f c w K Y2=(∃ d:Int,w.drew.cell? (a.add 1)=some (.int .i64 d)/\q9 P 58 [(Value.pointer b),(Value.int .i64 c)] w.drew (fun i g=>∃ h:Int,i=(.int .i64 h)/\g.cell? (a.add 1)=some (.int .i64 d)/\zF (a.add 1) (Value.int .i64 (IntKind.wrap .i64 (d+h))) g (fun j=>qsx a b e f c j K Y2))):=kr
def qtw a b c w K:=SG c23 31 [2] [2] (ZW K) 56 [(3,VQ a),(2,VQ b),(0,VP c)] w
abbrev qz3 K:=kq c23 31 [2] [2] (ZW K)
abbrev qit K:=qn 2 (qz3 K)
def qAY K Y6 e w:=zh (fun e w=>CS P (cA c23 500) none [3,44,2] [2,3] (qt [3,44,2] Y6 (qit K)) e w) e w
abbrev qms K Y6:=qt [3,44,2] Y6 (qit K)
def q6u a b c w K Y6:=SG c23 500 [3,44,2] [2,3] (qms K Y6) 56 [(3,VQ a),(44,VQ b),(2,VQ c)] w
def qqO a b w K:=SG c23 63 [2] [2] (ZW K) 56 [(2,VQ a),(3,VQ b)] w
theorem qoB:qqO a b w K=(qS 5 b w (fun d=>zG 5 a d w (fun c=>qS 5 a c (fun e=>K (Value.agg e) c)))):=kr
def qt9 a b c w K Y6:=SG c23 2003 [3,44,2] [2,3] (qms K Y6) 56 [(3,VQ a),(44,VQ b),(2,VQ c)] w
theorem qop:qt9 a c d w K Y6=(∃ (k70 e:Value) (b:World),(Instr.entry (Value.pointer (some c))).run P w=.ok (.tuple #[k70,e]) b/\∃ f:Option Nat,e=(.map f)/\∃ g:Int,b.cell? (a.add 2)=some (.int .i64 g)/\∃ h:Int,(∀ wq,vj b wq->(Builtin.len_ #[124] 3 #[(Value.map f)]).run P wq=.ok (.int .i64 h) wq)/\zF (a.add 2) (Value.int .i64 (IntKind.wrap .i64 (g+h))) b (fun i=>Y6 (qh.mk 56 [(3,(Value.pointer (some a))),(44,(Value.pointer (some c))),(2,(Value.pointer (some d)))] []) i)):=kr
theorem q0y:q6u b a c w K Y6=((∃ d:World,(Instr.next (Value.pointer (some a)) false 0).run P w=.ok (.tuple #[.bool false]) d/\qqO c b d K)\/∃ (k59 f:Value) (e:World),(Instr.next (Value.pointer (some a)) false 0).run P w=.ok (.tuple #[.bool true,k59,f]) e/\qt9 b a c e K Y6):=kr
theorem qou:qtw a b c w K=(qg c (fun g=>∃ d:Option Nat,w.cell? (g.add 6)=some (.map d)/\∃ (e:Nat) (f:World),(Instr.range 107 (Value.map d)).run P w=.ok (.pointer (some (Addr.mk e 0 none))) f/\qH (qAY K) (qh.mk 56 [(3,(Value.pointer (some a))),(44,(Value.pointer (some (Addr.mk e 0 none)))),(2,(Value.pointer (some b)))] []) f)):=kr
theorem qfN:qmQ a b c d e w K Y2=(qm (decide (a<e)) (qu0 b c d e a w K Y2) (qtw b d c w K)):=kr
theorem qnU:qt7 b a c w K=(qg a (fun e=>∃ (f:OA) (d g:Nat),w.cell? (e.add 4)=some (.slice f d g)/\qH (qxG K) (qh.mk 56 [(29,(Value.int .i64 0)),(3,(Value.pointer (some b))),(0,(Value.pointer a)),(2,(Value.pointer (some c))),(28,(Value.int .i64 ((d:Nat):Int)))] []) w)):=kr
theorem qoe:qt2 a b w K=(qg a (fun i=>qg a (fun j=>qg a (fun k=>∃ c:Option Nat,w.drew.cell? (i.add 3)=some (.map c)/\∃ d:Int,(∀ wq,vj w.drew wq->(Builtin.len_ #[105] 3 #[(Value.map c)]).run P wq=.ok (.int .i64 d) wq)/\∃ e:Int,w.drew.cell? (j.add 9)=some (.int .i64 e)/\∃ f:Int,w.drew.cell? (k.add 10)=some (.int .i64 f)/\∃ g:Array Value,(∀ wq,(Instr.build 47 #[(0,(Value.int .i64 d)),(3,(Value.int .i64 e)),(4,(Value.int .i64 f))]).run P wq=.ok (.agg g) wq)/\qs (qv P 47) 47 w.drew (fun h l=>zG 5 (Addr.mk h 0 none) g l (fun m=>qt7 (Addr.mk h 0 none) a b m K)))))):=kr
theorem qDE:f23 a w K=(qs (qv P 47) 47 w (fun b g=>q9 P 53 [(Value.pointer a)] g (fun h c=>∃ d:Bool,h=(.bool d)/\qm d (∃ e:Array Value,(∀ wq,(Instr.build 47 #[]).run P wq=.ok (.agg e) wq)/\zG 5 (Addr.mk b 0 none) e c (fun f=>qS 5 (Addr.mk b 0 none) f (fun i=>K (Value.agg i) f))) (qt2 a (Addr.mk b 0 none) c K)))):=kr
theorem qG1 a w K(h:f23 a w K):q9 P 23 [(Value.pointer a)] w K:=qy c23 Tryz.func23 h
end Go.Fx.Tryz
namespace Go.Fx.Ch
def EX.zero:EX:=⟨0,0,0,0,0⟩
def yu(s:qf)(id slot:Int):EX × Int:=match lk s.items id with
 | none=>(EX.zero,211)
 | some _=>match(zw s.items id).find? fun e=>e.slot==slot with
  | none=>(EX.zero,1)
  | some x=>(x,0)
end Go.Fx.Ch
namespace Go.Fx.Tryz
open Go Go.Fx Go.Fx.Ch
open Go.Proofs
set_option linter.all false
set_option maxRecDepth 20000
variable {w0 w:World} {H G:qA} {K:KT} {s:qf} {L:qK} {q:LB}
theorem qtj(hL:L.Ok w0 q s){c:Nat}(hc:c<s.rows.length):∃ sa sc,(L.rv.map (·.1))[c]?=some (.slice sa s.rows[c].length sc)/\∀ w',St w0 w' (L.bl q s++H)->vC w' 1 (.slice sa s.rows[c].length sc) s.rows[c].length (s.rows[c].map U):=by
 obtain⟨a,v,b,e0,hal,hv,hset⟩:=hL.rows.split (List.getElem?_eq_getElem hc)
 obtain⟨sa,sc,hsv⟩:=hv.form
 refine⟨sa,sc,?_,fun w' h'=>?_⟩
 ·rw[e0,List.map_append,List.getElem?_append_right (by simp;omega)]
  simp[hal,hsv]
 ·rw[<-hsv]
  refine hv.row fun u hu=>h'.has _ _ (List.mem_append_left _ (.tail _ (.tail _ (.tail _ (.tail _ (.tail _ (List.mem_append_left _ ?_)))))))
  rw[e0]
  simp only[List.map_append,List.map_cons,List.flatten_append,List.flatten_cons,List.mem_append]
  exact .inr (.inl hu)
def qM(items:List (Int × TR))(l:List Int):Int:=(l.map fun id=>((qk items id).code.length:Int)).sum
theorem yD{items:List (Int × TR)}(h:∀ id,(qk items id).code.length<1000000):∀ l:List Int,0<=qM items l/\qM items l<=l.length*1000000
 | []=>by simp[qM]
 | x::l=>by
  obtain⟨h1,h2⟩:=yD h l
  have:=h x
  unfold qM at *
  simp only[List.map_cons,List.sum_cons,List.length_cons]
  omega
theorem qK.Ok.codeLen(hL:L.Ok w0 q s)(h:St w0 w (L.bl q s++H))(id:Int):(qk s.items id).code.length<1000000:=by
 obtain⟨v,hv,_⟩:=hL.its.look (w:=w) (h.get (k:=2) rfl) id
 obtain⟨⟨sv,cv,_,_,hB⟩,_,_⟩:=hv
 exact hB.len
theorem q3T(h:St w0 w (L.bl q s++H))(hL:L.Ok w0 q s){c:Nat}(hc:c<s.rows.length)(hr:s.rows[c].length<1000000000)
  (hK:∀ w',St w0 w' (L.bl q s++H)->K (J (qZ s c)) w'):q9 P 58 [.pointer (some ⟨q.cb,0,none⟩),J c] w K:=by
 refine qCx _ _ _ _ ?_
 rw[qDm]
 obtain⟨sa,sc,hrv,hrow⟩:=qtj (H:=H) hL hc
 refine⟨some ⟨q.rb,0,none⟩,s.rows.length,s.rows.length,by rw[qa];exact h.cell (k:=1) rfl,by omega,by omega,sa,s.rows[c].length,sc,?_,?_⟩
 ·rw[qa,Int.toNat_natCast,Nat.mul_one,Nat.zero_add]
  rw[h.cell (k:=4) rfl];exact hrv
 have hfs:qZ s c=qM s.items s.rows[c]:=by unfold qZ qM;rw[List.getElem?_eq_getElem hc];rfl
 rw[hfs]at hK
 generalize s.rows[c]=r at *
 have hcode:=hL.codeLen h
 refine⟨fun m e' w'=>∃ j:Nat,j<=r.length/\m=r.length-j/\e'=qh.mk 32 [(16,J j),(0,.pointer (some ⟨q.cb,0,none⟩)),(5,J (qM s.items (r.take j))),(14,.slice sa r.length sc),(4,J 0),(15,J r.length)] []/\St w0 w' (L.bl q s++H),⟨_,0,by omega,rfl,rfl,h⟩,?_⟩
 rintro m e' w' ⟨j,hj,rfl,rfl,hs⟩
 show qlX ..
 rw[qf0,qe]
 refine⟨fun hlt=>?_,fun hge=>?_⟩
 ·have hlt:j<r.length:=by have:=of_decide_eq_true hlt;omega
  rw[qp0]
  obtain⟨ad,cp,hac,_⟩:=(hrow w' hs).ldA hlt
  injection hac with hac _ _
  subst hac
  obtain⟨v,hv,hlk,_⟩:=hL.its.look (w:=w') (hs.get (k:=2) rfl) r[j]
  obtain⟨⟨sv,cv,rfl,hS,hB⟩,_,_⟩:=hv
  obtain⟨ca,cc,rfl⟩:=((hB.bytes (w0:=w0) (H:=L.bl q s++H) fun u hu=>List.mem_append_left _ (L.G_mem q s u hu)).row w' hs).form
  refine⟨by omega,by omega,r[j],by rw[Int.toNat_natCast];exact y6 (hrow w' hs) hlt,some q.ib,by rw[qa];exact hs.cell (k:=1) rfl,_,hlk,ca,(qk s.items r[j]).code.length,cc,rfl,?_⟩
  rw[qnr]
  have hb:=yD hcode (r.take j)
  have hb2:=yD hcode (r.take (j+1))
  have hst:qM s.items (r.take (j+1))=qM s.items (r.take j)+((qk s.items r[j]).code.length:Nat):=by
   rw[zp r hlt]
   unfold qM
   rw[List.map_append,List.sum_append]
   show _+(_+0)=_
   rw[Int.add_zero]
  have hl1:(r.take j).length<=r.length:=by rw[List.length_take];omega
  have hl2:(r.take (j+1)).length<=r.length:=by rw[List.length_take];omega
  refine⟨r.length-(j+1),by omega,j+1,by omega,rfl,?_,hs⟩
  rw[hst,qc (x:=(j:Int)+1) om om,qc om om];rfl
 ·have:j=r.length:=by have:=of_decide_eq_false hge;omega
  subst this
  rw[List.take_length,qob]
  exact hK w' hs
theorem ZY(h:St w0 w (L.bl q s++H))(hK:K (.bool false) w):q9 P 53 [.pointer (some ⟨q.cb,0,none⟩)] w K:=by
 refine qwF (slots:=((2 ^ s.k:Nat):Int)) (fun b hb=>by cases hb;rw[qa];exact h.cell (k:=1) rfl) ?_
 have:(((2 ^ s.k:Nat):Int)==0)=false:=by
  have:0<2 ^ s.k:=Nat.pow_pos (by decide)
  generalize 2 ^ s.k=x at *
  simp;omega
 rw[this];exact hK
theorem Zc(h:St w0 w (L.bl q s++H))(hL:L.Ok w0 q s)(hg:zr H){at_:Int}(h0:0<=at_)(h1:at_<4294967296)
  (hK:∀ w',St w0 w' (L.bl q s++H)->K (.tuple [U (qW s at_).1,.bool ((qW s at_).1 != 0)].toArray) w'):q9 P 21 [.pointer (some ⟨q.cb,0,none⟩),U at_] w K:=by
 refine qFU _ _ _ _ ?_
 rw[qDC]
 refine ZY h ⟨_,rfl,?_⟩
 simp only[qb]
 rw[qnu]
 exact qjE h (hL.known hg) (fun u hu=>List.mem_append_left _ (L.G_mem q s u hu)) h0 h1 fun w' h'=>⟨_,_,rfl,hK w' h'⟩
theorem q3j(h:St w0 w (L.bl q s++H))(hL:L.Ok w0 q s)(hg:zr H){at_:Int}(h0:0<=at_)(h1:at_<4294967296)
  (hK:∀ w',St w0 w' (L.bl q s++H)->K (J (qW s at_).2) w'):q9 P 22 [.pointer (some ⟨q.cb,0,none⟩),U at_] w K:=by
 refine qEY _ _ _ _ ?_
 rw[qG8]
 refine ZY h ⟨_,rfl,?_⟩
 simp only[qb]
 rw[qoC]
 exact qjE h (hL.known hg) (fun u hu=>List.mem_append_left _ (L.G_mem q s u hu)) h0 h1 fun w' h'=>⟨_,_,rfl,hK w' h'⟩
theorem qxy(wq:World):(Instr.build 41 ([]:List (Nat × Value)).toArray).run P wq=.ok (.agg #[U 0,.slice none 0 0,.slice none 0 0]) wq:=kr
theorem qhX(wq:World):(Instr.build 62 ([]:List (Nat × Value)).toArray).run P wq=.ok (.agg #[J 0,J 0,U 0,J 0,U 0]) wq:=kr
theorem qCK(h:St w0 w (L.bl q s++H))(hL:L.Ok w0 q s){id:Int}
  (hN:lk s.items id=none->∀ w',St w0 w' (L.bl q s++H)->K (.tuple [.agg #[U 0,.slice none 0 0,.slice none 0 0],J 211].toArray) w')
  (hK:∀ t,lk s.items id=some t->∀ w' sv' cv' L1 M,zn 2 36 sv' t.sp.length (t.sp.map Z8).flatten L1->qD w0 L1->zn 1 5 cv' t.code.length (t.code.map B) M->qD w0 M->St w0 w' (M++(L1++(L.bl q s++H)))->K (.tuple [.agg (zL t.at_ sv' cv').toArray,J 0].toArray) w') :
  q9 P 28 [.pointer (some ⟨q.cb,0,none⟩),U id] w K:=by
 refine qEs _ _ _ _ ?_
 rw[qCA,jf]
 refine h.newC fun n2 w3 hn2 h3=>?_
 have h3':St w0 w3 (L.bl q s++((n2,Cs [U 0,.slice none 0 0,.slice none 0 0] 41)::H)):=h3.perm (qo fun c=>by simp only[List.map_append,List.map_cons,List.sum_append,List.sum_cons];omega)
 refine ZY h3' ⟨_,rfl,?_⟩
 simp only[qb]
 rw[qpe]
 obtain⟨v,hv,_,hlk⟩:=hL.its.look (w:=w3) (h3'.get (k:=2) rfl) id
 obtain⟨⟨sv,cv,rfl,hS,hB⟩,_,_⟩:=hv
 have h4:St w0 w3 ((n2,Cs [U 0,.slice none 0 0,.slice none 0 0] 41)::(L.bl q s++H)):=h3
 obtain⟨sa,sc,e1⟩:=((hS.spans (w0:=w0) (H:=L.bl q s++H) fun u hu=>List.mem_append_left _ (L.G_mem q s u hu)).row w h).form
 obtain⟨ca,cc,e2⟩:=((hB.bytes (w0:=w0) (H:=L.bl q s++H) fun u hu=>List.mem_append_left _ (L.G_mem q s u hu)).row w h).form
 subst e1;subst e2
 refine⟨some q.ib,by rw[qa];exact h4.cell (k:=2) rfl,_,_,hlk,?_⟩
 rw[jf]
 refine h4.newC fun n17 w18 hn17 h18=>h18.stA (k:=0) rfl rfl (by simp) (by simp[zL,Value.oneCell']) fun w19 h19=>?_
 have h19:St w0 w19 ((n17,Cs (zL (qk s.items id).at_ (.slice sa (qk s.items id).sp.length sc) (.slice ca (qk s.items id).code.length cc)) 41)::(n2,Cs [U 0,.slice none 0 0,.slice none 0 0] 41)::(L.bl q s++H)):=h19
 cases hi:lk s.items id with
 | none=>
  simp only[Option.isSome_none,Bool.not_false,qd]
  refine⟨_,qxy,h19.stA (k:=1) rfl rfl (by simp) (by simp[Value.oneCell']) fun w21 h21=>h21.ldA (k:=1) rfl (by simp[zi]) ?_⟩
  exact hN hi w21 ((h21.tail hn17).tail hn2)
 | some t=>
  simp only[Option.isSome_some,Bool.not_true,qb]
  rw[qpm]
  have hio:qk s.items id=t:=by unfold qk;rw[hi];rfl
  rw[hio]at h19 hS hB
  refine h19.ldA (k:=0) rfl (by simp[zL]) ?_
  have up:∀ u∈L.G,u∈((n17,Cs (zL t.at_ (.slice sa t.sp.length sc) (.slice ca t.code.length cc)) 41)::(n2,Cs [U 0,.slice none 0 0,.slice none 0 0] 41)::(L.bl q s++H)):=fun u hu=>.tail _ (.tail _ (List.mem_append_left _ (L.G_mem q s u hu)))
  refine q3Q h19 (hS.spans up) (hB.bytes up) fun w27 sv' cv' L1 M h1 h2 h3 h4 h27=>⟨_,rfl,?_⟩
  obtain⟨sa',sc',e1⟩:=h1.form
  obtain⟨ca',cc',e2⟩:=h3.form
  subst e1;subst e2
  have h28:St w0 w27 ((n17,Cs (zL t.at_ (.slice sa t.sp.length sc) (.slice ca t.code.length cc)) 41)::(n2,Cs [U 0,.slice none 0 0,.slice none 0 0] 41)::(M++(L1++(L.bl q s++H)))):=h27.perm (qo fun c=>by simp only[List.map_append,List.map_cons,List.sum_append,List.sum_cons];omega)
  refine h28.stA (k:=1) rfl rfl (by simp) (by simp[zL,Value.oneCell']) fun w29 h29=>h29.ldA (k:=1) rfl (by simp[zi]) ?_
  exact hK t hi w29 _ _ L1 M h1 h2 h3 h4 ((h29.tail hn17).tail hn2)
theorem qnk{l:List EX}{p:EX->Bool}:(q2W p l<0/\l.find? p=none)\/∃ (i:Nat) (hi:i<l.length),q2W p l=i/\l.find? p=some l[i]:=by
 unfold q2W
 cases h:l.findIdx? p with
 | none=>
  refine .inl ⟨by decide,?_⟩
  exact List.find?_eq_none.2 fun x hx=>by simpa using List.findIdx?_eq_none_iff.1 h x hx
 | some i=>
  obtain⟨hi,hp,hb⟩:=List.findIdx?_eq_some_iff_getElem.1 h
  refine .inr ⟨i,hi,rfl,?_⟩
  rw[List.find?_eq_some_iff_getElem]
  exact⟨hp,i,hi,rfl,fun j hj=>by simpa using hb j hj⟩
theorem qxe(h:St w0 w (L.bl q s++H))(hL:L.Ok w0 q s)(hg:zr H){id slot:Int}
  (hK:∀ w',St w0 w' (L.bl q s++H)->K (.tuple [.agg (Xc (yu s id slot).1).toArray,J (yu s id slot).2].toArray) w'):q9 P 78 [.pointer (some ⟨q.cb,0,none⟩),U id,J slot] w K:=by
 refine qG5 _ _ _ _ _ ?_
 rw[qGd,q1A]
 refine h.newC fun n3 w4 hn3 h4=>h4.newC fun n5 w6 hn5 h6=>?_
 have h6:St w0 w6 ((n5,Cs (Xc EX.zero) 62)::(n3,Cs [J slot] 3)::(L.bl q s++H)):=h6
 have h6':St w0 w6 (L.bl q s++((n5,Cs (Xc EX.zero) 62)::(n3,Cs [J slot] 3)::H)):=h6.perm (qo fun c=>by simp only[List.map_append,List.map_cons,List.sum_append,List.sum_cons];omega)
 refine ZY h6' ⟨_,rfl,?_⟩
 simp only[qb]
 rw[qph]
 obtain⟨v,hv,_,hlk⟩:=hL.its.look (w:=w6) (h6'.get (k:=2) rfl) id
 obtain⟨⟨sv,cv,rfl,hS,hB⟩,_,_⟩:=hv
 obtain⟨sa,sc,e1⟩:=((hS.spans (w0:=w0) (H:=L.bl q s++H) fun u hu=>List.mem_append_left _ (L.G_mem q s u hu)).row w h).form
 obtain⟨ca,cc,e2⟩:=((hB.bytes (w0:=w0) (H:=L.bl q s++H) fun u hu=>List.mem_append_left _ (L.G_mem q s u hu)).row w h).form
 subst e1;subst e2
 refine⟨some q.ib,by rw[qa];exact h6.cell (k:=3) rfl,_,_,hlk,?_⟩
 rw[jf]
 refine h6.newC fun n21 w22 hn21 h22=>h22.stA (k:=0) rfl rfl (by simp) (by simp[zL,Value.oneCell']) fun w23 h23=>?_
 have h23:=h23.tail hn21
 have h23:St w0 w23 ((n5,Cs (Xc EX.zero) 62)::(n3,Cs [J slot] 3)::(L.bl q s++H)):=h23
 have out:∀ {w2:World} {x:EX} {e:Int} {vs:Array Value},vs=(Xc x).toArray->St w0 w2 ((n5,Cs (Xc EX.zero) 62)::(n3,Cs [J slot] 3)::(L.bl q s++H))->yu s id slot=(x,e)->
   zG 5 (Addr.mk n5 0 none) vs w2 (fun w25=>qS 5 (Addr.mk n5 0 none) w25 (fun cs26=>K (.tuple [.agg cs26,J e].toArray) w25)):=fun {w2 x e vs} hv hs he=>by
  subst hv
  refine hs.stA (k:=0) rfl rfl (by simp[Xc]) (by simp[Xc,Value.oneCell']) fun w25 h25=>h25.ldA (k:=0) rfl (by simp[zi,Xc]) ?_
  rw[he]at hK
  exact hK w25 ((h25.tail hn5).tail hn3)
 cases hi:lk s.items id with
 | none=>
  simp only[Option.isSome_none,Bool.not_false,qd]
  exact⟨_,qhX,out (x:=EX.zero) rfl h23 (by unfold yu;rw[hi])⟩
 | some t=>
  simp only[Option.isSome_some,Bool.not_true,qb]
  rw[qoO]
  have hg2:zr ((n5,Cs (Xc EX.zero) 62)::(n3,Cs [J slot] 3)::H):=hg.mono fun u hu=>.tail _ (.tail _ hu)
  have h24:St w0 w23 (L.bl q s++((n5,Cs (Xc EX.zero) 62)::(n3,Cs [J slot] 3)::H)):=h23.perm (qo fun c=>by simp only[List.map_append,List.map_cons,List.sum_append,List.sum_cons];omega)
  refine J8 h24 hL hg2 id fun w32 a c N hb h32 hN hSl=>⟨_,_,_,rfl,?_⟩
  have hmem:(n3,Cs [J slot] 3)∈N++(L.bl q s++((n5,Cs (Xc EX.zero) 62)::(n3,Cs [J slot] 3)::H)):=List.mem_append_right _ (List.mem_append_right _ (.tail _ (.head _)))
  refine Je (l:=zw s.items id) h32 (fun w' h'=>hSl.row fun u hu=>h'.has _ _ (List.mem_append_left _ hu)) om (qy2 (t:=3) hmem) fun w35 h35=>⟨_,rfl,?_⟩
  have h36:St w0 w35 (N++((n5,Cs (Xc EX.zero) 62)::(n3,Cs [J slot] 3)::(L.bl q s++H))):=h35.perm (qo fun c=>by simp only[List.map_append,List.map_cons,List.sum_append,List.sum_cons];omega)
  have h37:=h36.sub hN
  rcases qnk (l:=zw s.items id) (p:=fun e=>e.slot==slot)with⟨hlt,hf⟩ | ⟨j,hj,hidx,hf⟩
  ·rw[decide_eq_true hlt]
   simp only[qd]
   exact⟨_,qhX,out (x:=EX.zero) rfl h37 (by unfold yu;rw[hi];simp only[hf])⟩
  ·rw[hidx,show decide (((j:Nat):Int)<0)=false from decide_eq_false om]
   simp only[qb]
   rw[qni]
   obtain⟨ad,cp,hac,hld⟩:=(hSl.row (w:=w35) fun u hu=>h35.has _ _ (List.mem_append_left _ hu)).ldA hj
   injection hac with hac _ _
   subst hac
   refine⟨by omega,by omega,?_⟩
   rw[Int.toNat_natCast]
   refine hld _ ?_
   rw[vE Xc 5 qby _ hj]
   exact out (x:=(zw s.items id)[j]) rfl h37 (by unfold yu;rw[hi];simp only[hf])
end Go.Fx.Tryz
namespace Go.Fx.Ch
set_option linter.all false
abbrev jm(x:Int):Prop:=0<=x/\x<4294967296
theorem q2Y:jm 0:=⟨by decide,by decide⟩
def qoY(bs:List Int):Prop:=∀ b∈bs,0<=b/\b<256
theorem qoY.drop{bs:List Int}(h:qoY bs)(n:Nat):qoY (bs.drop n):=fun b hb=>h b (List.mem_of_mem_drop hb)
theorem qHD{bs:List Int}(h:qoY bs)(s:Rd):jm (rd bs s 4).1:=by
 unfold rd
 split
 ·exact q2Y
 ·have hl:=Tryz.q2h ((bs.drop s.1).take 4) fun b hb=>h b (List.mem_of_mem_drop (List.mem_of_mem_take hb))
  have h4:((bs.drop s.1).take 4).length<=4:=by rw[List.length_take];omega
  have:(256:Int) ^ ((bs.drop s.1).take 4).length<=256 ^ 4:=by
   generalize ((bs.drop s.1).take 4).length=m at h4
   match m,h4 with
   | 0,_ | 1,_ | 2,_ | 3,_ | 4,_=>decide
  exact⟨hl.1,by have:(256:Int) ^ 4=4294967296:=by decide
                omega⟩
theorem qkk(x:HI)(i:Nat)(v:Int):(q5D x i v).i=x.i/\(q5D x i v).chain=x.chain:=by unfold q5D;split<;>exact⟨rfl,rfl⟩
theorem q5k{fs:Nat}{bs:List Int}{s:HI × Rd}:∀ i,(ji fs bs i s).1.i=s.1.i/\(ji fs bs i s).1.chain=s.1.chain
 | 0=>⟨rfl,rfl⟩
 | i+1=>by
  have ih:=q5k (fs:=fs) (bs:=bs) (s:=s) i
  show(Vs fs bs i (ji fs bs i s)).1.i=_/\(Vs fs bs i (ji fs bs i s)).1.chain=_
  unfold Vs
  split
  ·exact⟨(qkk _ _ _).1.trans ih.1,(qkk _ _ _).2.trans ih.2⟩
  ·exact ih
theorem qij(x:HI)(i:Nat)(v:Int):(qb9 x i v).i=x.i/\(qb9 x i v).chain=x.chain:=by unfold qb9;split<;>exact⟨rfl,rfl⟩
theorem q71{bs:List Int}{s:HI × Rd}:∀ i,(ju bs i s).1.i=s.1.i/\(ju bs i s).1.chain=s.1.chain
 | 0=>⟨rfl,rfl⟩
 | i+1=>by
  have ih:=q71 (bs:=bs) (s:=s) i
  exact⟨(qij _ _ _).1.trans ih.1,(qij _ _ _).2.trans ih.2⟩
theorem qky{fs:Nat}{bs:List Int}{s:HI × Rd}:(QW fs bs s).1.i=s.1.i/\(QW fs bs s).1.chain=s.1.chain:=by
 unfold QW;split
 ·exact q71 _
 ·exact⟨rfl,rfl⟩
theorem qtX{bs:List Int}(hb:qoY bs){x:HI}{n:Nat}(h:decode bs=some (x,n)):jm x.i/\jm x.chain:=by
 unfold decode at h
 dsimp only at h
 split at h
 ·cases h
 ·split at h
  ·cases h
  ·simp only[Option.some.injEq,Prod.mk.injEq]at h
   obtain⟨rfl,rfl⟩:=h
   rw[qky.1,qky.2]
   have h0:∀ (o:Int) (s:Rd),jm (ji (zy o).1 bs 8 ({ op:=o },s)).1.i/\jm (ji (zy o).1 bs 8 ({ op:=o },s)).1.chain:=fun o s=>by
    rw[(q5k 8).1,(q5k 8).2]
    exact⟨q2Y,q2Y⟩
   generalize hy:ji (zy (rd bs (0,false) 1).1).1 bs 8 ({ op:=(rd bs (0,false) 1).1 },(rd bs (0,false) 1).2)=y
   have hy0:=h0 (rd bs (0,false) 1).1 (rd bs (0,false) 1).2
   rw[hy]at hy0
   have ha:jm (ZX (zy (rd bs (0,false) 1).1).1 bs y).1.i/\jm (ZX (zy (rd bs (0,false) 1).1).1 bs y).1.chain:=by
    unfold ZX;split
    ·exact⟨qHD hb _,hy0.2⟩
    ·exact hy0
   generalize ZX (zy (rd bs (0,false) 1).1).1 bs y=z at ha
   unfold VJ;split
   ·exact⟨ha.1,qHD hb _⟩
   ·exact ha
theorem qrV{bs:List Int}{l:List (HI × Nat)}(ha:Qe bs=some l):Run bs 0 l:=by
 unfold Qe at ha
 split at ha
 ·cases ha
 ·obtain⟨r,hr,hh⟩:=q0A _ _ _ _ ha (Nat.zero_le _)
  simp at hr;subst hr;exact hh
theorem q8a{bs:List Int}{l:List EX}(h:zQ bs=some l){e:EX}(he:e∈l):∃ (al:List (HI × Nat)) (i:Nat) (p:HI × Nat) (n:Nat),Qe bs=some al/\al[i]?=some p/\(p.1.op=39\/p.1.op=40)/\
  decode (bs.drop p.2)=some (p.1,n)/\p.2+n<=bs.length/\e=⟨p.2,((p.2+n:Nat):Int)-4,p.1.i,p.1.k,p.1.chain⟩:=by
 unfold zQ at h
 cases ha:Qe bs with
 | none=>rw[ha]at h;cases h
 | some al=>
  rw[ha]at h
  simp only[Option.map_some,Option.some.injEq]at h
  subst h
  unfold q6s at he
  obtain⟨i,_,hi⟩:=List.mem_filterMap.1 he
  unfold vP at hi
  split at hi
  ·cases hi
  ·rename_i p hp
   split at hi
   ·cases hi
   ·rename_i hop
    simp only[Option.some.injEq]at hi
    subst hi
    obtain⟨n,e1,e2,e3⟩:=(qrV ha).at hp
    exact⟨al,i,p,n,rfl,hp,by simp at hop;omega,e1,e3,by rw[e2]⟩
theorem qA1{bs:List Int}(hb:qoY bs){l:List EX}(h:zQ bs=some l){e:EX}(he:e∈l):jm e.to/\jm e.chain:=by
 obtain⟨al,i,p,n,_,_,_,hd,_,rfl⟩:=q8a h he
 exact qtX (hb.drop _) hd
end Go.Fx.Ch
namespace Go.Fx.Ch
open Go.Fx.Tryz
def QD(s:qf)(id slot:Int):qf × Bool × Int:=if(yu s id slot).2≠0 then(s,false,(yu s id slot).2)
 else if((qW s (yu s id slot).1.to).1=0\/QV (yu s id slot).1=false)then(s,false,0)
 else({ s with items:=yJ s.items (id,slot) (qW s (yu s id slot).1.to).1,hold:=qjk s.hold (id,slot) (qW s (yu s id slot).1.to).1 },true,0)
theorem qqb{t:List Int}(h:∀ x∈t,jm x)(i:Nat):jm (qi t i):=by
 unfold qi
 cases hi:t[i]? with
 | none=>exact q2Y
 | some x=>exact h x (List.mem_of_getElem? hi)
theorem qav{items:List (Int × TR)}{t:List Int}(h:∀ x∈t,jm x){k:Nat}{at_:Int}{frm:Nat}:∀ f n,jm (yU items t k at_ frm f n).1
 | 0,_=>q2Y
 | f+1,n=>by
  unfold yU
  split
  ·exact q2Y
  ·split
   ·exact qqb h _
   ·exact qav h f (n+1)
end Go.Fx.Ch
namespace Go.Fx.Tryz
open Go Go.Fx Go.Fx.Ch
open Go.Proofs
set_option linter.all false
set_option maxRecDepth 20000
variable {w0 w:World} {H G:qA} {K:KT} {s:qf} {L:qK} {q:LB}
theorem qK.Ok.exitW(hL:L.Ok w0 q s)(h:St w0 w (L.bl q s++H)){id slot:Int}(he:(yu s id slot).2=0):jm (yu s id slot).1.to/\jm (yu s id slot).1.chain/\(yu s id slot).1∈zw s.items id/\(yu s id slot).1.slot=slot:=by
 obtain⟨v,hv,_⟩:=hL.its.look (w:=w) (h.get (k:=2) rfl) id
 obtain⟨⟨sv,cv,_,_,hB⟩,_,_⟩:=hv
 have hmem:(yu s id slot).1∈zw s.items id/\(yu s id slot).1.slot=slot:=by
  unfold yu at he ⊢
  split at he
  ·cases he
  ·split at he
   ·cases he
   ·rename_i x hx
    exact⟨List.mem_of_find?_eq_some hx,by simpa using List.find?_some hx⟩
 refine⟨?_,?_,hmem⟩
 all_goals
  have hm:=hmem.1
  unfold zw at hm
  cases hx:zQ (qk s.items id).code with
  | none=>rw[hx]at hm;simp at hm
  | some l=>
   rw[hx]at hm
   have:=qA1 hB.byte hx hm
   first | exact this.1 | exact this.2
theorem q8g(a b:Int)(wq:World):(Instr.build 142 [(0,U a),(1,J b)].toArray).run P wq=.ok (vn (a,b)) wq:=kr
theorem q0O(h:St w0 w (L.bl q s++H))(hL:L.Ok w0 q s)(hg:zr H)(ht:∀ x∈s.table,jm x){id slot:Int}
  (hK:∀ (w':World) (L':qK),L'.Ok w0 q (QD s id slot).1->St w0 w' (L'.bl q (QD s id slot).1++H)->K (.tuple [.bool (QD s id slot).2.1,J (QD s id slot).2.2].toArray) w'):q9 P 41 [.pointer (some ⟨q.cb,0,none⟩),U id,J slot] w K:=by
 refine qCk _ _ _ _ _ ?_
 rw[qCN,q1A]
 refine qxe h hL hg fun w4 h4=>⟨_,_,rfl,h4.newC fun n7 w8 hn7 h8=>h8.stA (k:=0) rfl rfl (by simp) (by simp[Xc,Value.oneCell']) fun w9 h9=>?_⟩
 have h9:St w0 w9 ((n7,Cs (Xc (yu s id slot).1) 62)::(L.bl q s++H)):=h9
 have hW:=hL.exitW h (id:=id) (slot:=slot)
 unfold QD at hK
 generalize yu s id slot=xe at *
 obtain⟨x,e⟩:=xe
 simp only at hK h9 hW
 rw[qe]
 refine⟨fun he=>?_,fun he=>?_⟩
 ·have he:e≠0:=by simpa using he
  rw[if_pos he]at hK
  exact hK w9 L hL (h9.tail hn7)
 have he:e=0:=by simpa using he
 rw[if_neg (by simp[he])]at hK
 obtain⟨hto,_,_,_⟩:=hW he
 rw[qoA]
 refine⟨x.to,by rw[qa];exact h9.cell (k:=0) rfl,?_⟩
 have hg2:zr ((n7,Cs (Xc x) 62)::H):=hg.mono fun u hu=>.tail _ hu
 have back:∀ {w2:World} {L2:qK} {s2:qf},St w0 w2 (L2.bl q s2++((n7,Cs (Xc x) 62)::H))->St w0 w2 (L2.bl q s2++H):=fun {w2 L2 s2} h2=>by
  have h3:St w0 w2 ((n7,Cs (Xc x) 62)::(L2.bl q s2++H)):=h2.perm (qo fun c=>by simp only[List.map_append,List.map_cons,List.sum_append,List.sum_cons];omega)
  exact h3.tail hn7
 have h10:St w0 w9 (L.bl q s++((n7,Cs (Xc x) 62)::H)):=h9.perm (qo fun c=>by simp only[List.map_append,List.map_cons,List.sum_append,List.sum_cons];omega)
 refine Zc h10 hL hg2 hto.1 hto.2 fun w16 h16=>⟨_,_,rfl,?_⟩
 have hlW:jm (qW s x.to).1:=qav ht _ _
 generalize (qW s x.to).1=to at *
 have no:(to=0\/QV x=false)->∀ w2,St w0 w2 (L.bl q s++((n7,Cs (Xc x) 62)::H))->q5T true to slot id (some ⟨q.cb,0,none⟩) w2 K:=fun hc w2 h2=>by
  rw[q3g,qd]
  rw[if_pos hc]at hK
  exact hK w2 L hL (back h2)
 rw[qe]
 refine⟨fun hz=>?_,fun hz=>?_⟩
 ·exact no (.inl (by simpa using hz)) w16 h16
 have hz:to≠0:=by simpa using hz
 have h17:St w0 w16 ((n7,Cs (Xc x) 62)::(L.bl q s++H)):=h16.perm (qo fun c=>by simp only[List.map_append,List.map_cons,List.sum_append,List.sum_cons];omega)
 refine h17.ldA (k:=0) rfl (by simp[Xc]) ?_
 refine qeX (e:=x) h16 fun w36 h36=>⟨_,rfl,?_⟩
 cases hch:QV x with
 | false=>exact no (.inr hch) w36 h36
 | true=>
  rw[q3g]
  simp only[Bool.not_true,qb]
  rw[qnf,if_neg (by simp[hz,hch])]at *
  refine⟨_,q8g id slot,?_⟩
  refine q1J h36 hL hg2 hlW.1 hlW.2 fun w30 L1 hL1 h30=>⟨rfl,_,q8g id slot,?_⟩
  refine qx1 h30 hL1 fun w33 L2 hL2 h33=>⟨rfl,?_⟩
  exact hK w33 L2 hL2 (back h33)
theorem qef:qu6 w0:=fun w H N K ov l hl hS hN h hK=>by
 obtain⟨a,c,e⟩:=hS.form
 subst e
 exact qsX h hS hl fun w' N' h1 h2 h3=>hK w' N' h1 (h2 hN) h3
theorem jd{a b:List Int}(h:a.Perm b):yc a=yc b:=by
 have h1:(yc a).Perm (yc b):=(List.mergeSort_perm a _).trans (h.trans (List.mergeSort_perm b _).symm)
 have hp:∀ l:List Int,(yc l).Pairwise fun x y=>decide (x<=y)=true:=fun l=>List.pairwise_mergeSort (fun x y z hx hy=>by simp at *;omega) (fun x y=>by simp;omega) l
 exact h1.eq_of_pairwise (fun x y _ _ hx hy=>by simp at hx hy;omega) (hp a) (hp b)
theorem yz.keys{R:Value->TR->Prop}:∀ {m:List (Int × Value)} {l:List (Int × TR)},yz R m l->m.map (·.1)=l.map (·.1)
 | [],[],_=>rfl
 | _::_,_::_,h=>by simp[h.1,yz.keys h.2.2]
end Go.Fx.Tryz
namespace Go.Fx.Tryz
open Go Go.Fx Go.Fx.Ch
open Go.Proofs
set_option linter.all false
set_option maxRecDepth 20000
variable {w0 w:World} {H X:qA} {K:KT} {s:qf} {L:qK} {q:LB}
theorem q9D(z:Value)(hz:z.cells=#[z])(n:Nat):madeCells z.cells n=(List.replicate n z).toArray:=by
 apply Array.ext
 ·simp[madeCells]
 ·intro i h1 h2
  simp[madeCells,hz,Nat.mod_one]
theorem qJd{sl:Nat}(hs:sl<=65536){Q:Option Addr->Nat->Nat->World->Prop}(h:St w0 w X)
  (hQ:∀ g w',w0.heap.size<=g->St w0 w' ((g,Cs (List.replicate sl (U 0)) 24)::X)->Q (some ⟨g,0,none⟩) sl sl w') :
  ∃ (a:Option Addr) (l c:Nat),∃ w':World,(Instr.makeSlice 22 (.int .i64 (sl:Nat)) (.int .i64 (sl:Nat))).run P w=.ok (.slice a l c) w'/\Q a l c w':=by
 have hr:=run_make (P:=P) w 22 24 Tryz.t24 (U 0) Tryz.underlying22 kr rfl .i64 .i64 sl sl om om (by show((4:Nat):Int)*_<=_;omega) om
 simp only[Int.toNat_natCast]at hr
 rw[show Tryz.t24.size=1 from rfl,Nat.mul_one,q9D _ rfl]at hr
 exact⟨_,_,_,_,hr,hQ _ _ h.le (h.alloc _)⟩
theorem qGl{sec:Nat}(hs:sec<=16){Q:Option Addr->Nat->Nat->World->Prop}(h:St w0 w X)
  (hQ:∀ g w',w0.heap.size<=g->St w0 w' ((g,Cs (List.replicate sec (.slice none 0 0)) 22)::X)->Q (some ⟨g,0,none⟩) sec sec w') :
  ∃ (a:Option Addr) (l c:Nat),∃ w':World,(Instr.makeSlice 106 (.int .i64 (sec:Nat)) (.int .i64 (sec:Nat))).run P w=.ok (.slice a l c) w'/\Q a l c w':=by
 have hr:=run_make (P:=P) w 106 22 Tryz.t22 (.slice none 0 0) Tryz.underlying106 kr rfl .i64 .i64 sec sec om om (by show((24:Nat):Int)*_<=_;omega) om
 simp only[Int.toNat_natCast]at hr
 rw[show Tryz.t22.size=1 from rfl,Nat.mul_one,q9D _ rfl]at hr
 exact⟨_,_,_,_,hr,hQ _ _ h.le (h.alloc _)⟩
abbrev ZV(sec len sl:Int):List Value:=[J sec,J len,J sl]
theorem qGt{n1:Nat}{sec len sl:Int}(h:St w0 w X)(hm:(n1,Cs (ZV sec len sl) 27)∈X):w.cell? (Addr.mk n1 0 none)=some (J sec):=by rw[qu (h.has _ _ hm)];rfl
theorem qHA{n1:Nat}{sec len sl:Int}(h:St w0 w X)(hm:(n1,Cs (ZV sec len sl) 27)∈X):w.cell? ((Addr.mk n1 0 none).add 2)=some (J sl):=by rw[qa,qu (h.has _ _ hm)];rfl
theorem qGy{n1:Nat}{sec len sl:Int}(h:St w0 w X)(hm:(n1,Cs (ZV sec len sl) 27)∈X):Qk 3 (Addr.mk n1 0 none) #[J sec,J len,J sl] w:=fun i hi=>by
 rw[qa,qu (h.has _ _ hm),Nat.zero_add]
 match i,hi with
 | 0,_ | 1,_ | 2,_=>rfl
theorem qq4(sec len sl:Int)(ib hb rb tb n m:Nat)(wq:World):(Instr.build 109 [(0,(Value.agg #[J sec,J len,J sl])),(1,(Value.map (some ib))),(2,(Value.slice (some (Addr.mk rb 0 none)) n n)),(3,(Value.slice (some (Addr.mk tb 0 none)) m m)),(4,(Value.map (some hb)))].toArray).run P wq =
  .ok (.agg #[J sec,J len,J sl,.map (some ib),.slice (some ⟨rb,0,none⟩) n n,.slice (some ⟨tb,0,none⟩) m m,.map (some hb),J 0,U 0,J 0,J 0]) wq:=kr
theorem je.empty:∀ n:Nat,je (List.replicate n []) (List.replicate n (.slice none 0 0,[]))
 | 0=>trivial
 | n+1=>⟨zn.nil 1 24,je.empty n⟩
theorem ZU{α:Type}:∀ n:Nat,((List.replicate n ((Value.slice none 0 0),([]:List α))).map (·.2)).flatten=[]
 | 0=>rfl
 | n+1=>by rw[List.replicate_succ,List.map_cons,List.flatten_cons,ZU n];rfl
theorem VL{sec k:Nat}{len:Int}(h0:1<=sec)(h16:sec<=16)(hk4:4<=k)(hk16:k<=16)
  (hK:∀ (w':World) (q:LB) (L:qK),L.Ok w0 q (vl sec len k)->St w0 w' (L.bl q (vl sec len k)++H)->K (.pointer (some ⟨q.cb,0,none⟩)) w')
  {n1 ib hb rb tb:Nat} (h1:w0.heap.size<=n1) (h2:w0.heap.size<=ib) (h3:w0.heap.size<=hb) (h4:w0.heap.size<=rb) (h5:w0.heap.size<=tb) (h:St w0 w X)
  (hp:X.Perm ((n1,Cs (ZV sec len (2 ^ k:Nat)) 27)::(tb,Cs (List.replicate (2 ^ k) (U 0)) 24)::(ib,.map #[] 0)::(hb,.map #[] 0)::(rb,Cs (List.replicate sec (.slice none 0 0)) 22)::H)) :
  ∃ cs14:Array Value,(∀ wq,(Instr.build 109 [(0,(Value.agg #[J sec,J len,J (2 ^ k:Nat)])),(1,(Value.map (some ib))),(2,(Value.slice (some (Addr.mk rb 0 none)) sec sec)),(3,(Value.slice (some (Addr.mk tb 0 none)) (2 ^ k) (2 ^ k))),(4,(Value.map (some hb)))].toArray).run P wq=.ok (Value.agg cs14) wq)/\qs cs14 109 w (fun n15 w16=>zq (Addr.mk n15 0 none) w16 K):=by
 refine⟨_,fun wq=>qq4 sec len (2 ^ k:Nat) ib hb rb tb sec (2 ^ k) wq,?_⟩
 have h':=(h.perm hp).tail h1
 refine h'.newC fun n15 w16 hn15 h16'=>?_
 rw[qnG]
 refine hK w16 ⟨n15,ib,hb,rb,tb⟩ ⟨#[],0,#[],0,[],List.replicate sec (.slice none 0 0,[]),[]⟩ ⟨hn15,h2,h3,h4,h5,?_,⟨[],MapIs.empty,trivial⟩,MapIs.empty,rfl,by simp,je.empty sec,hk4,hk16,?_,?_,?_⟩ ?_
 ·unfold qK.rest;rw[ZU];simp[qD]
 ·simp[vl]
 ·simp[vl];omega
 ·simp[vl];omega
 ·have e:CCs (vl sec len k) ib hb rb tb=[J sec,J len,J (2 ^ k:Nat),.map (some ib),.slice (some ⟨rb,0,none⟩) sec sec,.slice (some ⟨tb,0,none⟩) (2 ^ k) (2 ^ k),.map (some hb),J 0,U 0,J 0,J 0]:=by simp[CCs,vl]
  have e2:((vl sec len k).table.map U)=List.replicate (2 ^ k) (U 0):=by simp[vl]
  unfold qK.bl qK.b4 qK.rest
  dsimp only
  rw[ZU,e,e2,List.map_replicate]
  have h17:St w0 w16 ((n15,Cs [J sec,J len,J (2 ^ k:Nat),.map (some ib),.slice (some ⟨rb,0,none⟩) sec sec,.slice (some ⟨tb,0,none⟩) (2 ^ k) (2 ^ k),.map (some hb),J 0,U 0,J 0,J 0] 109)::(tb,Cs (List.replicate (2 ^ k) (U 0)) 24)::(ib,.map #[] 0)::(hb,.map #[] 0)::(rb,Cs (List.replicate sec (.slice none 0 0)) 22)::H):=h16'
  exact h17.perm (qo fun c=>by simp only[List.map_nil,List.append_nil,List.nil_append,List.map_cons,List.cons_append,List.sum_cons];omega)
theorem qtS{sec k:Nat}{len:Int}(h:St w0 w H)(h0:1<=sec)(h16:sec<=16)(hk4:4<=k)(hk16:k<=16)
  (hK:∀ (w':World) (q:LB) (L:qK),L.Ok w0 q (vl sec len k)->St w0 w' (L.bl q (vl sec len k)++H)->K (.pointer (some ⟨q.cb,0,none⟩)) w'):q9 P 52 [.agg #[J sec,J len,J (2 ^ k:Nat)]] w K:=by
 refine qE9 _ _ _ ?_
 rw[qFu]
 refine h.newC fun n1 w2 hn1 h2=>?_
 have h2:St w0 w2 ((n1,Cs (ZV sec len (2 ^ k:Nat)) 27)::H):=h2
 have h3:=h2.drew
 refine h3.ldA (k:=0) rfl (by simp) ⟨_,h3.cell (k:=0) rfl,_,by rw[qa];exact h3.cell (k:=0) rfl,?_⟩
 have fin:=@VL w0
 have hsl:2 ^ k<=65536:=(yh hk4 hk16).2
 repeat' first
  | exact St.newO (by assumption) fun n w hn h=>by
    refine VL h0 h16 hk4 hk16 hK (n1:=n1) ?_ ?_ ?_ ?_ ?_ h (qo fun c=>by simp only[List.map_cons,List.sum_cons];omega)<;>assumption
  | exact VL h0 h16 hk4 hk16 hK (n1:=n1) (by assumption) (by assumption) (by assumption) (by assumption) (by assumption) (by assumption) (qo fun c=>by simp only[List.map_cons,List.sum_cons];omega)
  | refine St.newO (by assumption) fun n w hn h=>?_
  | refine qJd hsl (by assumption) fun g w hg h=>?_
  | refine qGl h16 (by assumption) fun g w hg h=>?_
  | refine⟨qGt (sec:=sec) (len:=len) (sl:=(2 ^ k:Nat)) (by assumption) (by simp),?_⟩
  | refine⟨qHA (sec:=sec) (len:=len) (sl:=(2 ^ k:Nat)) (by assumption) (by simp),?_⟩
  | refine⟨qGy (sec:=sec) (len:=len) (sl:=(2 ^ k:Nat)) (by assumption) (by simp),?_⟩
  | refine⟨?_,?_⟩
theorem qcg{sec len slots:Int}(h:St w0 w H)
  (hF:zX sec len slots=false->∀ w',St w0 w' H->K (.tuple [.pointer none,J 1].toArray) w')
  (hK:∀ (n k:Nat),sec=n->slots=(2 ^ k:Nat)->1<=n->n<=16->4<=k->k<=16->256<=len->len<=1048576->zX sec len slots=true->∀ (w':World) (q:LB) (L:qK),L.Ok w0 q (vl n len k)->St w0 w' (L.bl q (vl n len k)++H)->K (.tuple [.pointer (some ⟨q.cb,0,none⟩),J 0].toArray) w'):q9 P 16 [.agg #[J sec,J len,J slots]] w K:=by
 refine qFg _ _ _ ?_
 rw[qEp]
 refine h.newC fun n1 w2 hn1 h2=>?_
 have h2:St w0 w2 ((n1,Cs (ZV sec len slots) 27)::H):=h2
 refine h2.ldA (k:=0) rfl (by simp) ?_
 refine qow h2 fun w5 h5=>⟨_,rfl,?_⟩
 cases hc:zX sec len slots with
 | false=>
  simp only[Bool.not_false,qd]
  exact hF hc w5 (h5.tail hn1)
 | true=>
  simp only[Bool.not_true,qb]
  rw[qnB]
  refine h5.ldA (k:=0) rfl (by simp) ?_
  have hc2:=hc
  unfold zX at hc2
  simp only[Bool.and_eq_true,decide_eq_true_eq]at hc2
  obtain⟨n,rfl⟩:=Int.eq_ofNat_of_zero_le (show(0:Int)<=sec by omega)
  obtain⟨k,hk,hsl⟩:∃ k,k∈[4,5,6,7,8,9,10,11,12,13,14,15,16]/\slots=2 ^ k:=by
   have:=hc2.2
   simpa using this
  have hk2:4<=k/\k<=16:=by
   simp only[List.mem_cons,List.not_mem_nil,or_false]at hk
   omega
  have hsl2:slots=(2 ^ k:Nat):=by rw[hsl,Int.natCast_pow];rfl
  subst hsl2
  refine qtS h5 om om hk2.1 hk2.2 fun w10 q L hL h10=>⟨_,rfl,?_⟩
  have h11:St w0 w10 ((n1,Cs (ZV (n:Int) len (2 ^ k:Nat)) 27)::(L.bl q (vl n len k)++H)):=h10.perm (qo fun c=>by simp only[List.map_append,List.map_cons,List.sum_append,List.sum_cons];omega)
  exact hK n k rfl rfl om om hk2.1 hk2.2 om om hc w10 q L hL (h11.tail hn1)
end Go.Fx.Tryz
namespace Go.Fx.Ch
structure Fit (s:qf):Prop where
 rows:∀ r∈s.rows,r.length<1000000
 ev0:0<=s.ev
 ev1:s.ev<1099511627776
 items:s.items.length<1000000
 table:∀ x∈s.table,jm x
def EvR(n:Nat):Nat->Nat->qf->Prop
 | 0,g,s=>Fit s/\g<1000000/\y7 s n=false
 | m+1,g,s=>Fit s/\g<1000000/\(y7 s n=true->∀ s2,zm (qF s) (yf (qF s)) s2->EvR n m (g+(yf (qF s)).length) { s2 with ev:=s2.ev+(yf (qF s)).length })
theorem EvR.fit{n m g:Nat}{s:qf}(h:EvR n m g s):Fit s/\g<1000000:=by
 cases m with
 | zero=>exact⟨h.1,h.2.1⟩
 | succ m=>exact⟨h.1,h.2.1⟩
theorem zm.conf{s s':qf}{l:List Int}(h:zm s l s'):s'.len=s.len/\s'.k=s.k/\s'.cur=s.cur/\s'.given=s.given/\s'.ev=s.ev/\s'.dr=s.dr/\s'.rows.length=s.rows.length:=by
 induction h with
 | nil=>exact⟨rfl,rfl,rfl,rfl,rfl,rfl,rfl⟩
 | @cons s s' id l order ho _ ih=>
  have hf:∀ (l:List (Int × Int)) (s:qf),(qN id l s).len=s.len/\(qN id l s).k=s.k/\(qN id l s).cur=s.cur/\(qN id l s).given=s.given/\(qN id l s).ev=s.ev/\(qN id l s).dr=s.dr/\(qN id l s).rows=s.rows:=by
   intro l
   induction l with
   | nil=>exact fun s=>⟨rfl,rfl,rfl,rfl,rfl,rfl,rfl⟩
   | cons p l ih=>exact fun s=>ih _
  have hd:∀ (l:List EX) (s:qf),(qJ id l s).len=s.len/\(qJ id l s).k=s.k/\(qJ id l s).cur=s.cur/\(qJ id l s).given=s.given/\(qJ id l s).ev=s.ev/\(qJ id l s).dr=s.dr/\(qJ id l s).rows=s.rows:=by
   intro l
   induction l with
   | nil=>exact fun s=>⟨rfl,rfl,rfl,rfl,rfl,rfl,rfl⟩
   | cons p l ih=>
    intro s
    unfold qJ
    split
    ·exact ih _
    ·exact ih _
  obtain⟨a1,a2,a3,a4,a5,a6,a7⟩:=hf order s
  obtain⟨b1,b2,b3,b4,b5,b6,b7⟩:=hd (zw (qN id order s).items id) (qN id order s)
  obtain⟨c1,c2,c3,c4,c5,c6,c7⟩:=ih
  refine⟨c1.trans (b1.trans a1),c2.trans (b2.trans a2),c3.trans (b3.trans a3),c4.trans (b4.trans a4),c5.trans (b5.trans a5),c6.trans (b6.trans a6),?_⟩
  rw[c7]
  show(List.map _ (qJ id _ _).rows).length=_
  rw[List.length_map,b7,a7]
end Go.Fx.Ch
namespace Go.Fx.Tryz
open Go Go.Fx Go.Fx.Ch
open Go.Proofs
set_option linter.all false
set_option maxRecDepth 20000
variable {w0 w:World} {H X:qA} {K:KT} {s:qf} {L:qK} {q:LB}
theorem qK.Ok.setCur(hL:L.Ok w0 q s){c:Nat}(hc:c<s.rows.length):L.Ok w0 q { s with cur:=c }:=
 ⟨hL.nc,hL.ni,hL.nh,hL.nr,hL.nt,hL.new,hL.its,hL.hm,hL.hs,hL.inn,hL.rows,hL.k4,hL.k16,hL.tl,hL.rl,hc⟩
theorem qK.Ok.setEv(hL:L.Ok w0 q s)(e:Int):L.Ok w0 q { s with ev:=e }:=
 ⟨hL.nc,hL.ni,hL.nh,hL.nr,hL.nt,hL.new,hL.its,hL.hm,hL.hs,hL.inn,hL.rows,hL.k4,hL.k16,hL.tl,hL.rl,hL.cur⟩
theorem qK.Ok.setDr(hL:L.Ok w0 q s)(e:Int):L.Ok w0 q { s with dr:=e }:=
 ⟨hL.nc,hL.ni,hL.nh,hL.nr,hL.nt,hL.new,hL.its,hL.hm,hL.hs,hL.inn,hL.rows,hL.k4,hL.k16,hL.tl,hL.rl,hL.cur⟩
theorem qzb(h:St w0 w (L.bl q s++H))(hL:L.Ok w0 q s)(hK:K (J (zJ s:Nat)) w):q9 P 59 [.pointer (some ⟨q.cb,0,none⟩)] w K:=by
 have hp:=yh hL.k4 hL.k16
 refine qq1 (slots:=((2 ^ s.k:Nat):Int)) (by rw[qa];exact h.cell (k:=1) rfl) om om ?_
 have e:((2 ^ s.k:Nat):Int) / 4*3=((zJ s:Nat):Int):=by unfold zJ;omega
 rw[e];exact hK
theorem qny{n4:Nat}{t:List Value}{x1 x2:Int}{ga:Option Addr}{gc:Nat}{gone:List Int}{N:qA}{Y:YT}
  (hg:zr H) (hn4:w0.heap.size<=n4) (hL:L.Ok w0 q (qF s)) (hrow:∀ r∈s.rows,r.length<1000000) (hev0:0<=s.ev) (hev1:s.ev<1099511627776) (hgl:gone.length<1000000)
  (hS:zn 1 24 (.slice ga gone.length gc) gone.length (gone.map U) N) (hN:qD w0 N)
  (h:St w0 w (L.bl q (qF s)++(N++((n4,Cs t 41)::H))))
  (hY:∀ (w':World) (L':qK) (s2:qf) (ga':Option Addr) (gc':Nat) (N':qA),zm (qF s) (yf (qF s)) s2->L'.Ok w0 q { s2 with ev:=s2.ev+(yf (qF s)).length }->
   zn 1 24 (.slice ga' (gone++yf (qF s)).length gc') (gone++yf (qF s)).length ((gone++yf (qF s)).map U) N'->qD w0 N'->
   St w0 w' (L'.bl q { s2 with ev:=s2.ev+(yf (qF s)).length }++(N'++((n4,Cs t 41)::H)))->
   Y (qh.mk 173 [(5,.slice ga' (gone++yf (qF s)).length gc'),(0,.pointer (some ⟨q.cb,0,none⟩)),(4,U x1),(6,J x2),(3,.pointer (some (Addr.mk n4 0 none)))] []) w') :
  q4Q (some ⟨q.cb,0,none⟩) x1 x2 (Addr.mk n4 0 none) ga gone.length gc w K Y:=by
 rw[qh6]
 have hc:(qF s).cur<(qF s).rows.length:=hL.cur
 obtain⟨sa,sc,hrv,hrw⟩:=qtj (H:=N++((n4,Cs t 41)::H)) hL hc
 have hg2:zr (N++((n4,Cs t 41)::H)):=hg.mono fun u hu=>List.mem_append_right _ (.tail _ hu)
 refine⟨some ⟨q.rb,0,none⟩,(qF s).rows.length,(qF s).rows.length,by rw[qa];exact h.cell (k:=1) rfl,(qF s).cur,by rw[qa];exact h.cell (k:=1) rfl,by omega,by omega,sa,(qF s).rows[(qF s).cur].length,sc,?_,?_⟩
 ·rw[qa,Int.toNat_natCast,Nat.mul_one,Nat.zero_add]
  rw[h.drew.cell (k:=4) rfl];exact hrv
 have hrs:yf (qF s)=yc (qF s).rows[(qF s).cur]:=by unfold yf;rw[List.getElem?_eq_getElem hc];rfl
 have hlr:(qF s).rows[(qF s).cur].length<1000000:=hrow _ (List.getElem_mem hc)
 have hlr2:(yf (qF s)).length<1000000:=by rw[hrs,Qr];exact hlr
 refine q3x qef h.drew hL hg2 hrw hlr fun w127 L' s2 ov' M hF hL' hSl hMN h127=>?_
 rw[<-hrs]at hF hSl
 obtain⟨la,lc,e⟩:=hSl.form
 subst e
 refine⟨_,_,_,rfl,?_⟩
 rw[qbr]
 have h128:St w0 w127 (L'.bl q s2++(M++(N++((n4,Cs t 41)::H)))):=h127.perm (qo fun c=>by simp only[List.map_append,List.map_cons,List.sum_append,List.sum_cons];omega)
 have hconf:=hF.conf
 have he2:s2.ev=s.ev:=hconf.2.2.2.2.1
 refine⟨s2.ev,by rw[qa];exact h128.cell (k:=1) rfl,?_⟩
 show zF ((Addr.mk q.cb 0 none).add 9) _ _ _
 rw[qa,qc om om]
 refine h128.st1 (k:=1) rfl (by simp[CCs]) rfl fun w138 h138=>?_
 have hL2:=hL'.setEv (s2.ev+(yf (qF s)).length)
 have h139:St w0 w138 (L'.bl q { s2 with ev:=s2.ev+(yf (qF s)).length }++(M++(N++((n4,Cs t 41)::H)))):=h138
 have h140:St w0 w138 ([]++(N++(M++(L'.bl q { s2 with ev:=s2.ev+(yf (qF s)).length }++((n4,Cs t 41)::H))))):=h139.perm (qo fun c=>by simp only[List.nil_append,List.map_append,List.map_cons,List.sum_append,List.sum_cons];omega)
 obtain⟨v',w',N',hr,hS2,h141,hN2⟩:=St.appendN (P:=P) 22 22 24 Tryz.t24 (U 0) 1 4 Tryz.underlying22 kr rfl rfl rfl rfl om h140 hS hN hSl (fun u hu=>h140.has _ _ (List.mem_append_right [] (List.mem_append_right N (List.mem_append_left _ hu)))) (qBW _) (by simp[maxLen];omega) om
 have hle:(gone++yf (qF s)).length=gone.length+(yf (qF s)).length:=List.length_append
 rw[<-hle,<-List.map_append]at hS2
 obtain⟨a',c',e⟩:=hS2.form
 subst e
 refine⟨_,_,_,w',hr,?_⟩
 have h142:St w0 w' (M++(L'.bl q { s2 with ev:=s2.ev+(yf (qF s)).length }++(N'++((n4,Cs t 41)::H)))):=h141.perm (qo fun c=>by simp only[List.nil_append,List.map_append,List.map_cons,List.sum_append,List.sum_cons];omega)
 exact hY w' L' s2 a' c' N' hF hL2 hS2 hN2 (h142.sub hMN)
end Go.Fx.Tryz
namespace Go.Fx.Ch
open Go.Fx.Tryz
def putErr(s:qf)(t:TR):Int:=match zQ t.code with
 | none=>170
 | some l=>if zE t.sp=false\/(l.any fun e=>e.chain != 0)=true then 1 else if(qW s t.at_).1≠0 then 5 else if(t.code.length:Int) > s.len\/s.given=2147483647 then 2 else 0
theorem yH.conf{n:Nat}{s s':qf}{g:List Int}(h:yH n s g s'):s'.len=s.len/\s'.k=s.k/\s'.given=s.given/\s'.dr=s.dr/\s'.rows.length=s.rows.length:=by
 induction h with
 | done=>exact⟨rfl,rfl,rfl,rfl,rfl⟩
 | step _ hF _ ih=>
  obtain⟨a1,a2,a3,a4,a5⟩:=ih
  obtain⟨b1,b2,b3,b4,b5,b6,b7⟩:=hF.conf
  exact⟨a1.trans b1,a2.trans b2,a3.trans b4,a4.trans b6,a5.trans b7⟩
end Go.Fx.Ch
namespace Go.Fx.Tryz
open Go Go.Fx Go.Fx.Ch
open Go.Proofs
set_option linter.all false
set_option maxRecDepth 20000
variable {w0 w:World} {H X:qA} {K:KT} {s:qf} {L:qK} {q:LB}
theorem qK.Ok.setGiven(hL:L.Ok w0 q s)(e:Int):L.Ok w0 q { s with given:=e }:=
 ⟨hL.nc,hL.ni,hL.nh,hL.nr,hL.nt,hL.new,hL.its,hL.hm,hL.hs,hL.inn,hL.rows,hL.k4,hL.k16,hL.tl,hL.rl,hL.cur⟩
theorem qwb{ga:Option Addr}{gn gc:Nat}(hg:zr H)(hL:L.Ok w0 q s)(h:St w0 w (L.bl q s++H))
  (hK:∀ (w':World) (L':qK),L'.Ok w0 q { s with table:=yF s s.given }->St w0 w' (L'.bl q { s with table:=yF s s.given }++H)->K (.tuple [U s.given,.slice ga gn gc,J 0].toArray) w') :
  JQ ga gn gc (some ⟨q.cb,0,none⟩) w K:=by
 rw[qhj]
 refine⟨s.given,by rw[qa];exact h.cell (k:=1) rfl,?_⟩
 have h1:St w0 w ((q.tb,Cs (s.table.map U) 24)::(L.b4 q s++H)):=h
 refine qnW (G:=L.G) h1 (hL.knownC hg) (fun u hu=>List.mem_append_left _ (.tail _ (.tail _ (.tail _ (.tail _ (List.mem_append_right _ (List.mem_append_right _ hu))))))) fun w' h'=>⟨rfl,?_⟩
 have h2:St w0 w' (L.bl q { s with table:=yF s s.given }++H):=h'
 refine⟨s.given,by rw[qa];exact h2.cell (k:=1) rfl,?_⟩
 have hlen:(yF s s.given).length=2 ^ s.k:=by unfold yF;rw[V8];exact hL.tl
 exact hK w' L ⟨hL.nc,hL.ni,hL.nh,hL.nr,hL.nt,hL.new,hL.its,hL.hm,hL.hs,hL.inn,hL.rows,hL.k4,hL.k16,hlen,hL.rl,hL.cur⟩ h2
theorem qyj{ga:Option Addr}{gn gc:Nat}(hg:zr H)(hL:L.Ok w0 q s)(hr:(s.rows[s.cur]'hL.cur).length<1000000)(h:St w0 w (L.bl q s++H))
  (hK:∀ (w':World) (L':qK),L'.Ok w0 q { s with rows:=s.rows.modify s.cur fun r=>r++[s.given] }->St w0 w' (L'.bl q { s with rows:=s.rows.modify s.cur fun r=>r++[s.given] }++H)->JQ ga gn gc (some ⟨q.cb,0,none⟩) w' K) :
  q4D ga gn gc (some ⟨q.cb,0,none⟩) w K:=by
 rw[qfM]
 have hc:=hL.cur
 obtain⟨a,v,b,e0,hal,hv,hset⟩:=hL.rows.split (List.getElem?_eq_getElem hc)
 generalize hrr:s.rows[s.cur]=r at *
 obtain⟨sa,sc,hsv⟩:=hv.form
 have hrv:(L.rv.map (·.1))[s.cur]?=some (.slice sa r.length sc):=by
  rw[e0,List.map_append,List.getElem?_append_right (by simp;omega)]
  simp[hal,hsv]
 have h1:=h.drew
 have cR:∀ {w2:World} {Z:qA},St w0 w2 (L.bl q s++Z)->w2.cell? ((Addr.mk q.rb 0 none).add (Int.toNat (s.cur:Int)*1))=some (.slice sa r.length sc):=fun {w2 Z} h2=>by
  rw[qa,Int.toNat_natCast,Nat.mul_one,Nat.zero_add,h2.cell (k:=4) rfl];exact hrv
 refine⟨some ⟨q.rb,0,none⟩,s.rows.length,s.rows.length,by rw[qa];exact h1.cell (k:=1) rfl,s.cur,by rw[qa];exact h1.cell (k:=1) rfl,some ⟨q.rb,0,none⟩,s.rows.length,s.rows.length,by rw[qa];exact h1.cell (k:=1) rfl,s.cur,by rw[qa];exact h1.cell (k:=1) rfl,by omega,by omega,sa,r.length,sc,cR h1,s.given,by rw[qa];exact h1.cell (k:=1) rfl,⟨rfl,trivial⟩,?_⟩
 refine h1.newC fun n176 w174 hn176 h174=>?_
 have h174:St w0 w174 ((n176,Cs [U s.given] 24)::(L.bl q s++H)):=h174
 have h175:St w0 w174 (L.bl q s++((n176,Cs [U s.given] 24)::H)):=h174.perm (qo fun c=>by simp only[List.map_append,List.map_cons,List.sum_append,List.sum_cons];omega)
 refine⟨cR h175,by rw[qa];exact h175.cell (k:=1) rfl,by rw[qa];exact h175.cell (k:=1) rfl,by rw[qa];exact h175.cell (k:=1) rfl,by rw[qa];exact h175.cell (k:=1) rfl,?_⟩
 have hnew:qD w0 (L.rv.map (·.2)).flatten:=qD.left hL.new
 rw[e0]at hnew
 simp only[List.map_append,List.map_cons,List.flatten_append,List.flatten_cons]at hnew
 have h176:St w0 w174 ([(n176,Cs [U s.given] 24)]++(v.2++(({ L with rv:=a++(v.1,[])::b }:qK).bl q s++H))):=by
  have:=h174.perm (qK.takeR (A:=[(n176,Cs [U s.given] 24)]) e0)
  exact this.perm (qo fun c=>by simp only[List.nil_append,List.map_append,List.map_cons,List.map_nil,List.sum_append,List.sum_cons,List.sum_nil];omega)
 obtain⟨g,cap,w178,X,hrun,hX,h178,hXN⟩:=St.append (P:=P) 22 22 24 Tryz.t24 (U 0) 1 4 Tryz.underlying22 kr rfl rfl rfl rfl om (A:=[(n176,Cs [U s.given] 24)]) (news:=[U s.given]) h176 hv (qD.left (qD.right hnew)) (j:=0) rfl rfl (fun u hu=>by rw[List.mem_singleton.1 hu];rfl) (by simp[maxLen];omega) om
 rw[hsv]at hrun
 have h179:St w0 w178 (({ L with rv:=a++(v.1,[])::b }:qK).bl q s++(X++((n176,Cs [U s.given] 24)::H))):=h178.perm (qo fun c=>by simp only[List.nil_append,List.map_append,List.map_cons,List.map_nil,List.sum_append,List.sum_cons,List.sum_nil];omega)
 refine⟨_,_,_,w178,hrun,by rw[qa];exact h179.cell (k:=1) rfl,by rw[qa];exact h179.cell (k:=1) rfl,by omega,by omega,?_⟩
 show zF ((Addr.mk q.rb 0 none).add _) _ _ _
 rw[qa,Int.toNat_natCast,Nat.mul_one,Nat.zero_add]
 refine h179.st1 (k:=4) rfl (by simp;omega) rfl fun w180 h180=>?_
 have hse:((a++(v.1,([]:qA))::b).map (·.1)).set s.cur (.slice (some ⟨g,0,none⟩) (r.length+1) cap)=(a++(.slice (some ⟨g,0,none⟩) (r.length+1) cap,([]:qA))::b).map (·.1):=by
  rw[List.map_append,List.set_append_right _ _ (by simp;omega)]
  simp[hal]
 have h258:St w0 w180 (({ L with rv:=a++(.slice (some ⟨g,0,none⟩) (r.length+1) cap,[])::b }:qK).bl q s++(X++((n176,Cs [U s.given] 24)::H))):=by
  have h257:St w0 w180 (((q.tb,Cs (s.table.map U) 24)::(q.cb,Cs (CCs s q.ib q.hb q.rb q.tb) 109)::(q.ib,.map L.ies L.iclk)::(q.hb,.map L.hes L.hclk)::(q.rb,Cs (((a++(v.1,([]:qA))::b).map (·.1)).set s.cur (.slice (some ⟨g,0,none⟩) (r.length+1) cap)) 22)::({ L with rv:=a++(v.1,[])::b }:qK).rest)++(X++((n176,Cs [U s.given] 24)::H))):=h180
  rw[hse]at h257
  refine h257.perm (qo fun c=>?_)
  simp only[qK.bl,qK.b4,qK.rest,List.cons_append,List.nil_append,List.map_append,List.map_cons,List.flatten_append,List.flatten_cons,List.sum_append,List.sum_cons]
 have h259:St w0 w180 (X++([(n176,Cs [U s.given] 24)]++(({ L with rv:=a++(.slice (some ⟨g,0,none⟩) (r.length+1) cap,[])::b }:qK).bl q s++H))):=h258.perm (qo fun c=>by simp only[List.nil_append,List.map_append,List.map_cons,List.map_nil,List.sum_append,List.sum_cons,List.sum_nil];omega)
 have h260:=(h259.perm qK.giveR).tail hn176
 have hrows:=hset (r++[s.given]) (.slice (some ⟨g,0,none⟩) (r.length+1) cap,X) (by simpa using hX)
 have hmod:s.rows.set s.cur (r++[s.given])=s.rows.modify s.cur fun r=>r++[s.given]:=by
  apply List.ext_getElem?
  intro j
  rw[List.getElem?_set,List.getElem?_modify]
  by_cases hj:s.cur=j
  ·subst hj
   rw[if_pos rfl,if_pos hc,List.getElem?_eq_getElem hc,hrr]
   simp
  ·rw[if_neg hj]
   simp[hj]
 rw[hmod]at hrows
 have hml:(s.rows.modify s.cur fun r=>r++[s.given]).length=s.rows.length:=List.length_modify ..
 have hok:=hL.setR hrows hml (by
  simp only[List.map_append,List.map_cons,List.flatten_append,List.flatten_cons]
  exact qD.append (qD.left hnew) (qD.append hXN (qD.right (qD.right hnew))))
 refine hK w180 _ hok ?_
 rw[qK.bl_rows hml]
 exact h260
theorem qzk{n4:Nat}{t:TR}{sv cv:Value}{ga:Option Addr}{gc:Nat}{gone:List Int}{N:qA}(hg:zr H)(hn4:w0.heap.size<=n4)(hS:Q6 w0 H sv t.sp)(hB:y9 w0 H cv t.code)(ha0:0<=t.at_)(ha1:t.at_<4294967296)
  (hL:L.Ok w0 q s) (hfit:Fit s) (hgl:gone.length<1000000) (hgv0:0<=s.given) (hgv1:s.given<2147483647) (hSl:zn 1 24 (.slice ga gone.length gc) gone.length (gone.map U) N) (hN:qD w0 N)
  (h:St w0 w (L.bl q s++(N++((n4,Cs (zL t.at_ sv cv) 41)::H))))
  (hK:∀ (w':World) (L':qK) (N':qA),L'.Ok w0 q (zS s t)->zn 1 24 (.slice ga gone.length gc) gone.length ((yc gone).map U) N'->qD w0 N'->St w0 w' (N'++(L'.bl q (zS s t)++H))->K (.tuple [U (s.given+1),.slice ga gone.length gc,J 0].toArray) w') :
  JE ga gone.length gc (some ⟨q.cb,0,none⟩) (Addr.mk n4 0 none) w K:=by
 rw[qeR]
 have h1:St w0 w (N++(L.bl q s++((n4,Cs (zL t.at_ sv cv) 41)::H))):=h.perm (qo fun c=>by simp only[List.map_append,List.map_cons,List.sum_append,List.sum_cons];omega)
 refine qef _ _ _ _ _ gone hgl hSl hN h1 fun w145 N' hS' hN' h145=>⟨rfl,?_⟩
 have h146:St w0 w145 (L.bl q s++(N'++((n4,Cs (zL t.at_ sv cv) 41)::H))):=h145.perm (qo fun c=>by simp only[List.map_append,List.map_cons,List.sum_append,List.sum_cons];omega)
 refine⟨s.given,by rw[qa];exact h146.cell (k:=1) rfl,?_⟩
 show zF ((Addr.mk q.cb 0 none).add 8) _ _ _
 rw[qa,jo om om]
 refine h146.st1 (k:=1) rfl (by simp[CCs]) rfl fun w149 h149=>?_
 have hL1:=hL.setGiven (s.given+1)
 have h150:St w0 w149 (L.bl q { s with given:=s.given+1 }++(N'++((n4,Cs (zL t.at_ sv cv) 41)::H))):=h149
 have h151:=h150.drew
 have hm4:(n4,Cs (zL t.at_ sv cv) 41)∈(L.bl q { s with given:=s.given+1 }++(N'++((n4,Cs (zL t.at_ sv cv) 41)::H))):=List.mem_append_right _ (List.mem_append_right _ (.head _))
 refine⟨some q.ib,by rw[qa];exact h151.cell (k:=1) rfl,s.given+1,by rw[qa];exact h151.cell (k:=1) rfl,q11 (h151.has _ _ hm4) (by simp[zL]) ?_⟩
 have hsub:∀ {w2:World},St w0 w2 (L.bl q { s with given:=s.given+1 }++(N'++((n4,Cs (zL t.at_ sv cv) 41)::H)))->St w0 w2 H:=fun h2=>(((h2.sub hL1.newB).sub hN').tail hn4)
 refine q3Q (l:=t.sp) (bs:=t.code) h151 ⟨fun w' h'=>hS.row w' (hsub h'),hS.len⟩ ⟨fun w' h'=>hB.row w' (hsub h'),hB.byte,hB.len,hB.cap⟩ fun w156 sv' cv' A M hSA hAN hSM hMN h156=>⟨_,rfl,?_⟩
 have h157:=qK.addG (N:=M) (A:=A) (L:=L) (q:=q) (s:={ s with given:=s.given+1 }) h156
 have h158:=qK.addG (N:=A) (A:=[]) (L:={ L with G:=M++L.G }) (q:=q) (s:={ s with given:=s.given+1 }) h157
 have hL2:=(hL1.addG hMN).addG hAN
 have h159:St w0 w156 (({ L with G:=A++(M++L.G) }:qK).bl q { s with given:=s.given+1 }++(N'++((n4,Cs (zL t.at_ sv cv) 41)::H))):=h158
 have hv:Ju (A++(M++L.G)) (.agg (zL t.at_ sv' cv').toArray) t:=⟨⟨_,_,rfl,(jR.of hSA hS.len).mono fun u hu=>List.mem_append_left _ hu,(vg.of hSM hB.byte hB.len).mono fun u hu=>List.mem_append_right _ (List.mem_append_left _ hu)⟩,ha0,ha1⟩
 obtain⟨es',clk',hr,hit⟩:=hL2.its.update hv (h159.get (k:=2) rfl) (s.given+1)
 refine⟨by rw[qa];exact h159.cell (k:=1) rfl,by rw[qa];exact h159.cell (k:=1) rfl,_,hr,?_⟩
 have h160:=h159.put (k:=2) rfl (.map es' clk')
 have hL3:=hL2.items hit
 have hg2:zr (N'++((n4,Cs (zL t.at_ sv cv) 41)::H)):=hg.mono fun u hu=>List.mem_append_right _ (.tail _ hu)
 refine qyj (s:={ s with given:=s.given+1,items:=pt s.items (s.given+1) t }) hg2 hL3 (hfit.rows _ (List.getElem_mem _)) h160 fun w180 L4 hL4 h180=>?_
 refine qwb hg2 hL4 h180 fun w186 L5 hL5 h186=>?_
 have h187:St w0 w186 ((n4,Cs (zL t.at_ sv cv) 41)::(N'++(L5.bl q (zS s t)++H))):=St.perm (H:=L5.bl q (zS s t)++(N'++((n4,Cs (zL t.at_ sv cv) 41)::H))) h186 (qo fun c=>by simp only[List.map_append,List.map_cons,List.sum_append,List.sum_cons];omega)
 exact hK w186 L5 N' hL5 hS' hN' (h187.tail hn4)
theorem qG6{n4:Nat}{t:TR}{sv cv:Value}(hg:zr H)(hn4:w0.heap.size<=n4)(hS:Q6 w0 H sv t.sp)(hB:y9 w0 H cv t.code)(ha0:0<=t.at_)(ha1:t.at_<4294967296)
  (hL:L.Ok w0 q s) {m:Nat} (hE:EvR t.code.length m 0 s) (hgv0:0<=s.given) (hgv1:s.given<2147483647)
  (h:St w0 w (L.bl q s++((n4,Cs (zL t.at_ sv cv) 41)::H)))
  (hK:∀ (w':World) (L':qK) (gone:List Int) (s1:qf) (ov:Value) (N:qA),yH t.code.length s gone s1->L'.Ok w0 q (zS s1 t)->zn 1 24 ov gone.length ((yc gone).map U) N->qD w0 N->St w0 w' (N++(L'.bl q (zS s1 t)++H))->K (.tuple [U (s1.given+1),ov,J 0].toArray) w') :
  qf4 none 0 0 (some ⟨q.cb,0,none⟩) 0 0 (Addr.mk n4 0 none) w K:=by
 obtain⟨ca,cc,e⟩:=(hB.row w ((h.sub hL.newB).tail hn4)).form
 subst e
 rw[qoE]
 refine⟨fun m e w=>∃ (L':qK) (s':qf) (gone:List Int) (ga:Option Addr) (gc:Nat) (N:qA),e=qh.mk 173 [(5,.slice ga gone.length gc),(0,.pointer (some ⟨q.cb,0,none⟩)),(4,U 0),(6,J 0),(3,.pointer (some (Addr.mk n4 0 none)))] []/\
  EvR t.code.length m gone.length s'/\zn 1 24 (.slice ga gone.length gc) gone.length (gone.map U) N/\qD w0 N/\L'.Ok w0 q s'/\St w0 w (L'.bl q s'++(N++((n4,Cs (zL t.at_ sv (.slice ca t.code.length cc)) 41)::H)))/\∀ g s1,yH t.code.length s' g s1->yH t.code.length s (gone++g) s1,
  ⟨m,L,s,[],none,0,[],rfl,hE,zn.nil 1 24,qD.nil _,hL,h,fun g s1 h=>h⟩,?_⟩
 rintro m e w1 ⟨L',s',gone,ga,gc,N,rfl,hE,hSl,hN,hL',hs,hev⟩
 show q9d ..
 rw[q8y]
 obtain⟨hfit,hgl⟩:=hE.fit
 have hcl:=hB.len
 have hm4:∀ {w2:World},St w0 w2 (L'.bl q s'++(N++((n4,Cs (zL t.at_ sv (.slice ca t.code.length cc)) 41)::H)))->w2.cell? ((Addr.mk n4 0 none).add 2)=some (.slice ca t.code.length cc):=fun {w2} h2=>by
  have:(n4,Cs (zL t.at_ sv (.slice ca t.code.length cc)) 41)∈(L'.bl q s'++(N++((n4,Cs (zL t.at_ sv (.slice ca t.code.length cc)) 41)::H))):=List.mem_append_right _ (List.mem_append_right _ (.head _))
  rw[qa,qu (h2.has _ _ this)];rfl
 have h1:=hs.drew
 have hc:=hL'.cur
 refine⟨s'.cur,by rw[qa];exact h1.cell (k:=1) rfl,ca,t.code.length,cc,hm4 h1,s'.len,by rw[qa];exact h1.cell (k:=1) rfl,?_⟩
 refine q3T h1 hL' hc (by have:=hfit.rows _ (List.getElem_mem hc);omega) fun w96 h96=>⟨_,rfl,by rw[qa];exact h96.cell (k:=1) rfl,hm4 h96,?_⟩
 have hfb:=yD (hL'.codeLen h96) s'.rows[s'.cur]
 have hfs:qZ s' s'.cur=qM s'.items s'.rows[s'.cur]:=by unfold qZ qM;rw[List.getElem?_eq_getElem hc];rfl
 have hrl:=hfit.rows _ (List.getElem_mem hc)
 rw[qc om om]
 have hlast:∀ s1:qf,yH t.code.length s gone s1->s1.given=s.given:=fun s1 h=>h.conf.2.2.1
 have yes:∀ w2,y7 s' t.code.length=true->St w0 w2 (L'.bl q s'++(N++((n4,Cs (zL t.at_ sv (.slice ca t.code.length cc)) 41)::H)))->
   q04 true (some ⟨q.cb,0,none⟩) 0 0 (Addr.mk n4 0 none) ga gone.length gc w2 K (fun e' w'=>∃ m',m'<m/\∃ (L':qK) (s':qf) (gone:List Int) (ga:Option Addr) (gc:Nat) (N:qA),e'=qh.mk 173 [(5,.slice ga gone.length gc),(0,.pointer (some ⟨q.cb,0,none⟩)),(4,U 0),(6,J 0),(3,.pointer (some (Addr.mk n4 0 none)))] []/\
    EvR t.code.length m' gone.length s'/\zn 1 24 (.slice ga gone.length gc) gone.length (gone.map U) N/\qD w0 N/\L'.Ok w0 q s'/\St w0 w' (L'.bl q s'++(N++((n4,Cs (zL t.at_ sv (.slice ca t.code.length cc)) 41)::H)))/\∀ g s1,yH t.code.length s' g s1->yH t.code.length s (gone++g) s1):=by
  intro w2 hfull h2
  rw[q27,qd,qg9]
  have h3:=h2.drew
  have hmod:(s'.cur+1) % s'.rows.length<s'.rows.length:=Nat.mod_lt _ om
  have hrlen:=hL'.rl
  refine⟨s'.cur,by rw[qa];exact h3.cell (k:=1) rfl,s'.rows.length,h3.cell (k:=1) rfl,by omega,?_⟩
  show zF ((Addr.mk q.cb 0 none).add 7) _ _ _
  rw[qa,qc om om]
  have htm:((s'.cur:Int)+1).tmod (s'.rows.length:Int)=(((s'.cur+1) % s'.rows.length:Nat):Int):=by
   rw[Int.tmod_eq_emod_of_nonneg om,Int.natCast_emod];rfl
  rw[htm]
  refine h3.st1 (k:=1) rfl (by simp[CCs]) rfl fun w114 h114=>?_
  have h115:St w0 w114 (L'.bl q (qF s')++(N++((n4,Cs (zL t.at_ sv (.slice ca t.code.length cc)) 41)::H))):=h114
  cases m with
  | zero=>
   have:=hE.2.2
   rw[this]at hfull;cases hfull
  | succ m=>
   refine qny hg hn4 (hL'.setCur hmod) hfit.rows hfit.ev0 hfit.ev1 hgl hSl hN h115 fun w' L2 s2 ga' gc' N' hF hL2 hS2 hN2 hs2=>?_
   refine⟨m,Nat.lt_succ_self m,L2,_,gone++yf (qF s'),ga',gc',N',rfl,?_,hS2,hN2,hL2,hs2,fun g s1 hg=>?_⟩
   ·rw[List.length_append];exact hE.2.2 hfull s2 hF
   ·rw[List.append_assoc]
    exact hev _ _ (.step hfull hF hg)
 have no:∀ w2,y7 s' t.code.length=false->St w0 w2 (L'.bl q s'++(N++((n4,Cs (zL t.at_ sv (.slice ca t.code.length cc)) 41)::H)))->JE ga gone.length gc (some ⟨q.cb,0,none⟩) (Addr.mk n4 0 none) w2 K:=by
  intro w2 hfull h2
  have hEv:=hev [] s' (.done hfull)
  rw[List.append_nil]at hEv
  have hgv:=hlast s' hEv
  refine qzk hg hn4 hS hB ha0 ha1 hL' hfit hgl om om hSl hN h2 fun w' L2 N' hok hS' hN' hs'=>?_
  exact hK w' L2 gone s' _ N' hEv hok hS' hN' hs'
 rw[qe]
 refine⟨fun hb=>?_,fun hb=>?_⟩
 ·refine yes w96 ?_ h96
  unfold y7
  rw[hb];rfl
 ·refine⟨some q.ib,by rw[qa];exact h96.cell (k:=1) rfl,s'.items.length,fun wq hx=>hL'.its.len (VV hx (h96.get (k:=2) rfl)),?_⟩
  refine qzb h96 hL' ⟨_,rfl,?_⟩
  have hdd:decide ((s'.items.length:Int)>=(zJ s':Nat))=decide (zJ s'<=s'.items.length):=by
   by_cases hx:zJ s'<=s'.items.length
   ·rw[decide_eq_true hx,decide_eq_true om]
   ·rw[decide_eq_false hx,decide_eq_false om]
  rw[hdd]
  have hfe:y7 s' t.code.length=decide (zJ s'<=s'.items.length):=by
   unfold y7
   rw[hb];rfl
  cases hd:decide (zJ s'<=s'.items.length)with
  | true=>rw[hd]at hfe;exact yes w96 hfe h96
  | false=>
   rw[hd]at hfe
   rw[q27,qb]
   exact no w96 hfe h96
theorem q5F{t:TR}{sv cv:Value}(h:St w0 w (L.bl q s++H))(hL:L.Ok w0 q s)(hg:zr H)(hS:Q6 w0 H sv t.sp)(hB:y9 w0 H cv t.code)(ha:jm t.at_)(hgv0:0<=s.given)(hgv1:s.given<=2147483647)
  (hE:putErr s t=0->∃ m,EvR t.code.length m 0 s)
  (hF:putErr s t≠0->∀ w',St w0 w' (L.bl q s++H)->K (.tuple [U 0,.slice none 0 0,J (putErr s t)].toArray) w')
  (hK:putErr s t=0->∀ (w':World) (L':qK) (gone:List Int) (s1:qf) (ov:Value) (N:qA),yH t.code.length s gone s1->L'.Ok w0 q (zS s1 t)->zn 1 24 ov gone.length ((yc gone).map U) N->qD w0 N->St w0 w' (N++(L'.bl q (zS s1 t)++H))->K (.tuple [U (s1.given+1),ov,J 0].toArray) w') :
  q9 P 18 [.pointer (some ⟨q.cb,0,none⟩),.agg (zL t.at_ sv cv).toArray] w K:=by
 refine qDo _ _ _ _ ?_
 obtain⟨sa,sc,e1⟩:=(hS.row w (h.sub hL.newB)).form
 obtain⟨ca,cc,e2⟩:=(hB.row w (h.sub hL.newB)).form
 subst e1;subst e2
 rw[qCg,qoP]
 refine h.newC fun n4 w5 hn4 h5=>?_
 have h5:St w0 w5 ((n4,Cs (zL t.at_ (.slice sa t.sp.length sc) (.slice ca t.code.length cc)) 41)::(L.bl q s++H)):=h5
 have h6:St w0 w5 (L.bl q s++((n4,Cs (zL t.at_ (.slice sa t.sp.length sc) (.slice ca t.code.length cc)) 41)::H)):=h5.perm (qo fun c=>by simp only[List.map_append,List.map_cons,List.sum_append,List.sum_cons];omega)
 have back:∀ {w2:World},St w0 w2 (L.bl q s++((n4,Cs (zL t.at_ (.slice sa t.sp.length sc) (.slice ca t.code.length cc)) 41)::H))->St w0 w2 ((n4,Cs (zL t.at_ (.slice sa t.sp.length sc) (.slice ca t.code.length cc)) 41)::(L.bl q s++H)):=fun {w2} h2=>h2.perm (qo fun c=>by simp only[List.map_append,List.map_cons,List.sum_append,List.sum_cons];omega)
 have hg2:zr ((n4,Cs (zL t.at_ (.slice sa t.sp.length sc) (.slice ca t.code.length cc)) 41)::H):=hg.mono fun u hu=>.tail _ hu
 have hS2:Q6 w0 (L.bl q s++((n4,Cs (zL t.at_ (.slice sa t.sp.length sc) (.slice ca t.code.length cc)) 41)::H)) (.slice sa t.sp.length sc) t.sp:=⟨fun w' h'=>hS.row w' ((h'.sub hL.newB).tail hn4),hS.len⟩
 have hB2:y9 w0 (L.bl q s++((n4,Cs (zL t.at_ (.slice sa t.sp.length sc) (.slice ca t.code.length cc)) 41)::H)) (.slice ca t.code.length cc) t.code:=⟨fun w' h'=>hB.row w' ((h'.sub hL.newB).tail hn4),hB.byte,hB.len,hB.cap⟩
 have fail:∀ {e:Int} {w2:World},putErr s t=e->e≠0->St w0 w2 (L.bl q s++((n4,Cs (zL t.at_ (.slice sa t.sp.length sc) (.slice ca t.code.length cc)) 41)::H))->K (.tuple [U 0,.slice none 0 0,J e].toArray) w2:=fun {e w2} he hne h2=>by
  subst he
  exact hF hne w2 ((back h2).tail hn4)
 rw[qpq]
 refine ZY h6 ⟨_,rfl,?_⟩
 simp only[qb]
 rw[qos]
 refine⟨ca,t.code.length,cc,by rw[qa];exact h5.cell (k:=0) rfl,?_⟩
 obtain⟨⟨gcs,gt,hg1,hgt⟩,hbits⟩:=hg2
 refine q2H h6 hB2 (List.mem_append_right _ hg1) hgt (fun w22 h22 hn=>⟨_,_,_,_,rfl,?_⟩) fun w22 xa xc N l hl hll h22 hN hSl=>⟨_,_,_,_,rfl,?_⟩
 ·rw[q3G]
  simp only[show((170:Int) != 0)=true from rfl,qd]
  exact fail (by unfold putErr;rw[hn]) (by decide) h22
 rw[q3G]
 simp only[show((0:Int) != 0)=false from rfl,qb]
 rw[qnN]
 have hpe:putErr s t=if zE t.sp=false\/(l.any fun e=>e.chain != 0)=true then 1 else if(qW s t.at_).1≠0 then 5 else if(t.code.length:Int) > s.len\/s.given=2147483647 then 2 else 0:=by unfold putErr;rw[hl]
 have hm4:∀ {w2:World} {Z:qA},St w0 w2 (Z++(L.bl q s++((n4,Cs (zL t.at_ (.slice sa t.sp.length sc) (.slice ca t.code.length cc)) 41)::H)))->w2.heap[n4]?=some (Cs (zL t.at_ (.slice sa t.sp.length sc) (.slice ca t.code.length cc)) 41):=fun {w2 Z} h2=>
  h2.has _ _ (List.mem_append_right _ (List.mem_append_right _ (.head _)))
 refine⟨sa,t.sp.length,sc,by rw[qa,qu (hm4 h22)];rfl,?_⟩
 refine q9u (l:=t.sp) h22 ⟨fun w' h'=>hS2.row w' (h'.sub hN),hS.len⟩ fun w48 h48=>⟨_,rfl,?_⟩
 have s5t:∀ {w2:World},(zE t.sp=false\/(l.any fun e=>e.chain != 0)=true)->St w0 w2 (N++(L.bl q s++((n4,Cs (zL t.at_ (.slice sa t.sp.length sc) (.slice ca t.code.length cc)) 41)::H)))->q56 true none 0 0 (some ⟨q.cb,0,none⟩) 0 0 (Addr.mk n4 0 none) w2 K:=fun {w2} hc h2=>by
  rw[q37,qd]
  exact fail (by rw[hpe,if_pos hc]) (by decide) (h2.sub hN)
 rw[qe]
 refine⟨fun hb=>s5t (.inl (by simpa using hb)) h48,fun hb=>?_⟩
 have hsp:zE t.sp=true:=by simpa using hb
 have hcl:=hB.len
 refine Zy (l:=l) h48 (fun w' h'=>hSl.row fun u hu=>h'.has _ _ (List.mem_append_left _ hu)) om qFD fun w198 h198=>⟨_,rfl,?_⟩
 cases hch:(l.any fun e=>e.chain != 0)with
 | true=>exact s5t (.inr hch) h198
 | false=>
  have hno:¬ (zE t.sp=false\/(l.any fun e=>e.chain != 0)=true):=by rw[hsp,hch];simp
  rw[if_neg hno]at hpe
  rw[q37,qb,qoK]
  have h199:=h198.sub hN
  refine⟨t.at_,(back h199).cell (k:=0) rfl,?_⟩
  refine Zc h199 hL (hg.mono fun u hu=>.tail _ hu) ha.1 ha.2 fun w63 h63=>⟨_,_,rfl,?_⟩
  rw[qe]
  refine⟨fun hx=>?_,fun hx=>?_⟩
  ·have hx:(qW s t.at_).1≠0:=by simpa using hx
   exact fail (by rw[hpe,if_pos hx]) (by decide) h63
  have hx:(qW s t.at_).1=0:=by simpa using hx
  rw[if_neg (by simp[hx])]at hpe
  rw[qnx]
  have h64:=h63.drew
  refine⟨ca,t.code.length,cc,by rw[qa];exact(back h64).cell (k:=0) rfl,s.len,by rw[qa];exact h64.cell (k:=1) rfl,?_⟩
  have s8t:∀ {w2:World},((t.code.length:Int) > s.len\/s.given=2147483647)->St w0 w2 (L.bl q s++((n4,Cs (zL t.at_ (.slice sa t.sp.length sc) (.slice ca t.code.length cc)) 41)::H))->q5Q true none 0 0 (some ⟨q.cb,0,none⟩) 0 0 (Addr.mk n4 0 none) w2 K:=fun {w2} hc h2=>by
   rw[q3u,qd]
   exact fail (by rw[hpe,if_pos hc]) (by decide) h2
  rw[qe]
  refine⟨fun hlt=>s8t (.inl (by simpa using hlt)) h64,fun hlt=>?_⟩
  have hlt:¬ (t.code.length:Int) > s.len:=by simpa using hlt
  refine⟨s.given,by rw[qa];exact h64.cell (k:=1) rfl,?_⟩
  cases hgv:(s.given==2147483647)with
  | true=>exact s8t (.inr (by simpa using hgv)) h64
  | false=>
   have hgv:s.given≠2147483647:=by simpa using hgv
   have hp0:putErr s t=0:=by rw[hpe,if_neg (fun hc=>hc.elim hlt hgv)]
   rw[q3u,qb]
   obtain⟨m,hE⟩:=hE hp0
   exact qG6 hg hn4 hS hB ha.1 ha.2 hL hE hgv0 om h64 (hK hp0)
end Go.Fx.Tryz
namespace Go.Fx.Ch
open Go.Fx.Tryz
set_option linter.all false
def ins(x:Int):List Int->List Int
 | []=>[x]
 | y::l=>if x<=y then x::y::l else y::ins x l
def q0t:List Int->List Int
 | []=>[]
 | x::l=>ins x (q0t l)
theorem q2t(x:Int):∀ l,(ins x l).Perm (x::l)
 | []=>.refl _
 | y::l=>by
  unfold ins
  split
  ·exact .refl _
  ·exact((q2t x l).cons y).trans (List.Perm.swap _ _ _)
theorem q0N:∀ l,(q0t l).Perm l
 | []=>.refl _
 | x::l=>(q2t x _).trans ((q0N l).cons x)
theorem q18(x:Int):∀ l:List Int,l.Pairwise (·<=·)->(ins x l).Pairwise (·<=·)
 | [],_=>by simp[ins]
 | y::l,h=>by
  unfold ins
  have h1:=List.pairwise_cons.1 h
  split
  ·rename_i hxy
   refine List.pairwise_cons.2 ⟨fun z hz=>?_,h⟩
   rcases List.mem_cons.1 hz with rfl | hz
   ·exact hxy
   ·have:=h1.1 z hz;omega
  ·rename_i hxy
   refine List.pairwise_cons.2 ⟨fun z hz=>?_,q18 x l h1.2⟩
   rcases List.mem_cons.1 ((q2t x l).mem_iff.1 hz)with rfl | hz
   ·omega
   ·exact h1.1 z hz
theorem V5:∀ l:List Int,(q0t l).Pairwise (·<=·)
 | []=>List.Pairwise.nil
 | x::l=>q18 x _ (V5 l)
theorem QH(l:List Int):yc l=q0t l:=by
 have h1:(yc l).Perm (q0t l):=(List.mergeSort_perm l _).trans (q0N l).symm
 have hp:(yc l).Pairwise fun x y=>decide (x<=y)=true:=List.pairwise_mergeSort (fun x y z hx hy=>by simp at *;omega) (fun x y=>by simp;omega) l
 exact h1.eq_of_pairwise (fun x y _ _ hx hy=>by simp at hx hy;omega) hp ((V5 l).imp fun h=>by simpa using h)
def jw:qf->List Int->qf
 | s,[]=>s
 | s,id::l=>jw (forget1 ((lk s.hold id).getD []) s id) l
def qsI:qf->List Int->Bool
 | _,[]=>true
 | s,id::l=>decide (((lk s.hold id).getD []).length<=1)&&qsI (forget1 ((lk s.hold id).getD []) s id) l
theorem zm.det{s s':qf}{l:List Int}(h:zm s l s'):qsI s l=true->s'=jw s l:=by
 induction h with
 | nil=>exact fun _=>rfl
 | @cons s s' id l order ho _ ih=>
  intro hd
  simp only[qsI,Bool.and_eq_true,decide_eq_true_eq]at hd
  have ho':order=(lk s.hold id).getD []:=by
   generalize (lk s.hold id).getD []=m at *
   match m,ho,hd.1 with
   | [],ho,_=>exact List.Perm.eq_nil ho
   | [x],ho,_=>exact List.perm_singleton.1 ho
  subst ho'
  exact ih hd.2
def q4g(s:qf):List Int:=q0t ((s.rows[s.cur]?).getD [])
theorem qkE(s:qf):yf s=q4g s:=QH _
def q9F(s:qf):Bool:=(s.rows.all fun r=>decide (r.length<1000000))&&decide (0<=s.ev)&&decide (s.ev<1099511627776)&&decide (s.items.length<1000000)&&s.table.all fun x=>decide (0<=x)&&decide (x<4294967296)
theorem jg{s:qf}(h:q9F s=true):Fit s:=by
 simp only[q9F,Bool.and_eq_true,List.all_eq_true,decide_eq_true_eq]at h
 exact⟨h.1.1.1.1,h.1.1.1.2,h.1.1.2,h.1.2,h.2⟩
def evD(n:Nat):Nat->qf->Option (List Int × qf)
 | 0,s=>if q9F s&&!(y7 s n)then some ([],s)else none
 | m+1,s=>if q9F s then if y7 s n then(if qsI (qF s) (q4g (qF s))then
   (evD n m { jw (qF s) (q4g (qF s))with ev:=(jw (qF s) (q4g (qF s))).ev+(q4g (qF s)).length }).map fun r=>(q4g (qF s)++r.1,r.2)else none)else some ([],s)else none
theorem q8X{n:Nat}:∀ (m:Nat) (s:qf) (r:List Int × qf),evD n m s=some r->(∀ g,g+r.1.length<1000000->EvR n m g s)/\∀ g s1,yH n s g s1->g=r.1/\s1=r.2
 | 0,s,r,h=>by
  unfold evD at h
  split at h
  ·rename_i hc
   simp only[Bool.and_eq_true,Bool.not_eq_true']at hc
   cases h
   refine⟨fun g hg=>⟨jg hc.1,by simpa using hg,hc.2⟩,fun g s1 he=>?_⟩
   cases he with
   | done=>exact⟨rfl,rfl⟩
   | step hf=>rw[hc.2]at hf;cases hf
  ·cases h
 | m+1,s,r,h=>by
  unfold evD at h
  split at h
  ·rename_i hfit
   split at h
   ·rename_i hfull
    split at h
    ·rename_i hdet
     cases hv:evD n m { jw (qF s) (q4g (qF s))with ev:=(jw (qF s) (q4g (qF s))).ev+(q4g (qF s)).length }with
     | none=>rw[hv]at h;cases h
     | some r'=>
      rw[hv]at h
      simp only[Option.map_some,Option.some.injEq]at h
      subst h
      obtain⟨i1,i2⟩:=q8X m _ _ hv
      refine⟨fun g hg=>⟨jg hfit,by simp only[List.length_append]at hg;omega,fun _ s2 hF=>?_⟩,fun g s1 he=>?_⟩
      ·rw[qkE]at hF ⊢
       rw[hF.det hdet]
       exact i1 _ (by simp only[List.length_append]at hg;omega)
      ·cases he with
       | done hf=>rw[hfull]at hf;cases hf
       | step _ hF he2=>
        rw[qkE]at hF he2 ⊢
        rw[hF.det hdet]at he2
        obtain⟨e1,e2⟩:=i2 _ _ he2
        exact⟨by rw[e1],e2⟩
    ·cases h
   ·rename_i hfull
    have hfull:y7 s n=false:=by simpa using hfull
    cases h
    refine⟨fun g hg=>⟨jg hfit,by simpa using hg,fun hf=>by rw[hfull]at hf;cases hf⟩,fun g s1 he=>?_⟩
    cases he with
    | done=>exact⟨rfl,rfl⟩
    | step hf=>rw[hfull]at hf;cases hf
  ·cases h
end Go.Fx.Ch
namespace Go.Fx
open Go
variable {P:Program}
theorem qfH{B:(YT)->YT}{e0:qh}{w1:World}{es:Array MapEntry}(J:List MapEntry->Array Nat->YT)(h0:J [] #[] e0 w1)
  (hover:∀ vis seen e w,Vis es vis [] seen->J vis seen e w->∀ Y,B Y e w)
  (hmore:∀ vis rem seen e w,rem≠[]->Vis es vis rem seen->J vis seen e w->∀ Y:YT,(∀ x e' w',x∈es.toList->x.born ∉ seen.toList->J (vis++[x]) (seen.push x.born) e' w'->Y e' w')->B Y e w):qH B e0 w1:=by
 refine⟨fun n e w=>∃ vis rem seen,n=rem.length/\Vis es vis rem seen/\J vis seen e w,⟨_,[],_,_,rfl,Vis.start es,h0⟩,?_⟩
 rintro n e w ⟨vis,rem,seen,rfl,hv,hj⟩
 by_cases hr:rem=[]
 ·subst hr;exact hover vis seen e w hv hj _
 ·refine hmore vis rem seen e w hr hv hj _ fun x e' w' hx hn hj'=>?_
  obtain⟨rem',hl,hv'⟩:=hv.step hx hn
  exact⟨rem'.length,by omega,_,rem',_,rfl,hv',hj'⟩
end Go.Fx
namespace Go.Fx.Tryz
open Go Go.Fx Go.Fx.Ch
open Go.Proofs
set_option linter.all false
set_option maxRecDepth 20000
variable {w0 w:World} {H X G:qA} {K:KT} {s:qf} {L:qK} {q:LB}
theorem q9Y{K:Type}{enc:K->Value}(hinj:∀ a b,enc a=enc b->a=b){es:Array MapEntry}{clk:Nat}{m:List (K × Value)}(h:MapIs enc es clk m){vis:List MapEntry}{seen:Array Nat}(hv:Vis es vis [] seen){ks:List K}(ho:vis.map (·.key)=ks.map enc):ks.Perm (m.map (·.1)):=by
 have h1:(vis.map (·.key)).Perm (es.toList.map (·.key)):=by
  have:=hv.perm
  rw[List.append_nil]at this
  exact(this.map _).symm
 rw[ho]at h1
 have h2:(es.toList.map (·.key)).Perm ((m.map (·.1)).map enc):=by
  have:=h.perm.map (·.1)
  rw[List.map_map,List.map_map]at this
  rw[List.map_map]
  exact this
 exact j5 hinj (h1.trans h2)
theorem qkP{es:Array MapEntry}{vis rem:List MapEntry}{seen:Array Nat}(hv:Vis es vis rem seen):vis.length+rem.length=es.size:=by
 have:=hv.perm.length_eq
 rw[List.length_append]at this
 simpa using this.symm
theorem zB.entry{es:Array MapEntry}{clk:Nat}{items:List (Int × TR)}(h:zB G es clk items){e:MapEntry}(he:e∈es.toList):∃ id:Int,e.key=U id/\Ju G e.val (qk items id)/\(lk items id).isSome=true:=by
 obtain⟨m,h1,h2⟩:=h
 obtain⟨p,hp,hk,hv⟩:=h1.pair' he
 refine⟨p.1,hk,?_⟩
 have hl:vR m p.1=some p.2:=(q0w h1.nodup).2 hp
 rcases h2.lk p.1 with⟨e1,_⟩ | ⟨v,t,e1,e2,e3⟩
 ·rw[yR,e1]at hl;cases hl
 ·rw[yR,e1]at hl
  cases hl
  rw[hv,e2]
  unfold qk
  rw[e2]
  exact⟨e3,rfl⟩
def yL(s:qf)(r:SP)(id:Int):Bool:=(qk s.items id).sp.any (ZO r)
def yN(s:qf)(r:SP):List Int:=yc ((s.items.map (·.1)).filter (yL s r))
theorem qjj{r:SP}(h:St w0 w (L.bl q s++H))(hL:L.Ok w0 q s)(hg:zr H)(hn:s.items.length<1000000)(hd0:0<=s.dr)(hd1:s.dr<1099511627776)
  (hK:∀ (w':World) (L':qK) (s':qf) (ov:Value) (N:qA),zm s (yN s r) s'->L'.Ok w0 q { s' with dr:=s'.dr+(yN s r).length }->zn 1 24 ov (yN s r).length ((yN s r).map U) N->qD w0 N->
   St w0 w' (N++(L'.bl q { s' with dr:=s'.dr+(yN s r).length }++H))->K ov w') :
  q9 P 20 [.pointer (some ⟨q.cb,0,none⟩),.agg (Z8 r).toArray] w K:=by
 refine qCF _ _ _ _ ?_
 rw[qDh]
 refine h.newC fun n2 w3 hn2 h3=>?_
 have h3:St w0 w3 ((n2,Cs (Z8 r) 36)::(L.bl q s++H)):=h3
 have h4:St w0 w3 (L.bl q s++((n2,Cs (Z8 r) 36)::H)):=h3.perm (qo fun c=>by simp only[List.map_append,List.map_cons,List.sum_append,List.sum_cons];omega)
 refine ZY h4 ⟨_,rfl,?_⟩
 simp only[qb]
 rw[qn8]
 refine⟨some q.ib,by rw[qa];exact h4.cell (k:=1) rfl,_,_,VT (by kernel_rfl:P.underlying 105=some (.map 24 41)) (h4.get (k:=2) rfl),?_⟩
 have hit:=h4.le
 have h5:=h4.alloc (.mapIter (some q.ib) L.iclk #[] L.iclk)
 generalize w3.heap.size=it at hit h5
 obtain⟨m,hm,hlike⟩:=hL.its
 have hsz:L.ies.size=s.items.length:=by rw[hm.size,hlike.length]
 have hkeys:m.map (·.1)=s.items.map (·.1):=yz.keys hlike
 refine qfH (es:=L.ies) (fun vis seen e w'=>∃ (ks:List Int) (ga:Option Addr) (gc:Nat) (N:qA),vis.map (·.key)=ks.map qBn/\e=qh.mk 41 [(5,.slice ga (ks.filter (yL s r)).length gc),(3,.pointer (some (Addr.mk n2 0 none))),(14,.pointer (some (Addr.mk it 0 none))),(4,.slice none 0 0),(0,.pointer (some ⟨q.cb,0,none⟩))] []/\
  zn 1 24 (.slice ga (ks.filter (yL s r)).length gc) (ks.filter (yL s r)).length ((ks.filter (yL s r)).map U) N/\qD w0 N/\St w0 w' ((it,.mapIter (some q.ib) L.iclk seen L.iclk)::(L.bl q s++(N++((n2,Cs (Z8 r) 36)::H)))))
  ⟨[],none,0,[],rfl,rfl,zn.nil 1 24,qD.nil _,h5⟩ ?_ ?_
 ·rintro vis seen e w1 hv ⟨ks,ga,gc,N,hks,rfl,hS,hN,hs⟩ Y
  show q6i ..
  rw[q2B]
  refine .inl ⟨w1,jJ (hs.get (k:=0) rfl) (hs.get (k:=3) rfl) hm.st hv.over,?_⟩
  rw[qnP]
  have hperm:ks.Perm (s.items.map (·.1)):=by rw[<-hkeys];exact q9Y (fun a b h=>by injection h) hm hv hks
  have hso:yc (ks.filter (yL s r))=yN s r:=jd (hperm.filter _)
  have hfl:(ks.filter (yL s r)).length<1000000:=by
   have h1:=List.length_filter_le (yL s r) ks
   have h2:=hperm.length_eq
   rw[List.length_map]at h2
   omega
  have hs1:=hs.tail hit
  have hg2:zr (N++((n2,Cs (Z8 r) 36)::H)):=hg.mono fun u hu=>List.mem_append_right _ (.tail _ hu)
  refine q3x qef hs1 hL hg2 (fun w' h'=>hS.row fun u hu=>h'.has _ _ (List.mem_append_right _ (List.mem_append_left _ hu))) hfl fun w26 L' s' ov M hF hL' hSl hM h26=>?_
  rw[hso]at hF hSl
  obtain⟨la,lc,e⟩:=hSl.form
  subst e
  have hdl:(yN s r).length<1000000:=by rw[<-hso,Qr];exact hfl
  have hdr:s'.dr=s.dr:=hF.conf.2.2.2.2.2.1
  have h27:St w0 w26 (L'.bl q s'++(M++(N++((n2,Cs (Z8 r) 36)::H)))):=h26.perm (qo fun c=>by simp only[List.map_append,List.map_cons,List.sum_append,List.sum_cons];omega)
  refine⟨_,_,_,rfl,s'.dr,by rw[qa];exact h27.cell (k:=1) rfl,?_⟩
  show zF ((Addr.mk q.cb 0 none).add 10) _ _ _
  rw[qa,qc om om]
  refine h27.st1 (k:=1) rfl (by simp[CCs]) rfl fun w31 h31=>?_
  have h32:St w0 w31 (L'.bl q { s' with dr:=s'.dr+(yN s r).length }++(M++(N++((n2,Cs (Z8 r) 36)::H)))):=h31
  have h33:St w0 w31 (N++((n2,Cs (Z8 r) 36)::(M++(L'.bl q { s' with dr:=s'.dr+(yN s r).length }++H)))):=h32.perm (qo fun c=>by simp only[List.map_append,List.map_cons,List.sum_append,List.sum_cons];omega)
  exact hK w31 L' s' _ M hF (hL'.setDr _) hSl hM ((h33.sub hN).tail hn2)
 ·rintro vis rem seen e w1 hr hv ⟨ks,ga,gc,N,hks,rfl,hS,hN,hs⟩ Y hY
  show q6i ..
  rw[q2B]
  obtain⟨x,w2,he,hnb,hw2,hk2,hrun⟩:=jK (P:=P) (hs.get (k:=0) rfl) (hs.get (k:=3) rfl) hm.st (hv.more hm.st hr)
  have h3:St w0 (w2.putObj it (.mapIter (some q.ib) L.iclk (seen.push x.born) L.iclk)) ((it,.mapIter (some q.ib) L.iclk (seen.push x.born) L.iclk)::(L.bl q s++(N++((n2,Cs (Z8 r) 36)::H)))):=(hs.same hw2 hk2).put (k:=0) rfl _
  obtain⟨id,hek,hv',_⟩:=hL.its.entry he
  obtain⟨⟨sv,cv,hva,hSp,hBp⟩,_,_⟩:=hv'
  refine .inr ⟨_,_,_,hrun,?_⟩
  rw[qp9]
  refine⟨x.key,x.val,_,Vw (h3.get (k:=0) rfl) (h3.get (k:=3) rfl) (by simp) (VM hm.st he),id,hek,_,hva,?_⟩
  generalize hti:qk s.items id=t at *
  obtain⟨sa,sc,e1⟩:=((hSp.spans (w0:=w0) (H:=L.bl q s++H) fun u hu=>List.mem_append_left _ (L.G_mem q s u hu)).row w h).form
  obtain⟨ca,cc,e2⟩:=((hBp.bytes (w0:=w0) (H:=L.bl q s++H) fun u hu=>List.mem_append_left _ (L.G_mem q s u hu)).row w h).form
  subst e1;subst e2
  rw[jf]
  refine h3.newC fun n42 w43 hn42 h43=>h43.stA (k:=0) rfl rfl (by simp) (by simp[zL,Value.oneCell']) fun w44 h44=>?_
  have h44:St w0 w44 ((n42,Cs (zL t.at_ (.slice sa t.sp.length sc) (.slice ca t.code.length cc)) 41)::(it,.mapIter (some q.ib) L.iclk (seen.push x.born) L.iclk)::(L.bl q s++(N++((n2,Cs (Z8 r) 36)::H)))):=h44
  refine⟨sa,t.sp.length,sc,by rw[qa];exact h44.cell (k:=0) rfl,?_⟩
  have hm2:(n2,Cs (Z8 r) 36)∈((n42,Cs (zL t.at_ (.slice sa t.sp.length sc) (.slice ca t.code.length cc)) 41)::(it,.mapIter (some q.ib) L.iclk (seen.push x.born) L.iclk)::(L.bl q s++(N++((n2,Cs (Z8 r) 36)::H)))):=.tail _ (.tail _ (List.mem_append_right _ (List.mem_append_right _ (.head _))))
  refine Zw (l:=t.sp) h44 (hSp.spans fun u hu=>.tail _ (.tail _ (List.mem_append_left _ (L.G_mem q s u hu)))) (qCp (t:=36) hm2) fun w47 h47=>⟨_,rfl,?_⟩
  have h48:=h47.tail hn42
  have hkl:ks.length+1<=s.items.length:=by
   have h1:=qkP hv
   have h2:=congrArg List.length hks
   have h5:0<rem.length:=List.length_pos_iff.2 hr
   rw[List.length_map,List.length_map]at h2
   omega
  have hfk:(ks.filter (yL s r)).length<=ks.length:=List.length_filter_le _ _
  have hmb:t.sp.any (fun e=>ZO r e)=yL s r id:=by unfold yL;rw[hti]
  rw[hmb,qe]
  refine⟨fun hb=>?_,fun hb=>?_⟩
  ·refine⟨⟨rfl,trivial⟩,h48.newC fun n52 w50 hn52 h50=>?_⟩
   have h51:St w0 w50 ([(n52,Cs [U id] 24)]++(N++((it,.mapIter (some q.ib) L.iclk (seen.push x.born) L.iclk)::(L.bl q s++((n2,Cs (Z8 r) 36)::H))))):=by
    have h50:St w0 w50 ((n52,Cs [U id] 24)::(it,.mapIter (some q.ib) L.iclk (seen.push x.born) L.iclk)::(L.bl q s++(N++((n2,Cs (Z8 r) 36)::H)))):=h50
    exact h50.perm (qo fun c=>by simp only[List.map_append,List.map_cons,List.map_nil,List.sum_append,List.sum_cons,List.sum_nil];omega)
   obtain⟨g,cap,w54,N',hrun2,hX,h54,hXN⟩:=St.append (P:=P) 22 22 24 Tryz.t24 (U 0) 1 4 Tryz.underlying22 kr rfl rfl rfl rfl om (A:=[(n52,Cs [U id] 24)]) (news:=[U id]) h51 hS hN (j:=0) rfl rfl (fun u hu=>by rw[List.mem_singleton.1 hu];rfl) (by simp[maxLen];omega) om
   refine⟨_,_,_,w54,hrun2,?_⟩
   have hfe:(ks++[id]).filter (yL s r)=ks.filter (yL s r)++[id]:=by rw[List.filter_append,List.filter_cons,if_pos hb,List.filter_nil]
   have hfel:((ks++[id]).filter (yL s r)).length=(ks.filter (yL s r)).length+1:=by rw[hfe];simp
   refine hY x _ w54 he hnb ⟨ks++[id],some ⟨g,0,none⟩,cap,N',by rw[List.map_append,hks];simp[hek],by rw[hfel],by rw[hfel,hfe,List.map_append];exact hX,hXN,?_⟩
   have h55:St w0 w54 ((n52,Cs [U id] 24)::(it,.mapIter (some q.ib) L.iclk (seen.push x.born) L.iclk)::(L.bl q s++(N'++((n2,Cs (Z8 r) 36)::H)))):=h54.perm (qo fun c=>by simp only[List.map_append,List.map_cons,List.map_nil,List.sum_append,List.sum_cons,List.sum_nil];omega)
   exact h55.tail hn52
  ·have hfe:(ks++[id]).filter (yL s r)=ks.filter (yL s r):=by rw[List.filter_append,List.filter_cons,if_neg (by rw[hb];decide),List.filter_nil,List.append_nil]
   exact hY x _ w47 he hnb ⟨ks++[id],ga,gc,N,by rw[List.map_append,hks];simp[hek],by rw[hfe],by rw[hfe];exact hS,hN,h48⟩
end Go.Fx.Tryz
namespace Go.Fx.Ch
def vK(s:qf)(c:Int):Int:=(((lk s.hold c).getD []).length:Int)
def vM(s:qf):Int:=((s.hold.map (·.1)).map (vK s)).sum
def jL(s:qf):Int:=((List.range s.rows.length).map (qZ s)).sum
end Go.Fx.Ch
namespace Go.Fx.Tryz
open Go Go.Fx Go.Fx.Ch
open Go.Proofs
set_option linter.all false
set_option maxRecDepth 20000
variable {w0 w:World} {H X G:qA} {K:KT} {s:qf} {L:qK} {q:LB}
theorem qrI{a b:List Int}(h:a.Perm b):a.sum=b.sum:=by
 induction h with
 | nil=>rfl
 | cons x _ ih=>simp only[List.sum_cons,ih]
 | swap x y l=>simp only[List.sum_cons];omega
 | trans _ _ h1 h2=>exact h1.trans h2
theorem q3a{f:Int->Int}{B:Int}(h0:∀ x,0<=f x)(h1:∀ x,f x<=B):∀ l:List Int,0<=(l.map f).sum/\(l.map f).sum<=l.length*B
 | []=>by simp
 | x::l=>by
  obtain⟨a,b⟩:=q3a h0 h1 l
  have:=h0 x
  have:=h1 x
  simp only[List.map_cons,List.sum_cons,List.length_cons]
  have e:((l.length+1:Nat):Int)*B=l.length*B+B:=by rw[Int.natCast_add,Int.add_mul];simp
  rw[e]
  omega
theorem q19{f:Nat->Int}{B:Int}(h0:∀ x,0<=f x)(h1:∀ x,f x<=B):∀ l:List Nat,0<=(l.map f).sum/\(l.map f).sum<=l.length*B
 | []=>by simp
 | x::l=>by
  obtain⟨a,b⟩:=q19 h0 h1 l
  have:=h0 x
  have:=h1 x
  simp only[List.map_cons,List.sum_cons,List.length_cons]
  have e:((l.length+1:Nat):Int)*B=l.length*B+B:=by rw[Int.natCast_add,Int.add_mul];simp
  rw[e]
  omega
theorem q7y:qv P 47=#[J 0,J 0,J 0,J 0,J 0]:=kr
theorem qB4(a b c:Int)(wq:World):(Instr.build 47 [(0,J a),(3,J b),(4,J c)].toArray).run P wq=.ok (.agg #[J a,J 0,J 0,J b,J c]) wq:=kr
theorem qK.Ok.entryH(hL:L.Ok w0 q s){e:MapEntry}(he:e∈L.hes.toList):∃ h∈L.hl,e.key=U h.key/\e.val=.map (some h.b)/\(lk s.hold h.key).getD []=h.l:=by
 obtain⟨p,hp,hk,hv⟩:=hL.hm.pair' he
 obtain⟨h,hh,rfl⟩:=List.mem_map.1 hp
 refine⟨h,hh,hk,hv,?_⟩
 obtain⟨a,b,e0⟩:=List.append_of_mem hh
 obtain⟨ha,hb⟩:=hL.keys e0
 rw[hL.hs,e0]
 simp only[List.map_append,List.map_cons]
 rw[q59 (fun p hp=>by
  obtain⟨x,hx,rfl⟩:=List.mem_map.1 hp
  exact ha x hx)]
 rfl
theorem q0k(h:St w0 w (L.bl q s++H))(hL:L.Ok w0 q s)(hr:∀ r∈s.rows,r.length<1000000)(hh1:s.hold.length<1000000)(hh2:∀ c,vK s c<=1000000)
  (hK:∀ w',St w0 w' (L.bl q s++H)->K (.agg #[J s.items.length,J (jL s),J (vM s),J s.ev,J s.dr]) w'):q9 P 23 [.pointer (some ⟨q.cb,0,none⟩)] w K:=by
 refine qG1 _ _ _ ?_
 rw[qDE,q7y]
 refine h.newC fun n1 w2 hn1 h2=>?_
 have h2:St w0 w2 ((n1,Cs [J 0,J 0,J 0,J 0,J 0] 47)::(L.bl q s++H)):=h2
 have h3:St w0 w2 (L.bl q s++((n1,Cs [J 0,J 0,J 0,J 0,J 0] 47)::H)):=h2.perm (qo fun c=>by simp only[List.map_append,List.map_cons,List.sum_append,List.sum_cons];omega)
 refine ZY h3 ⟨_,rfl,?_⟩
 simp only[qb]
 rw[qoe]
 have h4:=h3.drew
 refine⟨some q.ib,by rw[qa];exact h4.cell (k:=1) rfl,s.items.length,fun wq hx=>hL.its.len (VV hx (h4.get (k:=2) rfl)),s.ev,by rw[qa];exact h4.cell (k:=1) rfl,s.dr,by rw[qa];exact h4.cell (k:=1) rfl,_,qB4 _ _ _,?_⟩
 rw[q7y]
 refine h2.drew.newC fun n19 w20 hn19 h20=>h20.stA (k:=0) rfl rfl (by simp) (by simp[Value.oneCell']) fun w21 h21=>?_
 have h21:St w0 w21 ((n19,Cs [J s.items.length,J 0,J 0,J s.ev,J s.dr] 47)::(n1,Cs [J 0,J 0,J 0,J 0,J 0] 47)::(L.bl q s++H)):=h21
 rw[qnU]
 refine⟨some ⟨q.rb,0,none⟩,s.rows.length,s.rows.length,by rw[qa];exact h21.cell (k:=3) rfl,?_⟩
 have hcode:=hL.codeLen h
 have hfill:∀ i,0<=qZ s i/\qZ s i<=1000000000000:=fun i=>by
  unfold qZ
  have hb:=yD hcode ((s.rows[i]?).getD [])
  have hl:((s.rows[i]?).getD []).length<1000000:=by
   cases hi:s.rows[i]? with
   | none=>decide
   | some r=>exact hr r (List.mem_of_getElem? hi)
  unfold qM at hb
  omega
 have hrl:=hL.rl
 have hps:∀ j,j<=s.rows.length->0<=((List.range j).map (qZ s)).sum/\((List.range j).map (qZ s)).sum<=1000000000000000000:=fun j hj=>by
  have:=q19 (f:=qZ s) (B:=1000000000000) (fun x=>(hfill x).1) (fun x=>(hfill x).2) (List.range j)
  rw[List.length_range]at this
  omega
 refine⟨fun m e' w'=>∃ j:Nat,j<=s.rows.length/\m=s.rows.length-j/\e'=qh.mk 56 [(29,J j),(3,.pointer (some (Addr.mk n19 0 none))),(0,.pointer (some ⟨q.cb,0,none⟩)),(2,.pointer (some (Addr.mk n1 0 none))),(28,J s.rows.length)] []/\
  St w0 w' ((n19,Cs [J s.items.length,J ((List.range j).map (qZ s)).sum,J 0,J s.ev,J s.dr] 47)::(n1,Cs [J 0,J 0,J 0,J 0,J 0] 47)::(L.bl q s++H)),⟨_,0,by omega,rfl,rfl,h21⟩,?_⟩
 rintro m e' w' ⟨j,hj,rfl,rfl,hs⟩
 show qmQ ..
 rw[qfN,qe]
 refine⟨fun hlt=>?_,fun hge=>?_⟩
 ·have hlt:j<s.rows.length:=by have:=of_decide_eq_true hlt;omega
  rw[qp3]
  have h1:=hs.drew
  refine⟨_,by rw[qa];exact h1.cell (k:=0) rfl,?_⟩
  have h1':St w0 w'.drew (L.bl q s++((n19,Cs [J s.items.length,J ((List.range j).map (qZ s)).sum,J 0,J s.ev,J s.dr] 47)::(n1,Cs [J 0,J 0,J 0,J 0,J 0] 47)::H)):=h1.perm (qo fun c=>by simp only[List.map_append,List.map_cons,List.sum_append,List.sum_cons];omega)
  refine q3T h1' hL hlt (by have:=hr _ (List.getElem_mem hlt);omega) fun w39 h39=>⟨_,rfl,?_⟩
  have h40:St w0 w39 ((n19,Cs [J s.items.length,J ((List.range j).map (qZ s)).sum,J 0,J s.ev,J s.dr] 47)::(n1,Cs [J 0,J 0,J 0,J 0,J 0] 47)::(L.bl q s++H)):=h39.perm (qo fun c=>by simp only[List.map_append,List.map_cons,List.sum_append,List.sum_cons];omega)
  refine⟨by rw[qa];exact h40.cell (k:=0) rfl,?_⟩
  have hst:((List.range (j+1)).map (qZ s)).sum=((List.range j).map (qZ s)).sum+qZ s j:=by
   rw[List.range_succ,List.map_append,List.sum_append]
   show _+(_+0)=_
   rw[Int.add_zero]
  have b1:=hps j hj
  have b2:=hps (j+1) hlt
  rw[qa,qc om om,<-hst]
  refine h40.st1 (k:=0) rfl (by simp) rfl fun w41 h41=>?_
  rw[qoc]
  exact⟨s.rows.length-(j+1),by omega,j+1,by omega,rfl,by rw[qc om om];rfl,h41⟩
 ·have:j=s.rows.length:=by have:=of_decide_eq_false hge;omega
  subst this
  rw[qou]
  have hb:((List.range s.rows.length).map (qZ s)).sum=jL s:=rfl
  rw[hb]at hs
  refine⟨some q.hb,by rw[qa];exact hs.cell (k:=3) rfl,_,_,VT qvU (hs.get (k:=5) rfl),?_⟩
  have hit:=hs.le
  have h5:=hs.alloc (.mapIter (some q.hb) L.hclk #[] L.hclk)
  generalize w'.heap.size=it at hit h5
  refine q2P (es:=L.hes) (fun vis seen w1=>∃ ks:List Int,vis.map (·.key)=ks.map qBn/\St w0 w1 ((it,.mapIter (some q.hb) L.hclk seen L.hclk)::(n19,Cs [J s.items.length,J (jL s),J (ks.map (vK s)).sum,J s.ev,J s.dr] 47)::(n1,Cs [J 0,J 0,J 0,J 0,J 0] 47)::(L.bl q s++H)))
   ⟨[],rfl,h5⟩ ?_ ?_
  ·rintro vis seen w1 hv ⟨ks,hks,hs1⟩ Y
   show q6u ..
   rw[q0y]
   refine .inl ⟨w1,jJ (hs1.get (k:=0) rfl) (hs1.get (k:=6) rfl) hL.hm.st hv.over,?_⟩
   rw[qoB]
   have hperm:ks.Perm (s.hold.map (·.1)):=by
    have:=q9Y (fun a b h=>by injection h) hL.hm hv hks
    rw[List.map_map]at this
    rw[hL.hs,List.map_map]
    exact this
   have hsum:(ks.map (vK s)).sum=vM s:=qrI (hperm.map _)
   rw[hsum]at hs1
   refine hs1.ldA (k:=1) rfl (by simp) ?_
   refine hs1.stA (k:=2) rfl rfl (by simp) (by simp[Value.oneCell']) fun w64 h64=>h64.ldA (k:=2) rfl (by simp[zi]) ?_
   exact hK w64 (((h64.tail hit).tail hn19).tail hn1)
  ·rintro vis rem seen w1 hrr hv ⟨ks,hks,hs1⟩ Y hY
   show q6u ..
   rw[q0y]
   obtain⟨x,w2,he,hnb,hw2,hk2,hrun⟩:=jK (P:=P) (hs1.get (k:=0) rfl) (hs1.get (k:=6) rfl) hL.hm.st (hv.more hL.hm.st hrr)
   have h3:=(hs1.same hw2 hk2).put (k:=0) rfl (.mapIter (some q.hb) L.hclk (seen.push x.born) L.hclk)
   obtain⟨hh,hmem,hek,hev,hll⟩:=hL.entryH he
   refine .inr ⟨_,_,_,hrun,?_⟩
   rw[qop]
   have hbm:hh.blk∈((it,Obj.mapIter (some q.hb) L.hclk (seen.push x.born) L.hclk)::(n19,Cs [J s.items.length,J (jL s),J (ks.map (vK s)).sum,J s.ev,J s.dr] 47)::(n1,Cs [J 0,J 0,J 0,J 0,J 0] 47)::(L.bl q s++H)):=
    .tail _ (.tail _ (.tail _ (List.mem_append_left _ (.tail _ (.tail _ (.tail _ (.tail _ (.tail _ (List.mem_append_right _ (List.mem_append_left _ (List.mem_map.2 ⟨hh,hmem,rfl⟩)))))))))))
   have hlen:((yS hh.l).length:Int)=vK s hh.key:=by unfold vK;rw[hll];simp[yS]
   refine⟨x.key,x.val,_,Vw (h3.get (k:=0) rfl) (h3.get (k:=6) rfl) (by simp) (VM hL.hm.st he),some hh.b,hev,_,by rw[qa];exact h3.cell (k:=1) rfl,vK s hh.key,fun wq hx=>by rw[<-hlen];exact(hL.inn hh hmem).len (VV hx (h3.has _ _ hbm)) q88 _,?_⟩
   have hkl:ks.length+1<=s.hold.length:=by
    have h1:=qkP hv
    have h2:=congrArg List.length hks
    have h5:0<rem.length:=List.length_pos_iff.2 hrr
    rw[List.length_map,List.length_map]at h2
    have h6:=hL.hm.size
    rw[List.length_map]at h6
    rw[hL.hs,List.length_map]
    omega
   have h0:∀ c,0<=vK s c:=fun c=>by unfold vK;omega
   have b1:=q3a h0 hh2 ks
   have b2:=hh2 hh.key
   have b3:=h0 hh.key
   have hst:((ks++[hh.key]).map (vK s)).sum=(ks.map (vK s)).sum+vK s hh.key:=by
    rw[List.map_append,List.sum_append]
    show _+(_+0)=_
    rw[Int.add_zero]
   rw[qa,qc om om,<-hst]
   refine h3.st1 (k:=1) rfl (by simp) rfl fun w75 h75=>?_
   exact hY x w75 he hnb ⟨ks++[hh.key],by rw[List.map_append,hks];simp[hek],h75⟩
end Go.Fx.Tryz
namespace Go.Fx.Tryz
set_option maxRecDepth 100000
open Go Go.Fx Go.Proofs
def qD1:=ql Tryz.f117
def qHj:=Tryz.f117.results.toList
abbrev qj8 K:=qr P qHj K
def f117 a w K:=CS P qD1 none [2] [2] (qj8 K) (qw 9 [(VI a)]) w
def q4L a w K:=SG qD1 7 [2] [2] (qj8 K) 9 [(2,VB a)] w
theorem qgy:q4L a w K=(K (Value.bool a) w):=kr
theorem qzN:f117 a w K=(qm (a==40) (q4L true w K) (q4L (a==41) w K)):=kr
theorem qA7 a w K(h:f117 a w K):q9 P 117 [(Value.int .i64 a)] w K:=qy qD1 Tryz.func117 h
def qGi:=ql Tryz.f118
def qGk:=Tryz.f118.results.toList
abbrev qAb K:=qr P qGk K
def f118 a w K:=CS P qGi none [2] [2] (qAb K) (qw 5 [(Value.agg a)]) w
theorem qzf:f118 a w K=(qs a 119 w (fun d b=>qS 15 (Addr.mk d 0 none) b (fun e=>q9 P 157 [(Value.agg e),(Value.int .i64 12),(Value.int .i64 6)] b (fun f g=>∃ c:Bool,f=(.bool c)/\K (Value.bool c) g)))):=kr
theorem qxm a w K(h:f118 a w K):q9 P 118 [(Value.agg a)] w K:=qy qGi Tryz.func118 h
def jq:=ql Tryz.f119
def qIc:=Tryz.f119.results.toList
abbrev jE K:=qr P qIc K
def f119 a w K:=CS P jq none [2,3] [2,3] (jE K) (qw 121 [(VI a)]) w
def qkX a w K:=SC jq 1 [2,3] [2,3] (jE K) 121 [(0,VI a)] w
abbrev qvx K:=kq jq 1 [2,3] [2,3] (jE K)
def qhI a b w K:=SC jq 3 [2,3] [2,3] (jE K) 121 [(3,VB false),(2,VQ a),(0,VI b)] w
abbrev YO K:=kq jq 3 [2,3] [2,3] (jE K)
abbrev qxI K:=kq jq 6 [2] [2,3] (YO K)
def qla a b c w K:=SC jq 13 [2] [2,3] (YO K) 121 [(4,VI a),(3,VB false),(2,VQ b),(0,VI c)] w
abbrev yY K:=qn 0 (YO K)
abbrev qAq K:=kq jq 26 [2] [2,3] (yY K)
def q4F a b c w K:=SG jq 226492415 [2] [2,3] (yY K) 121 [(38,VB a),(2,VQ b),(4,VI c)] w
def q6E a b c w K:=SG jq 905969663 [2] [2,3] (yY K) 121 [(42,VB a),(2,VQ b),(4,VI c)] w
def q6g a b c w K:=SG jq 14843406974975 [2] [2,3] (yY K) 121 [(64,VB a),(2,VQ b),(4,VI c)] w
def q66 a b c w K:=SG jq 59373627899903 [2] [2,3] (yY K) 121 [(68,VB a),(2,VQ b),(4,VI c)] w
def q0m a b c w K:=SG jq 237494511599615 [2] [2,3] (yY K) 121 [(72,VB a),(2,VQ b),(4,VI c)] w
def q4p a b c w K:=SG jq 949978046398463 [2] [2,3] (yY K) 121 [(77,VB a),(2,VQ b),(4,VI c)] w
def q40 a b c w K:=SG jq 3799912185593855 [2] [2,3] (yY K) 121 [(81,VB a),(2,VQ b),(4,VI c)] w
def q0F a b c w K:=SG jq 15199648742375423 [2] [2,3] (yY K) 121 [(85,VB a),(2,VQ b),(4,VI c)] w
def q1l a b c w K:=SG jq 972777519512027135 [2] [2,3] (yY K) 121 [(95,VB a),(2,VQ b),(4,VI c)] w
def qrp a w K:=SG jq 7 [2,3] [2,3] (jE K) 121 [(2,VQ a)] w
theorem q8q:q1l d a c w K=(qm d (∃ e:Array Value,(∀ wq,(Instr.build 172 #[(4,(Value.int .i64 1)),(7,(Value.bool true))]).run P wq=.ok (.agg e) wq)/\zG 11 a e w (fun f=>qS 11 a f (fun u=>K (Value.tuple #[(Value.agg u),(Value.bool true)]) f))) (qm (c==36) (∃ g:Array Value,(∀ wq,(Instr.build 172 #[(0,(Value.bool true)),(3,(Value.int .i64 1))]).run P wq=.ok (.agg g) wq)/\zG 11 a g w (fun h=>qS 11 a h (fun v=>K (Value.tuple #[(Value.agg v),(Value.bool true)]) h))) (qm (c==37) (∃ i:Array Value,(∀ wq,(Instr.build 172 #[(4,(Value.int .i64 1)),(7,(Value.bool true)),(8,(Value.bool true))]).run P wq=.ok (.agg i) wq)/\zG 11 a i w (fun j=>qS 11 a j (fun x=>K (Value.tuple #[(Value.agg x),(Value.bool true)]) j))) (qm (c==38) (∃ k:Array Value,(∀ wq,(Instr.build 172 #[(7,(Value.bool true)),(8,(Value.bool true))]).run P wq=.ok (.agg k) wq)/\zG 11 a k w (fun l=>qS 11 a l (fun y=>K (Value.tuple #[(Value.agg y),(Value.bool true)]) l))) (qm (c==39) (∃ m:Array Value,(∀ wq,(Instr.build 172 #[(4,(Value.int .i64 1)),(7,(Value.bool true)),(8,(Value.bool true)),(9,(Value.bool true))]).run P wq=.ok (.agg m) wq)/\zG 11 a m w (fun n=>qS 11 a n (fun z=>K (Value.tuple #[(Value.agg z),(Value.bool true)]) n))) (qm (c==40) (∃ o:Array Value,(∀ wq,(Instr.build 172 #[(7,(Value.bool true)),(8,(Value.bool true)),(9,(Value.bool true))]).run P wq=.ok (.agg o) wq)/\zG 11 a o w (fun p=>qS 11 a p (fun a0=>K (Value.tuple #[(Value.agg a0),(Value.bool true)]) p))) (qm (c==41) (∃ q:Array Value,(∀ wq,(Instr.build 172 #[(4,(Value.int .i64 1)),(7,(Value.bool true))]).run P wq=.ok (.agg q) wq)/\zG 11 a q w (fun r=>qS 11 a r (fun b0=>K (Value.tuple #[(Value.agg b0),(Value.bool true)]) r))) (qm (c==43) (∃ s:Array Value,(∀ wq,(Instr.build 172 #[(3,(Value.int .i64 1)),(7,(Value.bool true))]).run P wq=.ok (.agg s) wq)/\zG 11 a s w (fun t=>qS 11 a t (fun c0=>K (Value.tuple #[(Value.agg c0),(Value.bool true)]) t))) (qrp a w K))))))))):=qz kr
theorem q7l:q0F d a c w K=(qm d (∃ e:Array Value,(∀ wq,(Instr.build 172 #[(4,(Value.int .i64 1)),(5,(Value.int .i64 2)),(8,(Value.bool true))]).run P wq=.ok (.agg e) wq)/\zG 11 a e w (fun f=>qS 11 a f (fun k=>K (Value.tuple #[(Value.agg k),(Value.bool true)]) f))) (qm (c==33) (∃ g:Array Value,(∀ wq,(Instr.build 172 #[(4,(Value.int .i64 1)),(5,(Value.int .i64 1)),(7,(Value.bool true)),(8,(Value.bool true))]).run P wq=.ok (.agg g) wq)/\zG 11 a g w (fun h=>qS 11 a h (fun l=>K (Value.tuple #[(Value.agg l),(Value.bool true)]) h))) (qm (c==34) (∃ i:Array Value,(∀ wq,(Instr.build 172 #[(0,(Value.bool true)),(3,(Value.int .i64 1)),(4,(Value.int .i64 1)),(5,(Value.int .i64 1)),(6,(Value.int .i64 1)),(8,(Value.bool true))]).run P wq=.ok (.agg i) wq)/\zG 11 a i w (fun j=>qS 11 a j (fun m=>K (Value.tuple #[(Value.agg m),(Value.bool true)]) j))) (qm (c==35) (q1l true a c w K) (q1l (c==42) a c w K))))):=qz kr
theorem qgz:q40 d a c w K=(qm d (∃ e:Array Value,(∀ wq,(Instr.build 172 #[(3,(Value.int .i64 2)),(4,(Value.int .i64 1)),(8,(Value.bool true))]).run P wq=.ok (.agg e) wq)/\zG 11 a e w (fun f=>qS 11 a f (fun g=>K (Value.tuple #[(Value.agg g),(Value.bool true)]) f))) (qm (c==27) (q0F true a c w K) (q0F (c==31) a c w K))):=qz kr
theorem qdR:q4p d a c w K=(qm d (∃ e:Array Value,(∀ wq,(Instr.build 172 #[(2,(Value.bool true)),(4,(Value.int .i64 1)),(5,(Value.int .i64 1)),(8,(Value.bool true))]).run P wq=.ok (.agg e) wq)/\zG 11 a e w (fun f=>qS 11 a f (fun g=>K (Value.tuple #[(Value.agg g),(Value.bool true)]) f))) (qm (c==26) (q40 true a c w K) (q40 (c==30) a c w K))):=qz kr
theorem qhh:q0m d a c w K=(qm d (∃ e:Array Value,(∀ wq,(Instr.build 172 #[(2,(Value.bool true)),(3,(Value.int .i64 1)),(4,(Value.int .i64 1)),(8,(Value.bool true))]).run P wq=.ok (.agg e) wq)/\zG 11 a e w (fun f=>qS 11 a f (fun g=>K (Value.tuple #[(Value.agg g),(Value.bool true)]) f))) (qm (c==25) (q4p true a c w K) (q4p (c==29) a c w K))):=qz kr
theorem qdy:q66 d c a w K=(qm d (∃ e:Array Value,(∀ wq,(Instr.build 172 #[(4,(Value.int .i64 2)),(7,(Value.bool true))]).run P wq=.ok (.agg e) wq)/\zG 11 c e w (fun f=>qS 11 c f (fun g=>K (Value.tuple #[(Value.agg g),(Value.bool true)]) f))) (qm (a==24) (q0m true c a w K) (qm (a==28) (q0m true c a w K) (q0m (a==32) c a w K)))):=qz kr
theorem qfT:q6g d a c w K=(qm d (∃ e:Array Value,(∀ wq,(Instr.build 172 #[(3,(Value.int .i64 2)),(7,(Value.bool true))]).run P wq=.ok (.agg e) wq)/\zG 11 a e w (fun f=>qS 11 a f (fun g=>K (Value.tuple #[(Value.agg g),(Value.bool true)]) f))) (qm (c==23) (q66 true a c w K) (q66 (c==44) a c w K))):=qz kr
theorem qeg:q6E d a c w K=(qm d (∃ e:Array Value,(∀ wq,(Instr.build 172 #[(3,(Value.int .i64 2)),(4,(Value.int .i64 1))]).run P wq=.ok (.agg e) wq)/\zG 11 a e w (fun f=>qS 11 a f (fun s=>K (Value.tuple #[(Value.agg s),(Value.bool true)]) f))) (qm (c==15) (∃ g:Array Value,(∀ wq,(Instr.build 172 #[(3,(Value.int .i64 1)),(4,(Value.int .i64 2)),(7,(Value.bool true))]).run P wq=.ok (.agg g) wq)/\zG 11 a g w (fun h=>qS 11 a h (fun t=>K (Value.tuple #[(Value.agg t),(Value.bool true)]) h))) (qm (c==16) (∃ i:Array Value,(∀ wq,(Instr.build 172 #[(3,(Value.int .i64 2)),(4,(Value.int .i64 2)),(5,(Value.int .i64 1)),(7,(Value.bool true))]).run P wq=.ok (.agg i) wq)/\zG 11 a i w (fun j=>qS 11 a j (fun u=>K (Value.tuple #[(Value.agg u),(Value.bool true)]) j))) (qm (c==18) (∃ k:Array Value,(∀ wq,(Instr.build 172 #[(3,(Value.int .i64 2)),(4,(Value.int .i64 1)),(5,(Value.int .i64 2)),(6,(Value.int .i64 2))]).run P wq=.ok (.agg k) wq)/\zG 11 a k w (fun l=>qS 11 a l (fun v=>K (Value.tuple #[(Value.agg v),(Value.bool true)]) l))) (qm (c==19) (∃ m:Array Value,(∀ wq,(Instr.build 172 #[(2,(Value.bool true)),(3,(Value.int .i64 1)),(7,(Value.bool true))]).run P wq=.ok (.agg m) wq)/\zG 11 a m w (fun n=>qS 11 a n (fun x=>K (Value.tuple #[(Value.agg x),(Value.bool true)]) n))) (qm (c==20) (∃ o:Array Value,(∀ wq,(Instr.build 172 #[(2,(Value.bool true)),(4,(Value.int .i64 1)),(7,(Value.bool true))]).run P wq=.ok (.agg o) wq)/\zG 11 a o w (fun p=>qS 11 a p (fun y=>K (Value.tuple #[(Value.agg y),(Value.bool true)]) p))) (qm (c==21) (∃ q:Array Value,(∀ wq,(Instr.build 172 #[(2,(Value.bool true)),(7,(Value.bool true)),(8,(Value.bool true))]).run P wq=.ok (.agg q) wq)/\zG 11 a q w (fun r=>qS 11 a r (fun z=>K (Value.tuple #[(Value.agg z),(Value.bool true)]) r))) (qm (c==22) (q6g true a c w K) (q6g (c==45) a c w K))))))))):=qz kr
theorem qdL:q4F d a c w K=(qm d (∃ e:Array Value,(∀ wq,(Instr.build 172 #[(3,(Value.int .i64 1)),(4,(Value.int .i64 2))]).run P wq=.ok (.agg e) wq)/\zG 11 a e w (fun f=>qS 11 a f (fun g=>K (Value.tuple #[(Value.agg g),(Value.bool true)]) f))) (qm (c==13) (q6E true a c w K) (q6E (c==14) a c w K))):=qz kr
theorem q1D:qla d c e w K=(qm (d==1) (∃ f:Array Value,(∀ wq,(Instr.build 172 #[(3,(Value.int .i64 1)),(8,(Value.bool true))]).run P wq=.ok (.agg f) wq)/\zG 11 c f w (fun g=>qS 11 c g (fun c0=>K (Value.tuple #[(Value.agg c0),(Value.bool true)]) g))) (qm (d==2) (∃ h:Array Value,(∀ wq,(Instr.build 172 #[(3,(Value.int .i64 1)),(4,(Value.int .i64 1))]).run P wq=.ok (.agg h) wq)/\zG 11 c h w (fun i=>qS 11 c i (fun d0=>K (Value.tuple #[(Value.agg d0),(Value.bool true)]) i))) (qm (d==3) (∃ j:Array Value,(∀ wq,(Instr.build 172 #[(0,(Value.bool true)),(3,(Value.int .i64 1)),(4,(Value.int .i64 1)),(5,(Value.int .i64 1))]).run P wq=.ok (.agg j) wq)/\zG 11 c j w (fun k=>qS 11 c k (fun e0=>K (Value.tuple #[(Value.agg e0),(Value.bool true)]) k))) (qm (d==4) (∃ l:Array Value,(∀ wq,(Instr.build 172 #[(0,(Value.bool true)),(3,(Value.int .i64 1)),(4,(Value.int .i64 1)),(8,(Value.bool true))]).run P wq=.ok (.agg l) wq)/\zG 11 c l w (fun m=>qS 11 c m (fun f0=>K (Value.tuple #[(Value.agg f0),(Value.bool true)]) m))) (qm (d==5) (∃ n:Array Value,(∀ wq,(Instr.build 172 #[(0,(Value.bool true)),(1,(Value.bool true)),(2,(Value.bool true)),(3,(Value.int .i64 1)),(4,(Value.int .i64 1))]).run P wq=.ok (.agg n) wq)/\zG 11 c n w (fun o=>qS 11 c o (fun g0=>K (Value.tuple #[(Value.agg g0),(Value.bool true)]) o))) (qm (d==6) (∃ p:Array Value,(∀ wq,(Instr.build 172 #[(3,(Value.int .i64 1)),(4,(Value.int .i64 1)),(5,(Value.int .i64 1)),(6,(Value.int .i64 1))]).run P wq=.ok (.agg p) wq)/\zG 11 c p w (fun q=>qS 11 c q (fun h0=>K (Value.tuple #[(Value.agg h0),(Value.bool true)]) q))) (qm (d==7) (∃ r:Array Value,(∀ wq,(Instr.build 172 #[(3,(Value.int .i64 2)),(10,(Value.bool true))]).run P wq=.ok (.agg r) wq)/\zG 11 c r w (fun s=>qS 11 c s (fun i0=>K (Value.tuple #[(Value.agg i0),(Value.bool true)]) s))) (qm (d==8) (∃ t:Array Value,(∀ wq,(Instr.build 172 #[(3,(Value.int .i64 2)),(4,(Value.int .i64 2))]).run P wq=.ok (.agg t) wq)/\zG 11 c t w (fun u=>qS 11 c u (fun j0=>K (Value.tuple #[(Value.agg j0),(Value.bool true)]) u))) (qm (d==9) (∃ v:Array Value,(∀ wq,(Instr.build 172 #[(0,(Value.bool true)),(3,(Value.int .i64 2)),(4,(Value.int .i64 2)),(5,(Value.int .i64 2))]).run P wq=.ok (.agg v) wq)/\zG 11 c v w (fun x=>qS 11 c x (fun l0=>K (Value.tuple #[(Value.agg l0),(Value.bool true)]) x))) (qm (d==10) (∃ y:Array Value,(∀ wq,(Instr.build 172 #[(0,(Value.bool true)),(3,(Value.int .i64 2)),(4,(Value.int .i64 2))]).run P wq=.ok (.agg y) wq)/\zG 11 c y w (fun z=>qS 11 c z (fun m0=>K (Value.tuple #[(Value.agg m0),(Value.bool true)]) z))) (qm (d==11) (∃ a0:Array Value,(∀ wq,(Instr.build 172 #[(0,(Value.bool true)),(3,(Value.int .i64 1)),(4,(Value.int .i64 2)),(5,(Value.int .i64 2))]).run P wq=.ok (.agg a0) wq)/\zG 11 c a0 w (fun b0=>qS 11 c b0 (fun n0=>K (Value.tuple #[(Value.agg n0),(Value.bool true)]) b0))) (qm (d==12) (q4F true c d w K) (q4F (d==17) c d w K))))))))))))):=Eq.trans (b:=CS P (cA jq 13) none [2] [2,3] (YO K) (qh.mk 121 [(4,(VI d)),(3,(VB false)),(2,(VP (some c))),(0,(VI e))] []) w) kr (Eq.trans (Qx 0 [2,3] (yY K) kr) (Eq.trans (qU [5,2,4] (qAq K) kr) kr))
theorem qhe:qhI d c w K=(qla c d c w K):=Eq.trans (b:=CS P (cA jq 3) none [2,3] [2,3] (jE K) (qh.mk 121 [(3,(VB false)),(2,(VP (some d))),(0,(VI c))] []) w) kr (Eq.trans (qU [2] (YO K) kr) (Eq.trans (qU [2,4] (qxI K) kr) kr))
theorem qfS:qkX c w K=(qs (qv P 172) 172 w (fun d e=>qhI (Addr.mk d 0 none) c e K)):=Eq.trans (b:=CS P (cA jq 1) none [2,3] [2,3] (jE K) (qh.mk 121 [(0,(VI c))] []) w) kr (Eq.trans (qU [2,0] (qvx K) kr) kr)
theorem qBB:f119 a w K=(qkX a w K):=kr
theorem qvY a w K(h:f119 a w K):q9 P 119 [(Value.int .i64 a)] w K:=qy jq Tryz.func119 h
def q7e:=ql Tryz.f120
def qI8:=Tryz.f120.results.toList
abbrev q5p K:=qr P qI8 K
def f120 a b w K:=CS P q7e none [4] [4] (q5p K) (qw 22 [(Value.int .u32 a),(VI b)]) w
abbrev qy9 K:=kq q7e 7 [4] [4] (q5p K)
abbrev qjt K:=qn 0 (qy9 K)
def qrm K Y0 e w:=zh (fun e w=>CS P (cA q7e 116) none [6,0,5,4,1] [4,5] (qt [6,0,5,4,1] Y0 (qjt K)) e w) e w
abbrev q2b K Y0:=qt [6,0,5,4,1] Y0 (qjt K)
def q7p a b c d f g h i j w K Y0:=SG q7e 116 [6,0,5,4,1] [4,5] (q2b K Y0) 22 [(6,VI a),(0,Value.int .u32 b),(5,VS c d f),(4,VS g h i),(1,VI j)] w
def qjX a b c d f g h i j w K Y0:=SG q7e 233 [6,0,5,4,1] [4,5] (q2b K Y0) 22 [(0,Value.int .u32 a),(4,VS b c d),(1,VI f),(6,VI g),(5,VS h i j)] w
def qmo a b c d f g h i j w K Y0:=SG q7e 467 [6,0,5,4,1] [4,5] (q2b K Y0) 22 [(0,Value.int .u32 a),(5,VS b c d),(4,VS f g h),(1,VI i),(6,VI j)] w
theorem qc1:qmo a b c d e f g h i w K Y0=(Y0 (qh.mk 22 [(6,(Value.int .i64 (IntKind.wrap .i64 (i+1)))),(0,(Value.int .u32 a)),(5,(Value.slice b c d)),(4,(Value.slice e f g)),(1,(Value.int .i64 h))] []) w):=kr
theorem qex:qjX b c d e f a g h i w K Y0=(0<=(IntKind.wrap .u64 (IntKind.wrap .i64 ((8:Int)*a)))/\qE 1 [(Value.int .u8 (IntKind.wrap .u8 (b.fdiv (2 ^ (min (Int.toNat (IntKind.wrap .u64 (IntKind.wrap .i64 ((8:Int)*a)))) (IntKind.bits .u32))))))]/\qs (([(Value.int .u8 (IntKind.wrap .u8 (b.fdiv (2 ^ (min (Int.toNat (IntKind.wrap .u64 (IntKind.wrap .i64 ((8:Int)*a)))) (IntKind.bits .u32))))))].map fun(v:Value)=>v.cells.toList).flatten.toArray) 5 w (fun n o=>∃ (j:OA) (k l:Nat),∃ m:World,(Builtin.append_ #[38,38] 38 #[(Value.slice g h i),(Value.slice (some (Addr.mk n 0 none)) 1 1)]).run P o=.ok (.slice j k l) m/\qmo b j k l c d e f a m K Y0)):=kr
def qlJ a b c w K:=SG q7e 15 [4] [4] (q5p K) 22 [(5,VS a b c)] w
theorem qhi:qlJ a b c w K=(K (Value.slice a b c) w):=kr
theorem q7w:q7p a f b c d g h i e w K Y0=(qm (decide (a<e)) (qjX f g h i e a b c d w K Y0) (qlJ b c d w K)):=kr
theorem qy8:f120 a b w K=(qH (qrm K) (qh.mk 22 [(6,(Value.int .i64 0)),(0,(Value.int .u32 a)),(5,(Value.slice none 0 0)),(4,(Value.slice none 0 0)),(1,(Value.int .i64 b))] []) w):=kr
theorem qw8 a b w K(h:f120 a b w K):q9 P 120 [(Value.int .u32 a),(Value.int .i64 b)] w K:=qy q7e Tryz.func120 h
def qtZ:=ql Tryz.f180
def qHU:=Tryz.f180.results.toList
abbrev q6C K:=qr P qHU K
def f180 a w K:=CS P qtZ none [2,3] [2,3] (q6C K) (qw 23 [(Value.agg a)]) w
abbrev qB5 K:=kq qtZ 7 [2,3] [2,3] (q6C K)
def q5U a b c d w K:=SG qtZ 29 [2,5,4] [2,3] (qB5 K) 23 [(19,VB a),(2,VQ b),(5,VB c),(4,VQ d)] w
def q4z a b c w K:=SG qtZ 15 [2,3] [2,3] (q6C K) 23 [(2,VQ a),(5,VB b),(4,VQ c)] w
theorem qbq:q4z a b c w K=(qS 11 c w (fun e=>zG 11 a e w (fun d=>qS 11 a d (fun f=>K (Value.tuple #[(Value.agg f),(Value.bool b)]) d)))):=kr
theorem qcH:q5U d b c a w K=(qm d (zF (a.add 6) (Value.int .i64 0) w (fun e=>q4z b c a e K)) (q4z b c a w K)):=kr
theorem qw6:f180 e w K=(qs e 119 w (fun b l=>qs (qv P 172) 172 l (fun f g=>∃ h:Int,g.cell? (Addr.mk b 0 none)=some (.int .i64 h)/\q9 P 119 [(Value.int .i64 h)] g (fun m n=>∃ i:Array Value,∃ c:Bool,m=(.tuple #[(Value.agg i),(Value.bool c)])/\qs (qv P 172) 172 n (fun d o=>zG 11 (Addr.mk d 0 none) i o (fun a=>∃ j:Int,a.cell? (Addr.mk b 0 none)=some (.int .i64 j)/\qm (j==34) (∃ k:Int,a.cell? ((Addr.mk b 0 none).add 1)=some (.int .i64 k)/\q5U (k != 0) (Addr.mk f 0 none) c (Addr.mk d 0 none) a K) (q5U false (Addr.mk f 0 none) c (Addr.mk d 0 none) a K))))))):=kr
theorem qwS a w K(h:f180 a w K):q9 P 180 [(Value.agg a)] w K:=qy qtZ Tryz.func180 h
def jN:=ql Tryz.f181
def qI5:=Tryz.f181.results.toList
abbrev j6 K:=qr P qI5 K
def f181 a w K:=CS P jN none [2] [2] (j6 K) (qw 83 [(Value.agg a)]) w
def qk2 a w K:=SC jN 1 [2] [2] (j6 K) 83 [(0,Value.agg a)] w
abbrev qzU K:=kq jN 1 [2] [2] (j6 K)
def qln a b w K:=SC jN 3 [2] [2] (j6 K) 83 [(2,VB false),(1,VQ a),(0,Value.agg b)] w
abbrev Yn K:=kq jN 3 [2] [2] (j6 K)
abbrev qBw K:=kq jN 6 [1] [2] (Yn K)
def qlb a b c d w K:=SC jN 13 [1] [2] (Yn K) 83 [(4,VI a),(3,VQ b),(2,VB false),(1,VQ c),(0,Value.agg d)] w
abbrev jv K:=qn 0 (Yn K)
abbrev qmU K:=kq jN 26 [1] [2,1] (jv K)
abbrev qxK K:=kq jN 52 [5,1,4] [2,1] (qmU K)
def q4l a b c w K:=SG jN 53 [1] [2,1] (jv K) 83 [(5,VB a),(1,VQ b),(4,VI c)] w
def JK a b w K:=SG jN 861 [1] [2,1] (jv K) 83 [(2,VB a),(1,VQ b)] w
def qjY a b w K:=SG jN 3453 [1] [2,1] (jv K) 83 [(2,VB a),(1,VQ b)] w
def qjg a b w K:=SG jN 13821 [1] [2,1] (jv K) 83 [(2,VB a),(1,VQ b)] w
def qi9 a b w K:=SG jN 55293 [1] [2,1] (jv K) 83 [(2,VB a),(1,VQ b)] w
def qjP a b w K:=SG jN 884733 [1] [2,1] (jv K) 83 [(2,VB a),(1,VQ b)] w
def qli a w K:=SG jN 7 [2] [2] (j6 K) 83 [(1,VQ a)] w
abbrev qru K:=kq jN 7 [2] [2] (j6 K)
theorem qcF:qli c w K=(∃ d:Int,w.cell? (c.add 1)=some (.int .i64 d)/\K (Value.bool (d==0)) w):=qz (qB [2] (qru K) kr)
theorem qcD:q4l e a d w K=(qm e (∃ g:Int,w.cell? (a.add 1)=some (.int .i64 g)/\q9 P 190 [(Value.int .i64 g),(Value.int .i64 1),(Value.int .i64 19)] w (fun e0 f0=>∃ h:Bool,e0=(.bool h)/\K (Value.bool h) f0)) (qm (d==5) (∃ i:Int,w.cell? (a.add 1)=some (.int .i64 i)/\q9 P 190 [(Value.int .i64 i),(Value.int .i64 1),(Value.int .i64 7)] w (fun g0 c=>∃ j:Bool,g0=(.bool j)/\qm j (∃ k:Int,c.cell? (a.add 2)=some (.int .i64 k)/\qm (k != 128) (∃ l:Int,c.cell? (a.add 3)=some (.int .i64 l)/\qm (l != 128) (∃ m:Int,c.cell? (a.add 1)=some (.int .i64 m)/\∃ n:Int,c.cell? (a.add 2)=some (.int .i64 n)/\∃ o:Int,c.cell? (a.add 3)=some (.int .i64 o)/\q9 P 191 [(Value.int .i64 m),(Value.int .i64 n),(Value.int .i64 o),(Value.int .i64 0)] c (fun h0 i0=>∃ p:Bool,h0=(.bool p)/\JK p a i0 K)) (JK false a c K)) (JK false a c K)) (JK false a c K))) (qm (d==9) (∃ q:Int,w.cell? (a.add 1)=some (.int .i64 q)/\q9 P 190 [(Value.int .i64 q),(Value.int .i64 8),(Value.int .i64 10)] w (fun j0 f=>∃ r:Bool,j0=(.bool r)/\qm r (qjY true a f K) (∃ s:Int,f.cell? (a.add 1)=some (.int .i64 s)/\q9 P 190 [(Value.int .i64 s),(Value.int .i64 20),(Value.int .i64 29)] f (fun l0 m0=>∃ t:Bool,l0=(.bool t)/\qjY t a m0 K)))) (qm (d==10) (∃ u:Int,w.cell? (a.add 1)=some (.int .i64 u)/\qm (u==1) (qjg true a w K) (∃ v:Int,w.cell? (a.add 1)=some (.int .i64 v)/\q9 P 190 [(Value.int .i64 v),(Value.int .i64 8),(Value.int .i64 10)] w (fun n0 o0=>∃ x:Bool,n0=(.bool x)/\qjg x a o0 K))) (qm (d==11) (∃ y:Int,w.cell? (a.add 1)=some (.int .i64 y)/\qm (y==14) (qi9 true a w K) (∃ z:Int,w.cell? (a.add 1)=some (.int .i64 z)/\qi9 (z==15) a w K)) (qm (d==34) (∃ a0:Int,w.cell? (a.add 1)=some (.int .i64 a0)/\q9 P 190 [(Value.int .i64 a0),(Value.int .i64 0),(Value.int .i64 2)] w (fun p0 q0=>∃ b0:Bool,p0=(.bool b0)/\K (Value.bool b0) q0)) (qm (d==36) (∃ c0:Int,w.cell? (a.add 1)=some (.int .i64 c0)/\qm (c0==1) (qjP true a w K) (∃ d0:Int,w.cell? (a.add 1)=some (.int .i64 d0)/\qjP (d0==2) a w K)) (qli a w K)))))))):=qz kr
theorem qd7:qlb c e d f w K=(qm (c==3) (q4l true d c w K) (q4l (c==4) d c w K)):=Eq.trans (b:=CS P (cA jN 13) none [1] [2] (Yn K) (qh.mk 83 [(4,(VI c)),(3,(VP (some e))),(2,(VB false)),(1,(VP (some d))),(0,(Value.agg f))] []) w) kr (Eq.trans (Qx 0 [2,1] (jv K) kr) (Eq.trans (qU [5,1,4] (qmU K) kr) (Eq.trans (qU [5,1,4] (qxK K) kr) kr)))
theorem qep:qln c d w K=(∃ e:Int,w.cell? c=some (.int .i64 e)/\qlb e c c d w K):=Eq.trans (b:=CS P (cA jN 3) none [2] [2] (j6 K) (qh.mk 83 [(2,(VB false)),(1,(VP (some c))),(0,(Value.agg d))] []) w) kr (Eq.trans (qU [1] (Yn K) kr) (Eq.trans (qU [1,4] (qBw K) kr) kr))
theorem qbt:qk2 c w K=(qs c 119 w (fun d e=>qln (Addr.mk d 0 none) c e K)):=Eq.trans (b:=CS P (cA jN 1) none [2] [2] (j6 K) (qh.mk 83 [(0,(Value.agg c))] []) w) kr (Eq.trans (qU [1] (qzU K) kr) kr)
theorem qxk:f181 a w K=(qk2 a w K):=kr
theorem qAQ a w K(h:f181 a w K):q9 P 181 [(Value.agg a)] w K:=qy jN Tryz.func181 h
def Zu:=ql Tryz.f182
def qHl:=Tryz.f182.results.toList
abbrev j9 K:=qr P qHl K
def f182 a w K:=CS P Zu none [2] [2] (j9 K) (qw 26 [(Value.agg a)]) w
def qlr a w K:=SC Zu 1 [2] [2] (j9 K) 26 [(0,Value.agg a)] w
abbrev qAj K:=kq Zu 1 [2] [2] (j9 K)
def qmA a b w K:=SC Zu 3 [2] [2] (j9 K) 26 [(2,VB false),(1,VQ a),(0,Value.agg b)] w
abbrev YK K:=kq Zu 3 [2] [2] (j9 K)
abbrev qxz K:=kq Zu 6 [1] [2] (YK K)
def qlB a b c d w K:=SC Zu 13 [1] [2] (YK K) 26 [(4,VI a),(3,VQ b),(2,VB false),(1,VQ c),(0,Value.agg d)] w
abbrev q50 K:=qn 0 (YK K)
abbrev qlp K:=kq Zu 26 [1] [2,1] (q50 K)
abbrev qvD K:=kq Zu 52 [5,1,4] [2,1] (qlp K)
def jH a b c w K:=SG Zu 53 [1] [2,1] (q50 K) 26 [(5,VB a),(1,VQ b),(4,VI c)] w
def qkR a w K:=SG Zu 7 [2] [2] (j9 K) 26 [(1,VQ a)] w
abbrev qr0 K:=kq Zu 7 [2] [2] (j9 K)
theorem qdf:qkR c w K=(∃ d:Int,w.cell? (c.add 3)=some (.int .i64 d)/\K (Value.bool (d==0)) w):=qz (qB [2] (qr0 K) kr)
theorem qds:jH d a c w K=(qm d (∃ e:Int,w.cell? (a.add 3)=some (.int .i64 e)/\q9 P 192 [(Value.int .i64 e)] w (fun i j=>∃ f:Bool,i=(.bool f)/\K (Value.bool f) j)) (qm (c==32) (∃ g:Int,w.cell? (a.add 3)=some (.int .i64 g)/\q9 P 193 [(Value.int .i64 g)] w (fun k l=>∃ h:Bool,k=(.bool h)/\K (Value.bool h) l)) (qm (c==5) (K (Value.bool true) w) (qkR a w K)))):=qz kr
theorem qfj:qlB c e d f w K=(qm (c==19) (jH true d c w K) (qm (c==20) (jH true d c w K) (qm (c==21) (jH true d c w K) (qm (c==24) (jH true d c w K) (qm (c==25) (jH true d c w K) (qm (c==28) (jH true d c w K) (jH (c==29) d c w K))))))):=Eq.trans (b:=CS P (cA Zu 13) none [1] [2] (YK K) (qh.mk 26 [(4,(VI c)),(3,(VP (some e))),(2,(VB false)),(1,(VP (some d))),(0,(Value.agg f))] []) w) kr (Eq.trans (Qx 0 [2,1] (q50 K) kr) (Eq.trans (qU [5,1,4] (qlp K) kr) (Eq.trans (qU [5,1,4] (qvD K) kr) kr)))
theorem qet:qmA c d w K=(∃ e:Int,w.cell? c=some (.int .i64 e)/\qlB e c c d w K):=Eq.trans (b:=CS P (cA Zu 3) none [2] [2] (j9 K) (qh.mk 26 [(2,(VB false)),(1,(VP (some c))),(0,(Value.agg d))] []) w) kr (Eq.trans (qU [1] (YK K) kr) (Eq.trans (qU [1,4] (qxz K) kr) kr))
theorem qfx:qlr c w K=(qs c 119 w (fun d e=>qmA (Addr.mk d 0 none) c e K)):=Eq.trans (b:=CS P (cA Zu 1) none [2] [2] (j9 K) (qh.mk 26 [(0,(Value.agg c))] []) w) kr (Eq.trans (qU [1] (qAj K) kr) kr)
theorem qys:f182 a w K=(qlr a w K):=kr
theorem qBc a w K(h:f182 a w K):q9 P 182 [(Value.agg a)] w K:=qy Zu Tryz.func182 h
def j7:=ql Tryz.f183
def qI0:=Tryz.f183.results.toList
abbrev vV K:=qr P qI0 K
def f183 a w K:=CS P j7 none [2] [2] (vV K) (qw 84 [(Value.agg a)]) w
def qj2 a w K:=SC j7 1 [2] [2] (vV K) 84 [(0,Value.agg a)] w
abbrev qwA K:=kq j7 1 [2] [2] (vV K)
def qiA a b w K:=SC j7 3 [2] [2] (vV K) 84 [(2,VB false),(1,VQ a),(0,Value.agg b)] w
abbrev Yo K:=kq j7 3 [2] [2] (vV K)
abbrev qx4 K:=kq j7 6 [1] [2] (Yo K)
def qhu a b c d w K:=SC j7 13 [1] [2] (Yo K) 84 [(4,VI a),(3,VQ b),(2,VB false),(1,VQ c),(0,Value.agg d)] w
abbrev v8 K:=qn 0 (Yo K)
abbrev qjc K:=kq j7 26 [1] [2,1] (v8 K)
abbrev qAI K:=kq j7 52 [5,1,4] [2,1] (qjc K)
def q4b a b c w K:=SG j7 53 [1] [2,1] (v8 K) 84 [(5,VB a),(1,VQ b),(4,VI c)] w
def JY a b c w K:=SG j7 215 [1] [2,1] (v8 K) 84 [(11,VB a),(1,VQ b),(4,VI c)] w
def q4o a b c w K:=SG j7 863 [1] [2,1] (v8 K) 84 [(20,VB a),(1,VQ b),(4,VI c)] w
def qiM a b w K:=SG j7 221181 [1] [2,1] (v8 K) 84 [(2,VB a),(1,VQ b)] w
def qlG a b w K:=SG j7 884733 [1] [2,1] (v8 K) 84 [(2,VB a),(1,VQ b)] w
def q03 a b c w K:=SG j7 884735 [1] [2,1] (v8 K) 84 [(56,VB a),(1,VQ b),(4,VI c)] w
def q6k a b c w K:=SG j7 3538943 [1] [2,1] (v8 K) 84 [(63,VB a),(1,VQ b),(4,VI c)] w
def q1w a b w K:=SG j7 14155775 [1] [2,1] (v8 K) 84 [(69,VB a),(1,VQ b)] w
def q7z a b w K:=SG j7 56623101 [1] [2,1] (v8 K) 84 [(2,VB a),(1,VQ b)] w
def q8h a w K:=SG j7 7 [2] [2] (vV K) 84 [(1,VQ a)] w
abbrev qtT K:=kq j7 7 [2] [2] (vV K)
theorem Jh:q8h c w K=(∃ d:Int,w.cell? (c.add 8)=some (.int .i64 d)/\K (Value.bool (d==0)) w):=qz (qB [2] (qtT K) kr)
theorem J9:q1w c a w K=(qm c (∃ e:Int,w.cell? (a.add 8)=some (.int .i64 e)/\q9 P 190 [(Value.int .i64 e),(Value.int .i64 0),(Value.int .i64 508)] w (fun h d=>∃ f:Bool,h=(.bool f)/\qm f (∃ g:Int,d.cell? (a.add 8)=some (.int .i64 g)/\(4:Int)≠0/\q7z (((g.tmod 4):Int)==0) a d K) (q7z false a d K))) (q8h a w K)):=qz kr
theorem q2K:q6k d a c w K=(qm d (∃ e:Int,w.cell? (a.add 8)=some (.int .i64 e)/\q9 P 190 [(Value.int .i64 e),(Value.int .i64 0),(Value.int .i64 511)] w (fun g h=>∃ f:Bool,g=(.bool f)/\K (Value.bool f) h)) (qm (c==44) (q1w true a w K) (q1w (c==45) a w K))):=qz kr
theorem q2C:q03 d c a w K=(qm d (∃ e:Int,w.cell? (c.add 8)=some (.int .i64 e)/\q9 P 190 [(Value.int .i64 e),(Value.int .i64 1),(Value.int .i64 9)] w (fun g h=>∃ f:Bool,g=(.bool f)/\K (Value.bool f) h)) (qm (a==42) (q6k true c a w K) (q6k (a==43) c a w K))):=qz kr
theorem q1U:q4o d a c w K=(qm d (∃ f:Int,w.cell? (a.add 8)=some (.int .i64 f)/\q9 P 194 [(Value.int .i64 f),(Value.int .i64 128)] w (fun q r=>∃ g:Bool,q=(.bool g)/\K (Value.bool g) r)) (qm (c==33) (∃ h:Int,w.cell? (a.add 8)=some (.int .i64 h)/\q9 P 190 [(Value.int .i64 h),(Value.int .i64 1),(Value.int .i64 16)] w (fun s t=>∃ i:Bool,s=(.bool i)/\K (Value.bool i) t)) (qm (c==35) (∃ j:Int,w.cell? (a.add 8)=some (.int .i64 j)/\q9 P 190 [(Value.int .i64 j),(Value.int .i64 0),(Value.int .i64 7)] w (fun u v=>∃ k:Bool,u=(.bool k)/\K (Value.bool k) v)) (qm (c==37) (∃ l:Int,w.cell? (a.add 8)=some (.int .i64 l)/\q9 P 190 [(Value.int .i64 l),(Value.int .i64 0),(Value.int .i64 8)] w (fun x e=>∃ m:Bool,x=(.bool m)/\qm m (∃ n:Int,e.cell? (a.add 9)=some (.int .u32 n)/\qiM (decide (n<=1000000)) a e K) (qiM false a e K))) (qm (c==38) (∃ o:Int,w.cell? (a.add 8)=some (.int .i64 o)/\qm (o==4) (qlG true a w K) (∃ p:Int,w.cell? (a.add 8)=some (.int .i64 p)/\qlG (p==8) a w K)) (qm (c==39) (q03 true a c w K) (qm (c==40) (q03 true a c w K) (q03 (c==41) a c w K)))))))):=qz kr
theorem q1P:JY d a c w K=(qm d (∃ e:Int,w.cell? (a.add 8)=some (.int .i64 e)/\∃ f:Int,w.cell? (a.add 3)=some (.int .i64 f)/\q9 P 194 [(Value.int .i64 e),(Value.int .i64 f)] w (fun h i=>∃ g:Bool,h=(.bool g)/\K (Value.bool g) i)) (qm (c==22) (q4o true a c w K) (q4o (c==23) a c w K))):=qz kr
theorem q1b:q4b d c a w K=(qm d (∃ e:Int,w.cell? (c.add 8)=some (.int .i64 e)/\q9 P 190 [(Value.int .i64 e),(Value.int .i64 0),(Value.int .i64 3)] w (fun g h=>∃ f:Bool,g=(.bool f)/\K (Value.bool f) h)) (qm (a==19) (JY true c a w K) (qm (a==20) (JY true c a w K) (JY (a==21) c a w K)))):=qz kr
theorem q0E:qhu c e d f w K=(qm (c==15) (q4b true d c w K) (q4b (c==16) d c w K)):=Eq.trans (b:=CS P (cA j7 13) none [1] [2] (Yo K) (qh.mk 84 [(4,(VI c)),(3,(VP (some e))),(2,(VB false)),(1,(VP (some d))),(0,(Value.agg f))] []) w) kr (Eq.trans (Qx 0 [2,1] (v8 K) kr) (Eq.trans (qU [5,1,4] (qjc K) kr) (Eq.trans (qU [5,1,4] (qAI K) kr) kr)))
theorem qf2:qiA c d w K=(∃ e:Int,w.cell? c=some (.int .i64 e)/\qhu e c c d w K):=Eq.trans (b:=CS P (cA j7 3) none [2] [2] (vV K) (qh.mk 84 [(2,(VB false)),(1,(VP (some c))),(0,(Value.agg d))] []) w) kr (Eq.trans (qU [1] (Yo K) kr) (Eq.trans (qU [1,4] (qx4 K) kr) kr))
theorem qen:qj2 c w K=(qs c 119 w (fun d e=>qiA (Addr.mk d 0 none) c e K)):=Eq.trans (b:=CS P (cA j7 1) none [2] [2] (vV K) (qh.mk 84 [(0,(Value.agg c))] []) w) kr (Eq.trans (qU [1] (qwA K) kr) kr)
theorem qw5:f183 a w K=(qj2 a w K):=kr
theorem qyT a w K(h:f183 a w K):q9 P 183 [(Value.agg a)] w K:=qy j7 Tryz.func183 h
def qg1:=ql Tryz.f184
def qIz:=Tryz.f184.results.toList
abbrev V9 K:=qr P qIz K
def f184 a b c d w K:=CS P qg1 none [8] [8] (V9 K) (qw 29 [(VI a),(VI b),(VI c),(VI d)]) w
def qkz a b c d w K:=SG qg1 7 [8] [8] (V9 K) 29 [(3,VI a),(0,VI b),(2,VI c),(1,VI d)] w
abbrev qvl K:=kq qg1 7 [8] [8] (V9 K)
def qj6 a w K:=SG qg1 117 [2,0] [8] (qvl K) 29 [(8,VB a)] w
def qiO a b w K:=SG qg1 15 [8] [8] (V9 K) 29 [(2,VI a),(0,VI b)] w
def q4Y a w K:=SG qg1 31 [8] [8] (V9 K) 29 [(8,VB a)] w
theorem qcB:q4Y a w K=(K (Value.bool a) w):=kr
theorem qeK:qiO b a w K=(qm (decide (a>=0)) (q4Y (decide (a<b)) w K) (q4Y false w K)):=kr
theorem qfy:qkz b a c d w K=(qm (d==2) (qm (decide (a>=0)) (qj6 (decide (a<b)) w K) (qj6 false w K)) (qiO c a w K)):=kr
theorem qAK:f184 a b c d w K=(qm (b==0) (K (Value.bool (a==0)) w) (qkz d a c b w K)):=kr
theorem qAZ a b c d w K(h:f184 a b c d w K):q9 P 184 [(Value.int .i64 a),(Value.int .i64 b),(Value.int .i64 c),(Value.int .i64 d)] w K:=qy qg1 Tryz.func184 h
def qFy:=ql Tryz.f190
def qHF:=Tryz.f190.results.toList
abbrev qju K:=qr P qHF K
def f190 a b c w K:=CS P qFy none [6] [6] (qju K) (qw 15 [(VI a),(VI b),(VI c)]) w
def q4H a w K:=SG qFy 7 [6] [6] (qju K) 15 [(6,VB a)] w
theorem qgG:q4H a w K=(K (Value.bool a) w):=kr
theorem qx9:f190 a b c w K=(qm (decide (a>=b)) (q4H (decide (a<=c)) w K) (q4H false w K)):=kr
theorem qxj a b c w K(h:f190 a b c w K):q9 P 190 [(Value.int .i64 a),(Value.int .i64 b),(Value.int .i64 c)] w K:=qy qFy Tryz.func190 h
def jr:=ql Tryz.f157
def qHw:=Tryz.f157.results.toList
abbrev jB K:=qr P qHw K
def f157 a b c w K:=CS P jr none [6] [6] (jB K) (qw 104 [(Value.agg a),(VI b),(VI c)]) w
abbrev qzI K:=kq jr 7 [6] [6] (jB K)
def YC a b c d f w K:=SG jr 29 [2,1,7,3] [6] (qzI K) 104 [(30,VB a),(2,VI b),(1,VI c),(7,VQ d),(3,VQ f)] w
def JO a b c d w K:=SG jr 15 [6] [6] (jB K) 104 [(2,VI a),(1,VI b),(7,VQ c),(3,VQ d)] w
abbrev q0p K:=kq jr 15 [6] [6] (jB K)
abbrev Zt K:=kq jr 30 [2,1,7,3] [6] (q0p K)
def JJ a b c d f w K:=SG jr 61 [2,1,7,3] [6] (q0p K) 104 [(69,VB a),(2,VI b),(1,VI c),(7,VQ d),(3,VQ f)] w
def qhG a b c d w K:=SG jr 31 [6] [6] (jB K) 104 [(2,VI a),(1,VI b),(7,VQ c),(3,VQ d)] w
def YR a w K:=SG jr 63 [6] [6] (jB K) 104 [(6,VB a)] w
theorem qbX:YR a w K=(K (Value.bool a) w):=kr
theorem qfG:qhG a b c d w K=(∃ h:Int,w.cell? (d.add 4)=some (.int .i64 h)/\∃ i:Int,w.cell? (c.add 3)=some (.int .i64 i)/\q9 P 184 [(Value.int .i64 h),(Value.int .i64 i),(Value.int .i64 b),(Value.int .i64 a)] w (fun t e=>∃ j:Bool,t=(.bool j)/\qm j (∃ k:Int,e.cell? (d.add 5)=some (.int .i64 k)/\∃ l:Int,e.cell? (c.add 4)=some (.int .i64 l)/\q9 P 184 [(Value.int .i64 k),(Value.int .i64 l),(Value.int .i64 b),(Value.int .i64 a)] e (fun u f=>∃ m:Bool,u=(.bool m)/\qm m (∃ n:Int,f.cell? (d.add 6)=some (.int .i64 n)/\∃ o:Int,f.cell? (c.add 5)=some (.int .i64 o)/\q9 P 184 [(Value.int .i64 n),(Value.int .i64 o),(Value.int .i64 b),(Value.int .i64 a)] f (fun v g=>∃ p:Bool,v=(.bool p)/\qm p (∃ q:Int,g.cell? (d.add 7)=some (.int .i64 q)/\∃ r:Int,g.cell? (c.add 6)=some (.int .i64 r)/\q9 P 184 [(Value.int .i64 q),(Value.int .i64 r),(Value.int .i64 b),(Value.int .i64 a)] g (fun x y=>∃ s:Bool,x=(.bool s)/\YR s y K)) (YR false g K))) (YR false f K))) (YR false e K))):=kr
theorem qfo:JJ a b c d e w K=(qm a (K (Value.bool false) w) (qhG b c d e w K)):=kr
theorem qg8:YC a b c d e w K=(qm a (K (Value.bool false) w) (JO b c d e w K)):=kr
theorem qwf:f157 h b c w K=(qs h 119 w (fun a i=>qS 15 (Addr.mk a 0 none) i (fun o=>q9 P 180 [(Value.agg o)] i (fun p q=>∃ j:Array Value,∃ k:Bool,p=(.tuple #[(Value.agg j),(Value.bool k)])/\qs (qv P 172) 172 q (fun d r=>zG 11 (Addr.mk d 0 none) j r (fun e=>qm (!k) (YC true c b (Addr.mk d 0 none) (Addr.mk a 0 none) e K) (qS 15 (Addr.mk a 0 none) e (fun s=>q9 P 181 [(Value.agg s)] e (fun t f=>∃ l:Bool,t=(.bool l)/\qm (!l) (YC true c b (Addr.mk d 0 none) (Addr.mk a 0 none) f K) (qS 15 (Addr.mk a 0 none) f (fun u=>q9 P 182 [(Value.agg u)] f (fun v g=>∃ m:Bool,v=(.bool m)/\qm (!m) (YC true c b (Addr.mk d 0 none) (Addr.mk a 0 none) g K) (qS 15 (Addr.mk a 0 none) g (fun x=>q9 P 183 [(Value.agg x)] g (fun y z=>∃ n:Bool,y=(.bool n)/\YC (!n) c b (Addr.mk d 0 none) (Addr.mk a 0 none) z K))))))))))))))):=kr
theorem qB0 a b c w K(h:f157 a b c w K):q9 P 157 [(Value.agg a),(Value.int .i64 b),(Value.int .i64 c)] w K:=qy jr Tryz.func157 h
end Go.Fx.Tryz
namespace Go.Fx.Tryz
open Go Go.Fx Go.Fx.Ch
open Go.Proofs
set_option linter.all false
set_option maxRecDepth 100000
@[irreducible] def Jx:Array Oper:=match cA jr 60 with
 | .region _ ops _=>ops
 | _=>#[]
def qFX (i : Nat) : Oper := Jx.getD i { dst := none, op := .move (.tmp 0), type := 0, pos := "", after := #[], guard := none }
@[irreducible] def q5d(x18 x19:Int)(a20 a21:Addr):qh:=qh.mk 104 [(2,(Value.int .i64 x18)),(1,(Value.int .i64 x19)),(7,(Value.pointer (some a20))),(3,(Value.pointer (some a21)))] []
def qx(i:Nat)(e:qh)(w:World)(K:YT):Prop:=QC P none Jx (qFX i) e w K
def ZA(i:Nat)(e:qh)(w:World)(K:YT):Prop:=qnJ P none Jx (Jx.toList.drop i) e w K
theorem q3m:Jx.size=39:=kr
theorem qq{i j:Nat}{e:qh}{w:World}{K:YT}(hj:i+1=j)(hi:i<39)(h:qx i e w fun e w=>ZA j e w K):ZA i e w K:=by
 subst hj
 unfold ZA
 have hl:Jx.toList.drop i=qFX i::Jx.toList.drop (i+1):=by
  have hi2:i<Jx.toList.length:=by rw[Array.length_toList,q3m];exact hi
  rw[List.drop_eq_getElem_cons hi2]
  congr 1
  unfold qFX
  rw[Array.getElem_toList,Array.getD_eq_getD_getElem?,Array.getElem?_eq_getElem (by simpa using hi2)]
  rfl
 rw[hl]
 exact h
theorem qsF{e:qh}{w:World}{K:YT}(h:K e w):ZA 39 e w K:=by
 unfold ZA
 have hl:Jx.toList.drop 39=[]:=List.drop_eq_nil_of_le (by rw[Array.length_toList,q3m];exact Nat.le_refl _)
 rw[hl]
 exact h
theorem q7d(wq:World):(Instr.build 117 ([]:List (Nat × Value)).toArray).run P wq=.ok (.agg #[U 0,U 0,U 0,U 0]) wq:=kr
theorem q1f(wq:World):(do eqGuard .neq 117 (.tmp 65) (.tmp 66) (.agg #[U 0,U 0,U 0,U 0]) (.agg #[U 0,U 0,U 0,U 0]);binOp .neq 117 (.agg #[U 0,U 0,U 0,U 0]) (.agg #[U 0,U 0,U 0,U 0]):Sem Value).run P wq=.ok (.bool false) wq:=kr
@[irreducible] def Ea1(x18 x19:Int)(a20 a21:Addr):qh:=((q5d x18 x19 a20 a21).put (some 31) (.pointer (some (a20.add 1))))
@[irreducible] def Ea2(x18 x19:Int)(a20 a21:Addr):qh:=((Ea1 x18 x19 a20 a21).put (some 32) (.bool false))
@[irreducible] def Ea3(x18 x19:Int)(a20 a21:Addr):qh:=((Ea2 x18 x19 a20 a21).put (some 33) (.bool true))
@[irreducible] def Ea4(x18 x19:Int)(a20 a21:Addr):qh:=((Ea3 x18 x19 a20 a21).put (some 34) (.bool true))
@[irreducible] def Ea5(x18 x19:Int)(a20 a21:Addr):qh:=(((Ea4 x18 x19 a20 a21).put (some 34) (.bool true)).put (some 35) (.pointer (some (a21.add 2))))
@[irreducible] def Ea6(x18 x19:Int)(a20 a21:Addr):qh:=(((Ea5 x18 x19 a20 a21).put (some 34) (.bool true)).put (some 36) (.int .i64 0))
@[irreducible] def Ea7(x18 x19:Int)(a20 a21:Addr):qh:=(((Ea6 x18 x19 a20 a21).put (some 34) (.bool true)).put (some 37) (.bool false))
@[irreducible] def Ea8(x18 x19:Int)(a20 a21:Addr):qh:=((Ea7 x18 x19 a20 a21).put (some 38) (.bool false))
@[irreducible] def Ea9(x18 x19:Int)(a20 a21:Addr):qh:=((Ea8 x18 x19 a20 a21).put (some 39) (.bool false))
@[irreducible] def qsS(x18 x19:Int)(a20 a21:Addr):qh:=(((Ea9 x18 x19 a20 a21).put (some 39) (.bool false)).put (some 40) (.pointer (some (a20.add 8))))
@[irreducible] def qEP(x18 x19:Int)(a20 a21:Addr):qh:=(((qsS x18 x19 a20 a21).put (some 39) (.bool false)).put (some 41) (.bool true))
@[irreducible] def qE5(x18 x19:Int)(a20 a21:Addr):qh:=(((qEP x18 x19 a20 a21).put (some 39) (.bool false)).put (some 42) (.bool false))
@[irreducible] def qDe(x18 x19:Int)(a20 a21:Addr):qh:=(((qE5 x18 x19 a20 a21).put (some 39) (.bool false)).put (some 43) (.bool false))
@[irreducible] def qES(x18 x19:Int)(a20 a21:Addr):qh:=(((qDe x18 x19 a20 a21).put (some 43) (.bool false)).put (some 44) undef)
@[irreducible] def qEJ(x18 x19:Int)(a20 a21:Addr):qh:=(((qES x18 x19 a20 a21).put (some 43) (.bool false)).put (some 45) undef)
@[irreducible] def qFz(x18 x19:Int)(a20 a21:Addr):qh:=(((qEJ x18 x19 a20 a21).put (some 43) (.bool false)).put (some 46) undef)
@[irreducible] def qDD(x18 x19:Int)(a20 a21:Addr):qh:=(((qFz x18 x19 a20 a21).put (some 39) (.bool false)).put (some 47) (.bool false))
@[irreducible] def qE8(x18 x19:Int)(a20 a21:Addr):qh:=((qDD x18 x19 a20 a21).put (some 48) (.bool false))
@[irreducible] def qCQ(x18 x19:Int)(a20 a21:Addr):qh:=((qE8 x18 x19 a20 a21).put (some 49) (.bool false))
@[irreducible] def qtk(x18 x19:Int)(a20 a21:Addr):qh:=(((qCQ x18 x19 a20 a21).put (some 49) (.bool false)).put (some 50) (.pointer (some (a20.add 9))))
@[irreducible] def qF0(x18 x19:Int)(a20 a21:Addr):qh:=(((qtk x18 x19 a20 a21).put (some 49) (.bool false)).put (some 51) (.bool false))
@[irreducible] def qFj(x18 x19:Int)(a20 a21:Addr):qh:=(((qF0 x18 x19 a20 a21).put (some 49) (.bool false)).put (some 52) (.bool true))
@[irreducible] def qD3(x18 x19:Int)(a20 a21:Addr):qh:=(((qFj x18 x19 a20 a21).put (some 49) (.bool false)).put (some 53) (.bool true))
@[irreducible] def qqD(x18 x19:Int)(a20 a21:Addr):qh:=(((qD3 x18 x19 a20 a21).put (some 53) (.bool true)).put (some 54) (.pointer (some (a21.add 10))))
@[irreducible] def qCH(x18 x19:Int)(a20 a21:Addr):qh:=(((qqD x18 x19 a20 a21).put (some 53) (.bool true)).put (some 55) (.int .u32 0))
@[irreducible] def qET(x18 x19:Int)(a20 a21:Addr):qh:=(((qCH x18 x19 a20 a21).put (some 53) (.bool true)).put (some 56) (.bool false))
@[irreducible] def qFW(x18 x19:Int)(a20 a21:Addr):qh:=(((qET x18 x19 a20 a21).put (some 49) (.bool false)).put (some 57) (.bool false))
@[irreducible] def qCu(x18 x19:Int)(a20 a21:Addr):qh:=((qFW x18 x19 a20 a21).put (some 58) (.bool false))
@[irreducible] def qCO(x18 x19:Int)(a20 a21:Addr):qh:=((qCu x18 x19 a20 a21).put (some 59) (.bool false))
@[irreducible] def qtm(x18 x19:Int)(a20 a21:Addr):qh:=(((qCO x18 x19 a20 a21).put (some 59) (.bool false)).put (some 60) (.pointer (some (a20.add 10))))
@[irreducible] def qEC(x18 x19:Int)(a20 a21:Addr):qh:=(((qtm x18 x19 a20 a21).put (some 59) (.bool false)).put (some 61) (.bool false))
@[irreducible] def qFL(x18 x19:Int)(a20 a21:Addr):qh:=(((qEC x18 x19 a20 a21).put (some 59) (.bool false)).put (some 62) (.bool true))
@[irreducible] def qE2(x18 x19:Int)(a20 a21:Addr):qh:=(((qFL x18 x19 a20 a21).put (some 59) (.bool false)).put (some 63) (.bool true))
@[irreducible] def qsT(x18 x19:Int)(a20 a21:Addr):qh:=(((qE2 x18 x19 a20 a21).put (some 63) (.bool true)).put (some 64) (.pointer (some (a21.add 11))))
@[irreducible] def qsK(x18 x19:Int)(a20 a21:Addr):qh:=(((qsT x18 x19 a20 a21).put (some 63) (.bool true)).put (some 65) (.agg #[U 0,U 0,U 0,U 0]))
@[irreducible] def qq7(x18 x19:Int)(a20 a21:Addr):qh:=(((qsK x18 x19 a20 a21).put (some 63) (.bool true)).put (some 66) (.agg #[U 0,U 0,U 0,U 0]))
@[irreducible] def qE6(x18 x19:Int)(a20 a21:Addr):qh:=(((qq7 x18 x19 a20 a21).put (some 63) (.bool true)).put (some 67) (.bool false))
@[irreducible] def qDQ(x18 x19:Int)(a20 a21:Addr):qh:=(((qE6 x18 x19 a20 a21).put (some 59) (.bool false)).put (some 68) (.bool false))
@[irreducible] def qFq(x18 x19:Int)(a20 a21:Addr):qh:=((qDQ x18 x19 a20 a21).put (some 69) (.bool false))
theorem ta0(x18 x19:Int)(a20 a21:Addr)(w:World)(K:YT):qx 0 (q5d x18 x19 a20 a21) w K=K (Ea1 x18 x19 a20 a21) w:=kr
theorem ta1(x18 x19:Int)(a20 a21:Addr)(w:World)(K:YT):qx 1 (Ea1 x18 x19 a20 a21) w K=(∃ b:Bool,w.cell? (a20.add 1)=some (.bool b)/\K ((Ea1 x18 x19 a20 a21).put (some 32) (.bool b)) w):=kr
theorem ta2(x18 x19:Int)(a20 a21:Addr)(w:World)(K:YT):qx 2 (Ea2 x18 x19 a20 a21) w K=K (Ea3 x18 x19 a20 a21) w:=kr
theorem ta3(x18 x19:Int)(a20 a21:Addr)(w:World)(K:YT):qx 3 (Ea3 x18 x19 a20 a21) w K=K (Ea4 x18 x19 a20 a21) w:=kr
theorem ta4(x18 x19:Int)(a20 a21:Addr)(w:World)(K:YT):qx 4 (Ea4 x18 x19 a20 a21) w K=K (Ea5 x18 x19 a20 a21) w:=kr
theorem ta5(x18 x19:Int)(a20 a21:Addr)(w:World)(K:YT):qx 5 (Ea5 x18 x19 a20 a21) w K=(∃ x:Int,w.cell? (a21.add 2)=some (.int .i64 x)/\K (((Ea5 x18 x19 a20 a21).put (some 34) (.bool true)).put (some 36) (.int .i64 x)) w):=kr
theorem ta6(x18 x19:Int)(a20 a21:Addr)(w:World)(K:YT):qx 6 (Ea6 x18 x19 a20 a21) w K=K (Ea7 x18 x19 a20 a21) w:=kr
theorem ta7(x18 x19:Int)(a20 a21:Addr)(w:World)(K:YT):qx 7 (Ea7 x18 x19 a20 a21) w K=K (Ea8 x18 x19 a20 a21) w:=kr
theorem ta8(x18 x19:Int)(a20 a21:Addr)(w:World)(K:YT):qx 8 (Ea8 x18 x19 a20 a21) w K=K (Ea9 x18 x19 a20 a21) w:=kr
theorem ta9(x18 x19:Int)(a20 a21:Addr)(w:World)(K:YT):qx 9 (Ea9 x18 x19 a20 a21) w K=K (qsS x18 x19 a20 a21) w:=kr
theorem qJm(x18 x19:Int)(a20 a21:Addr)(w:World)(K:YT):qx 10 (qsS x18 x19 a20 a21) w K=(∃ b:Bool,w.cell? (a20.add 8)=some (.bool b)/\K (((qsS x18 x19 a20 a21).put (some 39) (.bool false)).put (some 41) (.bool b)) w):=kr
theorem qIV(x18 x19:Int)(a20 a21:Addr)(w:World)(K:YT):qx 11 (qEP x18 x19 a20 a21) w K=K (qE5 x18 x19 a20 a21) w:=kr
theorem qJI(x18 x19:Int)(a20 a21:Addr)(w:World)(K:YT):qx 12 (qE5 x18 x19 a20 a21) w K=K (qDe x18 x19 a20 a21) w:=kr
theorem qK1(x18 x19:Int)(a20 a21:Addr)(w:World)(K:YT):qx 13 (qDe x18 x19 a20 a21) w K=K (qES x18 x19 a20 a21) w:=kr
theorem qJc(x18 x19:Int)(a20 a21:Addr)(w:World)(K:YT):qx 14 (qES x18 x19 a20 a21) w K=K (qEJ x18 x19 a20 a21) w:=kr
theorem qJN(x18 x19:Int)(a20 a21:Addr)(w:World)(K:YT):qx 15 (qEJ x18 x19 a20 a21) w K=K (qFz x18 x19 a20 a21) w:=kr
theorem qKf(x18 x19:Int)(a20 a21:Addr)(w:World)(K:YT):qx 16 (qFz x18 x19 a20 a21) w K=K (qDD x18 x19 a20 a21) w:=kr
theorem qJF(x18 x19:Int)(a20 a21:Addr)(w:World)(K:YT):qx 17 (qDD x18 x19 a20 a21) w K=K (qE8 x18 x19 a20 a21) w:=kr
theorem qJx(x18 x19:Int)(a20 a21:Addr)(w:World)(K:YT):qx 18 (qE8 x18 x19 a20 a21) w K=K (qCQ x18 x19 a20 a21) w:=kr
theorem qJb(x18 x19:Int)(a20 a21:Addr)(w:World)(K:YT):qx 19 (qCQ x18 x19 a20 a21) w K=K (qtk x18 x19 a20 a21) w:=kr
theorem qJq(x18 x19:Int)(a20 a21:Addr)(w:World)(K:YT):qx 20 (qtk x18 x19 a20 a21) w K=(∃ b:Bool,w.cell? (a20.add 9)=some (.bool b)/\K (((qtk x18 x19 a20 a21).put (some 49) (.bool false)).put (some 51) (.bool b)) w):=kr
theorem qJi(x18 x19:Int)(a20 a21:Addr)(w:World)(K:YT):qx 21 (qF0 x18 x19 a20 a21) w K=K (qFj x18 x19 a20 a21) w:=kr
theorem qIE(x18 x19:Int)(a20 a21:Addr)(w:World)(K:YT):qx 22 (qFj x18 x19 a20 a21) w K=K (qD3 x18 x19 a20 a21) w:=kr
theorem qJG(x18 x19:Int)(a20 a21:Addr)(w:World)(K:YT):qx 23 (qD3 x18 x19 a20 a21) w K=K (qqD x18 x19 a20 a21) w:=kr
theorem qJ5(x18 x19:Int)(a20 a21:Addr)(w:World)(K:YT):qx 24 (qqD x18 x19 a20 a21) w K=(∃ x:Int,w.cell? (a21.add 10)=some (.int .u32 x)/\K (((qqD x18 x19 a20 a21).put (some 53) (.bool true)).put (some 55) (.int .u32 x)) w):=kr
theorem qK4(x18 x19:Int)(a20 a21:Addr)(w:World)(K:YT):qx 25 (qCH x18 x19 a20 a21) w K=K (qET x18 x19 a20 a21) w:=kr
theorem qII(x18 x19:Int)(a20 a21:Addr)(w:World)(K:YT):qx 26 (qET x18 x19 a20 a21) w K=K (qFW x18 x19 a20 a21) w:=kr
theorem qJ3(x18 x19:Int)(a20 a21:Addr)(w:World)(K:YT):qx 27 (qFW x18 x19 a20 a21) w K=K (qCu x18 x19 a20 a21) w:=kr
theorem qJU(x18 x19:Int)(a20 a21:Addr)(w:World)(K:YT):qx 28 (qCu x18 x19 a20 a21) w K=K (qCO x18 x19 a20 a21) w:=kr
theorem qIQ(x18 x19:Int)(a20 a21:Addr)(w:World)(K:YT):qx 29 (qCO x18 x19 a20 a21) w K=K (qtm x18 x19 a20 a21) w:=kr
theorem qJj(x18 x19:Int)(a20 a21:Addr)(w:World)(K:YT):qx 30 (qtm x18 x19 a20 a21) w K=(∃ b:Bool,w.cell? (a20.add 10)=some (.bool b)/\K (((qtm x18 x19 a20 a21).put (some 59) (.bool false)).put (some 61) (.bool b)) w):=kr
theorem qIH(x18 x19:Int)(a20 a21:Addr)(w:World)(K:YT):qx 31 (qEC x18 x19 a20 a21) w K=K (qFL x18 x19 a20 a21) w:=kr
theorem qIR(x18 x19:Int)(a20 a21:Addr)(w:World)(K:YT):qx 32 (qFL x18 x19 a20 a21) w K=K (qE2 x18 x19 a20 a21) w:=kr
theorem qIT(x18 x19:Int)(a20 a21:Addr)(w:World)(K:YT):qx 33 (qE2 x18 x19 a20 a21) w K=K (qsT x18 x19 a20 a21) w:=kr
theorem qJu(x18 x19:Int)(a20 a21:Addr)(w:World)(K:YT):qx 34 (qsT x18 x19 a20 a21) w K=qS 4 (a21.add 11) w (fun cs=>K (((qsT x18 x19 a20 a21).put (some 63) (.bool true)).put (some 65) (.agg cs)) w):=kr
theorem qIF(x18 x19:Int)(a20 a21:Addr)(w:World)(K:YT):qx 35 (qsK x18 x19 a20 a21) w K=(∃ cs:Array Value,(∀ wq,(Instr.build 117 ([]:List (Nat × Value)).toArray).run P wq=.ok (.agg cs) wq)/\K (((qsK x18 x19 a20 a21).put (some 63) (.bool true)).put (some 66) (.agg cs)) w):=kr
theorem qIM(x18 x19:Int)(a20 a21:Addr)(w:World)(K:YT):qx 36 (qq7 x18 x19 a20 a21) w K=(∃ b:Bool,(∀ wq,(do eqGuard .neq 117 (.tmp 65) (.tmp 66) (.agg #[U 0,U 0,U 0,U 0]) (.agg #[U 0,U 0,U 0,U 0]);binOp .neq 117 (.agg #[U 0,U 0,U 0,U 0]) (.agg #[U 0,U 0,U 0,U 0]):Sem Value).run P wq=.ok (.bool b) wq)/\K (((qq7 x18 x19 a20 a21).put (some 63) (.bool true)).put (some 67) (.bool b)) w):=kr
theorem qKe(x18 x19:Int)(a20 a21:Addr)(w:World)(K:YT):qx 37 (qE6 x18 x19 a20 a21) w K=K (qDQ x18 x19 a20 a21) w:=kr
theorem qIX(x18 x19:Int)(a20 a21:Addr)(w:World)(K:YT):qx 38 (qDQ x18 x19 a20 a21) w K=K (qFq x18 x19 a20 a21) w:=kr
theorem qa1(x18 x19:Int)(a20 a21:Addr):(Ea1 x18 x19 a20 a21).put (some 32) (.bool false)=Ea2 x18 x19 a20 a21:=kr
theorem qa5(x18 x19:Int)(a20 a21:Addr):((Ea5 x18 x19 a20 a21).put (some 34) (.bool true)).put (some 36) (.int .i64 0)=Ea6 x18 x19 a20 a21:=kr
theorem qIO(x18 x19:Int)(a20 a21:Addr):((qsS x18 x19 a20 a21).put (some 39) (.bool false)).put (some 41) (.bool true)=qEP x18 x19 a20 a21:=kr
theorem qJ6(x18 x19:Int)(a20 a21:Addr):((qtk x18 x19 a20 a21).put (some 49) (.bool false)).put (some 51) (.bool false)=qF0 x18 x19 a20 a21:=kr
theorem qKj(x18 x19:Int)(a20 a21:Addr):((qqD x18 x19 a20 a21).put (some 53) (.bool true)).put (some 55) (.int .u32 0)=qCH x18 x19 a20 a21:=kr
theorem qKq(x18 x19:Int)(a20 a21:Addr):((qtm x18 x19 a20 a21).put (some 59) (.bool false)).put (some 61) (.bool false)=qEC x18 x19 a20 a21:=kr
theorem qID(x18 x19:Int)(a20 a21:Addr):((qsT x18 x19 a20 a21).put (some 63) (.bool true)).put (some 65) (.agg #[U 0,U 0,U 0,U 0])=qsK x18 x19 a20 a21:=kr
theorem qJJ(x18 x19:Int)(a20 a21:Addr):((qsK x18 x19 a20 a21).put (some 63) (.bool true)).put (some 66) (.agg #[U 0,U 0,U 0,U 0])=qq7 x18 x19 a20 a21:=kr
theorem qJ7(x18 x19:Int)(a20 a21:Addr):((qq7 x18 x19 a20 a21).put (some 63) (.bool true)).put (some 67) (.bool false)=qE6 x18 x19 a20 a21:=kr
theorem qK6(x18 x19:Int)(a20 a21:Addr)(w:World)(K:YT)(c32:w.cell? (a20.add 1)=some (.bool false))(c36:w.cell? (a21.add 2)=some (.int .i64 0))(c41:w.cell? (a20.add 8)=some (.bool true))(c51:w.cell? (a20.add 9)=some (.bool false))(c55:w.cell? (a21.add 10)=some (.int .u32 0))(c61:w.cell? (a20.add 10)=some (.bool false))(cV:∀ K:Array Value->Prop,K #[U 0,U 0,U 0,U 0]->qS 4 (a21.add 11) w K)(hK:K (qFq x18 x19 a20 a21) w):ZA 0 (q5d x18 x19 a20 a21) w K:=by
 refine qq (i:=0) (j:=1) rfl (by decide) ?_
 rw[ta0]
 refine qq (i:=1) (j:=2) rfl (by decide) ?_
 rw[ta1]
 refine⟨false,c32,?_⟩
 rw[qa1]
 refine qq (i:=2) (j:=3) rfl (by decide) ?_
 rw[ta2]
 refine qq (i:=3) (j:=4) rfl (by decide) ?_
 rw[ta3]
 refine qq (i:=4) (j:=5) rfl (by decide) ?_
 rw[ta4]
 refine qq (i:=5) (j:=6) rfl (by decide) ?_
 rw[ta5]
 refine⟨0,c36,?_⟩
 rw[qa5]
 refine qq (i:=6) (j:=7) rfl (by decide) ?_
 rw[ta6]
 refine qq (i:=7) (j:=8) rfl (by decide) ?_
 rw[ta7]
 refine qq (i:=8) (j:=9) rfl (by decide) ?_
 rw[ta8]
 refine qq (i:=9) (j:=10) rfl (by decide) ?_
 rw[ta9]
 refine qq (i:=10) (j:=11) rfl (by decide) ?_
 rw[qJm]
 refine⟨true,c41,?_⟩
 rw[qIO]
 refine qq (i:=11) (j:=12) rfl (by decide) ?_
 rw[qIV]
 refine qq (i:=12) (j:=13) rfl (by decide) ?_
 rw[qJI]
 refine qq (i:=13) (j:=14) rfl (by decide) ?_
 rw[qK1]
 refine qq (i:=14) (j:=15) rfl (by decide) ?_
 rw[qJc]
 refine qq (i:=15) (j:=16) rfl (by decide) ?_
 rw[qJN]
 refine qq (i:=16) (j:=17) rfl (by decide) ?_
 rw[qKf]
 refine qq (i:=17) (j:=18) rfl (by decide) ?_
 rw[qJF]
 refine qq (i:=18) (j:=19) rfl (by decide) ?_
 rw[qJx]
 refine qq (i:=19) (j:=20) rfl (by decide) ?_
 rw[qJb]
 refine qq (i:=20) (j:=21) rfl (by decide) ?_
 rw[qJq]
 refine⟨false,c51,?_⟩
 rw[qJ6]
 refine qq (i:=21) (j:=22) rfl (by decide) ?_
 rw[qJi]
 refine qq (i:=22) (j:=23) rfl (by decide) ?_
 rw[qIE]
 refine qq (i:=23) (j:=24) rfl (by decide) ?_
 rw[qJG]
 refine qq (i:=24) (j:=25) rfl (by decide) ?_
 rw[qJ5]
 refine⟨0,c55,?_⟩
 rw[qKj]
 refine qq (i:=25) (j:=26) rfl (by decide) ?_
 rw[qK4]
 refine qq (i:=26) (j:=27) rfl (by decide) ?_
 rw[qII]
 refine qq (i:=27) (j:=28) rfl (by decide) ?_
 rw[qJ3]
 refine qq (i:=28) (j:=29) rfl (by decide) ?_
 rw[qJU]
 refine qq (i:=29) (j:=30) rfl (by decide) ?_
 rw[qIQ]
 refine qq (i:=30) (j:=31) rfl (by decide) ?_
 rw[qJj]
 refine⟨false,c61,?_⟩
 rw[qKq]
 refine qq (i:=31) (j:=32) rfl (by decide) ?_
 rw[qIH]
 refine qq (i:=32) (j:=33) rfl (by decide) ?_
 rw[qIR]
 refine qq (i:=33) (j:=34) rfl (by decide) ?_
 rw[qIT]
 refine qq (i:=34) (j:=35) rfl (by decide) ?_
 rw[qJu]
 refine cV _ ?_
 rw[qID]
 refine qq (i:=35) (j:=36) rfl (by decide) ?_
 rw[qIF]
 refine⟨_,q7d,?_⟩
 rw[qJJ]
 refine qq (i:=36) (j:=37) rfl (by decide) ?_
 rw[qIM]
 refine⟨false,q1f,?_⟩
 rw[qJ7]
 refine qq (i:=37) (j:=38) rfl (by decide) ?_
 rw[qKe]
 refine qq (i:=38) (j:=39) rfl (by decide) ?_
 rw[qIX]
 exact qsF hK
theorem qJa(x18 x19:Int)(a20 a21:Addr)(w:World)(K:KT):Zt K .normal (qFq x18 x19 a20 a21) w=JJ false x18 x19 a20 a21 w K:=kr
@[irreducible] def Eb1(x18 x19:Int)(a20 a21:Addr):qh:=((q5d x18 x19 a20 a21).put (some 31) (.pointer (some (a20.add 1))))
@[irreducible] def Eb2(x18 x19:Int)(a20 a21:Addr):qh:=((Eb1 x18 x19 a20 a21).put (some 32) (.bool false))
@[irreducible] def Eb3(x18 x19:Int)(a20 a21:Addr):qh:=((Eb2 x18 x19 a20 a21).put (some 33) (.bool true))
@[irreducible] def Eb4(x18 x19:Int)(a20 a21:Addr):qh:=((Eb3 x18 x19 a20 a21).put (some 34) (.bool true))
@[irreducible] def Eb5(x18 x19:Int)(a20 a21:Addr):qh:=(((Eb4 x18 x19 a20 a21).put (some 34) (.bool true)).put (some 35) (.pointer (some (a21.add 2))))
@[irreducible] def Eb6(x18 x19:Int)(a20 a21:Addr):qh:=(((Eb5 x18 x19 a20 a21).put (some 34) (.bool true)).put (some 36) (.int .i64 0))
@[irreducible] def Eb7(x18 x19:Int)(a20 a21:Addr):qh:=(((Eb6 x18 x19 a20 a21).put (some 34) (.bool true)).put (some 37) (.bool false))
@[irreducible] def Eb8(x18 x19:Int)(a20 a21:Addr):qh:=((Eb7 x18 x19 a20 a21).put (some 38) (.bool false))
@[irreducible] def Eb9(x18 x19:Int)(a20 a21:Addr):qh:=((Eb8 x18 x19 a20 a21).put (some 39) (.bool false))
@[irreducible] def quD(x18 x19:Int)(a20 a21:Addr):qh:=(((Eb9 x18 x19 a20 a21).put (some 39) (.bool false)).put (some 40) (.pointer (some (a20.add 8))))
@[irreducible] def qDt(x18 x19:Int)(a20 a21:Addr):qh:=(((quD x18 x19 a20 a21).put (some 39) (.bool false)).put (some 41) (.bool true))
@[irreducible] def qCZ(x18 x19:Int)(a20 a21:Addr):qh:=(((qDt x18 x19 a20 a21).put (some 39) (.bool false)).put (some 42) (.bool false))
@[irreducible] def qDc(x18 x19:Int)(a20 a21:Addr):qh:=(((qCZ x18 x19 a20 a21).put (some 39) (.bool false)).put (some 43) (.bool false))
@[irreducible] def qCr(x18 x19:Int)(a20 a21:Addr):qh:=(((qDc x18 x19 a20 a21).put (some 43) (.bool false)).put (some 44) undef)
@[irreducible] def qEn(x18 x19:Int)(a20 a21:Addr):qh:=(((qCr x18 x19 a20 a21).put (some 43) (.bool false)).put (some 45) undef)
@[irreducible] def qEz(x18 x19:Int)(a20 a21:Addr):qh:=(((qEn x18 x19 a20 a21).put (some 43) (.bool false)).put (some 46) undef)
@[irreducible] def qEZ(x18 x19:Int)(a20 a21:Addr):qh:=(((qEz x18 x19 a20 a21).put (some 39) (.bool false)).put (some 47) (.bool false))
@[irreducible] def qEB(x18 x19:Int)(a20 a21:Addr):qh:=((qEZ x18 x19 a20 a21).put (some 48) (.bool false))
@[irreducible] def qEO(x18 x19:Int)(a20 a21:Addr):qh:=((qEB x18 x19 a20 a21).put (some 49) (.bool false))
@[irreducible] def quf(x18 x19:Int)(a20 a21:Addr):qh:=(((qEO x18 x19 a20 a21).put (some 49) (.bool false)).put (some 50) (.pointer (some (a20.add 9))))
@[irreducible] def qDY(x18 x19:Int)(a20 a21:Addr):qh:=(((quf x18 x19 a20 a21).put (some 49) (.bool false)).put (some 51) (.bool true))
@[irreducible] def qD8(x18 x19:Int)(a20 a21:Addr):qh:=(((qDY x18 x19 a20 a21).put (some 49) (.bool false)).put (some 52) (.bool false))
@[irreducible] def qDF(x18 x19:Int)(a20 a21:Addr):qh:=(((qD8 x18 x19 a20 a21).put (some 49) (.bool false)).put (some 53) (.bool false))
@[irreducible] def qCM(x18 x19:Int)(a20 a21:Addr):qh:=(((qDF x18 x19 a20 a21).put (some 53) (.bool false)).put (some 54) undef)
@[irreducible] def qEj(x18 x19:Int)(a20 a21:Addr):qh:=(((qCM x18 x19 a20 a21).put (some 53) (.bool false)).put (some 55) undef)
@[irreducible] def qEN(x18 x19:Int)(a20 a21:Addr):qh:=(((qEj x18 x19 a20 a21).put (some 53) (.bool false)).put (some 56) undef)
@[irreducible] def qCd(x18 x19:Int)(a20 a21:Addr):qh:=(((qEN x18 x19 a20 a21).put (some 49) (.bool false)).put (some 57) (.bool false))
@[irreducible] def qFv(x18 x19:Int)(a20 a21:Addr):qh:=((qCd x18 x19 a20 a21).put (some 58) (.bool false))
@[irreducible] def qDs(x18 x19:Int)(a20 a21:Addr):qh:=((qFv x18 x19 a20 a21).put (some 59) (.bool false))
@[irreducible] def qtO(x18 x19:Int)(a20 a21:Addr):qh:=(((qDs x18 x19 a20 a21).put (some 59) (.bool false)).put (some 60) (.pointer (some (a20.add 10))))
@[irreducible] def qFp(x18 x19:Int)(a20 a21:Addr):qh:=(((qtO x18 x19 a20 a21).put (some 59) (.bool false)).put (some 61) (.bool false))
@[irreducible] def qCy(x18 x19:Int)(a20 a21:Addr):qh:=(((qFp x18 x19 a20 a21).put (some 59) (.bool false)).put (some 62) (.bool true))
@[irreducible] def qF5(x18 x19:Int)(a20 a21:Addr):qh:=(((qCy x18 x19 a20 a21).put (some 59) (.bool false)).put (some 63) (.bool true))
@[irreducible] def qsa(x18 x19:Int)(a20 a21:Addr):qh:=(((qF5 x18 x19 a20 a21).put (some 63) (.bool true)).put (some 64) (.pointer (some (a21.add 11))))
@[irreducible] def qv5(x18 x19:Int)(a20 a21:Addr):qh:=(((qsa x18 x19 a20 a21).put (some 63) (.bool true)).put (some 65) (.agg #[U 0,U 0,U 0,U 0]))
@[irreducible] def qux(x18 x19:Int)(a20 a21:Addr):qh:=(((qv5 x18 x19 a20 a21).put (some 63) (.bool true)).put (some 66) (.agg #[U 0,U 0,U 0,U 0]))
@[irreducible] def qCv(x18 x19:Int)(a20 a21:Addr):qh:=(((qux x18 x19 a20 a21).put (some 63) (.bool true)).put (some 67) (.bool false))
@[irreducible] def qEc(x18 x19:Int)(a20 a21:Addr):qh:=(((qCv x18 x19 a20 a21).put (some 59) (.bool false)).put (some 68) (.bool false))
@[irreducible] def qDI(x18 x19:Int)(a20 a21:Addr):qh:=((qEc x18 x19 a20 a21).put (some 69) (.bool false))
theorem tb0(x18 x19:Int)(a20 a21:Addr)(w:World)(K:YT):qx 0 (q5d x18 x19 a20 a21) w K=K (Eb1 x18 x19 a20 a21) w:=kr
theorem tb1(x18 x19:Int)(a20 a21:Addr)(w:World)(K:YT):qx 1 (Eb1 x18 x19 a20 a21) w K=(∃ b:Bool,w.cell? (a20.add 1)=some (.bool b)/\K ((Eb1 x18 x19 a20 a21).put (some 32) (.bool b)) w):=kr
theorem tb2(x18 x19:Int)(a20 a21:Addr)(w:World)(K:YT):qx 2 (Eb2 x18 x19 a20 a21) w K=K (Eb3 x18 x19 a20 a21) w:=kr
theorem tb3(x18 x19:Int)(a20 a21:Addr)(w:World)(K:YT):qx 3 (Eb3 x18 x19 a20 a21) w K=K (Eb4 x18 x19 a20 a21) w:=kr
theorem tb4(x18 x19:Int)(a20 a21:Addr)(w:World)(K:YT):qx 4 (Eb4 x18 x19 a20 a21) w K=K (Eb5 x18 x19 a20 a21) w:=kr
theorem tb5(x18 x19:Int)(a20 a21:Addr)(w:World)(K:YT):qx 5 (Eb5 x18 x19 a20 a21) w K=(∃ x:Int,w.cell? (a21.add 2)=some (.int .i64 x)/\K (((Eb5 x18 x19 a20 a21).put (some 34) (.bool true)).put (some 36) (.int .i64 x)) w):=kr
theorem tb6(x18 x19:Int)(a20 a21:Addr)(w:World)(K:YT):qx 6 (Eb6 x18 x19 a20 a21) w K=K (Eb7 x18 x19 a20 a21) w:=kr
theorem tb7(x18 x19:Int)(a20 a21:Addr)(w:World)(K:YT):qx 7 (Eb7 x18 x19 a20 a21) w K=K (Eb8 x18 x19 a20 a21) w:=kr
theorem tb8(x18 x19:Int)(a20 a21:Addr)(w:World)(K:YT):qx 8 (Eb8 x18 x19 a20 a21) w K=K (Eb9 x18 x19 a20 a21) w:=kr
theorem tb9(x18 x19:Int)(a20 a21:Addr)(w:World)(K:YT):qx 9 (Eb9 x18 x19 a20 a21) w K=K (quD x18 x19 a20 a21) w:=kr
theorem qJD(x18 x19:Int)(a20 a21:Addr)(w:World)(K:YT):qx 10 (quD x18 x19 a20 a21) w K=(∃ b:Bool,w.cell? (a20.add 8)=some (.bool b)/\K (((quD x18 x19 a20 a21).put (some 39) (.bool false)).put (some 41) (.bool b)) w):=kr
theorem qJW(x18 x19:Int)(a20 a21:Addr)(w:World)(K:YT):qx 11 (qDt x18 x19 a20 a21) w K=K (qCZ x18 x19 a20 a21) w:=kr
theorem qJ0(x18 x19:Int)(a20 a21:Addr)(w:World)(K:YT):qx 12 (qCZ x18 x19 a20 a21) w K=K (qDc x18 x19 a20 a21) w:=kr
theorem qJw(x18 x19:Int)(a20 a21:Addr)(w:World)(K:YT):qx 13 (qDc x18 x19 a20 a21) w K=K (qCr x18 x19 a20 a21) w:=kr
theorem qKB(x18 x19:Int)(a20 a21:Addr)(w:World)(K:YT):qx 14 (qCr x18 x19 a20 a21) w K=K (qEn x18 x19 a20 a21) w:=kr
theorem qKk(x18 x19:Int)(a20 a21:Addr)(w:World)(K:YT):qx 15 (qEn x18 x19 a20 a21) w K=K (qEz x18 x19 a20 a21) w:=kr
theorem qKn(x18 x19:Int)(a20 a21:Addr)(w:World)(K:YT):qx 16 (qEz x18 x19 a20 a21) w K=K (qEZ x18 x19 a20 a21) w:=kr
theorem qJh(x18 x19:Int)(a20 a21:Addr)(w:World)(K:YT):qx 17 (qEZ x18 x19 a20 a21) w K=K (qEB x18 x19 a20 a21) w:=kr
theorem qIL(x18 x19:Int)(a20 a21:Addr)(w:World)(K:YT):qx 18 (qEB x18 x19 a20 a21) w K=K (qEO x18 x19 a20 a21) w:=kr
theorem qKu(x18 x19:Int)(a20 a21:Addr)(w:World)(K:YT):qx 19 (qEO x18 x19 a20 a21) w K=K (quf x18 x19 a20 a21) w:=kr
theorem qK0(x18 x19:Int)(a20 a21:Addr)(w:World)(K:YT):qx 20 (quf x18 x19 a20 a21) w K=(∃ b:Bool,w.cell? (a20.add 9)=some (.bool b)/\K (((quf x18 x19 a20 a21).put (some 49) (.bool false)).put (some 51) (.bool b)) w):=kr
theorem qKI(x18 x19:Int)(a20 a21:Addr)(w:World)(K:YT):qx 21 (qDY x18 x19 a20 a21) w K=K (qD8 x18 x19 a20 a21) w:=kr
theorem qJz(x18 x19:Int)(a20 a21:Addr)(w:World)(K:YT):qx 22 (qD8 x18 x19 a20 a21) w K=K (qDF x18 x19 a20 a21) w:=kr
theorem qKE(x18 x19:Int)(a20 a21:Addr)(w:World)(K:YT):qx 23 (qDF x18 x19 a20 a21) w K=K (qCM x18 x19 a20 a21) w:=kr
theorem qJA(x18 x19:Int)(a20 a21:Addr)(w:World)(K:YT):qx 24 (qCM x18 x19 a20 a21) w K=K (qEj x18 x19 a20 a21) w:=kr
theorem qKa(x18 x19:Int)(a20 a21:Addr)(w:World)(K:YT):qx 25 (qEj x18 x19 a20 a21) w K=K (qEN x18 x19 a20 a21) w:=kr
theorem qJV(x18 x19:Int)(a20 a21:Addr)(w:World)(K:YT):qx 26 (qEN x18 x19 a20 a21) w K=K (qCd x18 x19 a20 a21) w:=kr
theorem qJg(x18 x19:Int)(a20 a21:Addr)(w:World)(K:YT):qx 27 (qCd x18 x19 a20 a21) w K=K (qFv x18 x19 a20 a21) w:=kr
theorem qJZ(x18 x19:Int)(a20 a21:Addr)(w:World)(K:YT):qx 28 (qFv x18 x19 a20 a21) w K=K (qDs x18 x19 a20 a21) w:=kr
theorem qJt(x18 x19:Int)(a20 a21:Addr)(w:World)(K:YT):qx 29 (qDs x18 x19 a20 a21) w K=K (qtO x18 x19 a20 a21) w:=kr
theorem qIY(x18 x19:Int)(a20 a21:Addr)(w:World)(K:YT):qx 30 (qtO x18 x19 a20 a21) w K=(∃ b:Bool,w.cell? (a20.add 10)=some (.bool b)/\K (((qtO x18 x19 a20 a21).put (some 59) (.bool false)).put (some 61) (.bool b)) w):=kr
theorem qKd(x18 x19:Int)(a20 a21:Addr)(w:World)(K:YT):qx 31 (qFp x18 x19 a20 a21) w K=K (qCy x18 x19 a20 a21) w:=kr
theorem qJr(x18 x19:Int)(a20 a21:Addr)(w:World)(K:YT):qx 32 (qCy x18 x19 a20 a21) w K=K (qF5 x18 x19 a20 a21) w:=kr
theorem qJK(x18 x19:Int)(a20 a21:Addr)(w:World)(K:YT):qx 33 (qF5 x18 x19 a20 a21) w K=K (qsa x18 x19 a20 a21) w:=kr
theorem qK7(x18 x19:Int)(a20 a21:Addr)(w:World)(K:YT):qx 34 (qsa x18 x19 a20 a21) w K=qS 4 (a21.add 11) w (fun cs=>K (((qsa x18 x19 a20 a21).put (some 63) (.bool true)).put (some 65) (.agg cs)) w):=kr
theorem qKg(x18 x19:Int)(a20 a21:Addr)(w:World)(K:YT):qx 35 (qv5 x18 x19 a20 a21) w K=(∃ cs:Array Value,(∀ wq,(Instr.build 117 ([]:List (Nat × Value)).toArray).run P wq=.ok (.agg cs) wq)/\K (((qv5 x18 x19 a20 a21).put (some 63) (.bool true)).put (some 66) (.agg cs)) w):=kr
theorem qJM(x18 x19:Int)(a20 a21:Addr)(w:World)(K:YT):qx 36 (qux x18 x19 a20 a21) w K=(∃ b:Bool,(∀ wq,(do eqGuard .neq 117 (.tmp 65) (.tmp 66) (.agg #[U 0,U 0,U 0,U 0]) (.agg #[U 0,U 0,U 0,U 0]);binOp .neq 117 (.agg #[U 0,U 0,U 0,U 0]) (.agg #[U 0,U 0,U 0,U 0]):Sem Value).run P wq=.ok (.bool b) wq)/\K (((qux x18 x19 a20 a21).put (some 63) (.bool true)).put (some 67) (.bool b)) w):=kr
theorem qJQ(x18 x19:Int)(a20 a21:Addr)(w:World)(K:YT):qx 37 (qCv x18 x19 a20 a21) w K=K (qEc x18 x19 a20 a21) w:=kr
theorem qKp(x18 x19:Int)(a20 a21:Addr)(w:World)(K:YT):qx 38 (qEc x18 x19 a20 a21) w K=K (qDI x18 x19 a20 a21) w:=kr
theorem qb1(x18 x19:Int)(a20 a21:Addr):(Eb1 x18 x19 a20 a21).put (some 32) (.bool false)=Eb2 x18 x19 a20 a21:=kr
theorem qb5(x18 x19:Int)(a20 a21:Addr):((Eb5 x18 x19 a20 a21).put (some 34) (.bool true)).put (some 36) (.int .i64 0)=Eb6 x18 x19 a20 a21:=kr
theorem qKx(x18 x19:Int)(a20 a21:Addr):((quD x18 x19 a20 a21).put (some 39) (.bool false)).put (some 41) (.bool true)=qDt x18 x19 a20 a21:=kr
theorem qJv(x18 x19:Int)(a20 a21:Addr):((quf x18 x19 a20 a21).put (some 49) (.bool false)).put (some 51) (.bool true)=qDY x18 x19 a20 a21:=kr
theorem qKs(x18 x19:Int)(a20 a21:Addr):((qtO x18 x19 a20 a21).put (some 59) (.bool false)).put (some 61) (.bool false)=qFp x18 x19 a20 a21:=kr
theorem qIG(x18 x19:Int)(a20 a21:Addr):((qsa x18 x19 a20 a21).put (some 63) (.bool true)).put (some 65) (.agg #[U 0,U 0,U 0,U 0])=qv5 x18 x19 a20 a21:=kr
theorem qKF(x18 x19:Int)(a20 a21:Addr):((qv5 x18 x19 a20 a21).put (some 63) (.bool true)).put (some 66) (.agg #[U 0,U 0,U 0,U 0])=qux x18 x19 a20 a21:=kr
theorem qJo(x18 x19:Int)(a20 a21:Addr):((qux x18 x19 a20 a21).put (some 63) (.bool true)).put (some 67) (.bool false)=qCv x18 x19 a20 a21:=kr
theorem qJy(x18 x19:Int)(a20 a21:Addr)(w:World)(K:YT)(c32:w.cell? (a20.add 1)=some (.bool false))(c36:w.cell? (a21.add 2)=some (.int .i64 0))(c41:w.cell? (a20.add 8)=some (.bool true))(c51:w.cell? (a20.add 9)=some (.bool true))(c61:w.cell? (a20.add 10)=some (.bool false))(cV:∀ K:Array Value->Prop,K #[U 0,U 0,U 0,U 0]->qS 4 (a21.add 11) w K)(hK:K (qDI x18 x19 a20 a21) w):ZA 0 (q5d x18 x19 a20 a21) w K:=by
 refine qq (i:=0) (j:=1) rfl (by decide) ?_
 rw[tb0]
 refine qq (i:=1) (j:=2) rfl (by decide) ?_
 rw[tb1]
 refine⟨false,c32,?_⟩
 rw[qb1]
 refine qq (i:=2) (j:=3) rfl (by decide) ?_
 rw[tb2]
 refine qq (i:=3) (j:=4) rfl (by decide) ?_
 rw[tb3]
 refine qq (i:=4) (j:=5) rfl (by decide) ?_
 rw[tb4]
 refine qq (i:=5) (j:=6) rfl (by decide) ?_
 rw[tb5]
 refine⟨0,c36,?_⟩
 rw[qb5]
 refine qq (i:=6) (j:=7) rfl (by decide) ?_
 rw[tb6]
 refine qq (i:=7) (j:=8) rfl (by decide) ?_
 rw[tb7]
 refine qq (i:=8) (j:=9) rfl (by decide) ?_
 rw[tb8]
 refine qq (i:=9) (j:=10) rfl (by decide) ?_
 rw[tb9]
 refine qq (i:=10) (j:=11) rfl (by decide) ?_
 rw[qJD]
 refine⟨true,c41,?_⟩
 rw[qKx]
 refine qq (i:=11) (j:=12) rfl (by decide) ?_
 rw[qJW]
 refine qq (i:=12) (j:=13) rfl (by decide) ?_
 rw[qJ0]
 refine qq (i:=13) (j:=14) rfl (by decide) ?_
 rw[qJw]
 refine qq (i:=14) (j:=15) rfl (by decide) ?_
 rw[qKB]
 refine qq (i:=15) (j:=16) rfl (by decide) ?_
 rw[qKk]
 refine qq (i:=16) (j:=17) rfl (by decide) ?_
 rw[qKn]
 refine qq (i:=17) (j:=18) rfl (by decide) ?_
 rw[qJh]
 refine qq (i:=18) (j:=19) rfl (by decide) ?_
 rw[qIL]
 refine qq (i:=19) (j:=20) rfl (by decide) ?_
 rw[qKu]
 refine qq (i:=20) (j:=21) rfl (by decide) ?_
 rw[qK0]
 refine⟨true,c51,?_⟩
 rw[qJv]
 refine qq (i:=21) (j:=22) rfl (by decide) ?_
 rw[qKI]
 refine qq (i:=22) (j:=23) rfl (by decide) ?_
 rw[qJz]
 refine qq (i:=23) (j:=24) rfl (by decide) ?_
 rw[qKE]
 refine qq (i:=24) (j:=25) rfl (by decide) ?_
 rw[qJA]
 refine qq (i:=25) (j:=26) rfl (by decide) ?_
 rw[qKa]
 refine qq (i:=26) (j:=27) rfl (by decide) ?_
 rw[qJV]
 refine qq (i:=27) (j:=28) rfl (by decide) ?_
 rw[qJg]
 refine qq (i:=28) (j:=29) rfl (by decide) ?_
 rw[qJZ]
 refine qq (i:=29) (j:=30) rfl (by decide) ?_
 rw[qJt]
 refine qq (i:=30) (j:=31) rfl (by decide) ?_
 rw[qIY]
 refine⟨false,c61,?_⟩
 rw[qKs]
 refine qq (i:=31) (j:=32) rfl (by decide) ?_
 rw[qKd]
 refine qq (i:=32) (j:=33) rfl (by decide) ?_
 rw[qJr]
 refine qq (i:=33) (j:=34) rfl (by decide) ?_
 rw[qJK]
 refine qq (i:=34) (j:=35) rfl (by decide) ?_
 rw[qK7]
 refine cV _ ?_
 rw[qIG]
 refine qq (i:=35) (j:=36) rfl (by decide) ?_
 rw[qKg]
 refine⟨_,q7d,?_⟩
 rw[qKF]
 refine qq (i:=36) (j:=37) rfl (by decide) ?_
 rw[qJM]
 refine⟨false,q1f,?_⟩
 rw[qJo]
 refine qq (i:=37) (j:=38) rfl (by decide) ?_
 rw[qJQ]
 refine qq (i:=38) (j:=39) rfl (by decide) ?_
 rw[qKp]
 exact qsF hK
theorem qJ4(x18 x19:Int)(a20 a21:Addr)(w:World)(K:KT):Zt K .normal (qDI x18 x19 a20 a21) w=JJ false x18 x19 a20 a21 w K:=kr
theorem qfI{P:Program}{c:Code}{i:Nat}{ops:Array Oper}{r:Option Nat}{Lo X:List Nat}{K:Exit->YT}{e:qh}{w:World}(h:c=.region i ops false):CS P c r Lo X K e w=qnJ P r ops ops.toList e w (K .normal):=by subst h;rfl
def qJp:Nat:=match cA jr 60 with
 | .region i _ _=>i
 | _=>0
theorem q8V:∃ i,cA jr 60=.region i Jx false:=⟨qJp,by kernel_rfl⟩
theorem qBd(x18 x19:Int)(a20 a21:Addr):(qh.mk 104 [(2,(Value.int .i64 x18)),(1,(Value.int .i64 x19)),(7,(Value.pointer (some a20))),(3,(Value.pointer (some a21)))] [])=q5d x18 x19 a20 a21:=kr
theorem qEb(x18 x19:Int)(a20 a21:Addr)(w:World)(K:KT):JO x18 x19 a20 a21 w K=ZA 0 (q5d x18 x19 a20 a21) w (Zt K .normal):=by
 have h0:JO x18 x19 a20 a21 w K=CS P (cA jr 15) none [6] [6] (jB K) (qh.mk 104 [(2,(Value.int .i64 x18)),(1,(Value.int .i64 x19)),(7,(Value.pointer (some a20))),(3,(Value.pointer (some a21)))] []) w:=by delta JO;first | exact SGe | exact qz rfl
 have h1:CS P (cA jr 15) none [6] [6] (jB K) (qh.mk 104 [(2,(Value.int .i64 x18)),(1,(Value.int .i64 x19)),(7,(Value.pointer (some a20))),(3,(Value.pointer (some a21)))] []) w=(CS P (cA jr 30) none [2,1,7,3] [6] (q0p K) (qh.mk 104 [(2,(Value.int .i64 x18)),(1,(Value.int .i64 x19)),(7,(Value.pointer (some a20))),(3,(Value.pointer (some a21)))] []) w):=qmY (a:=(cA jr 30)) (b:=(cA jr 31)) kr kr
 have h2:CS P (cA jr 30) none [2,1,7,3] [6] (q0p K) (qh.mk 104 [(2,(Value.int .i64 x18)),(1,(Value.int .i64 x19)),(7,(Value.pointer (some a20))),(3,(Value.pointer (some a21)))] []) w=(CS P (cA jr 60) none [69,2,1,7,3] [6] (Zt K) (qh.mk 104 [(2,(Value.int .i64 x18)),(1,(Value.int .i64 x19)),(7,(Value.pointer (some a20))),(3,(Value.pointer (some a21)))] []) w):=qmY (a:=(cA jr 60)) (b:=(cA jr 61)) kr kr
 obtain⟨i,hi⟩:=q8V
 have h3:qnJ P none Jx Jx.toList (qh.mk 104 [(2,(Value.int .i64 x18)),(1,(Value.int .i64 x19)),(7,(Value.pointer (some a20))),(3,(Value.pointer (some a21)))] []) w (Zt K .normal)=ZA 0 (q5d x18 x19 a20 a21) w (Zt K .normal):=by rw[qBd];unfold ZA;rw[List.drop_zero]
 exact h0.trans (h1.trans (h2.trans ((qfI hi).trans h3)))
end Go.Fx.Tryz
