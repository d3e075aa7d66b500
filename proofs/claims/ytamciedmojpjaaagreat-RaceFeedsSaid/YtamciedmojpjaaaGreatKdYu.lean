/- A part of the proof. -/
import Derived.Test.YtamciedmojpjaaaGreatKaYu
import Derived.KernelRfl
import Derived.Test.YtamciedmojpjaaaGreatKcYu
import Derived.Laws.MakeOwn
import Derived.Test.YtamciedmojpjaaaGreatKbYu
set_option linter.unusedSectionVars false
set_option autoImplicit true
set_option relaxedAutoImplicit true
noncomputable section
namespace Go.Fx.Tryz
set_option maxRecDepth 100000
open Go Go.Fx Go.Proofs
def Zg:=qx Tryz.f87
def qLN:=Tryz.f87.results.toList
abbrev vg K:=qH P qLN K
def f87 a b c d w K:=CS P Zg none [4] [4] (vg K) (zh 54 [(VS a b c),(VI d)]) w
def qxY a b c d w K:=SC Zg 1 [4] [4] (vg K) 54 [(0,VS a b c),(1,VI d)] w
abbrev qIG K:=kq Zg 1 [4] [4] (vg K)
def qrJ a b c d e f g w K:=SC Zg 3 [4] [4] (vg K) 54 [(4,VS a b c),(0,VS d e f),(1,VI g)] w
abbrev qGH K:=kq Zg 3 [4] [4] (vg K)
def qsG a b c d e f g h i j k l m n o p q w K:=SC Zg 7 [4] [4] (vg K) 54 [(5,VS a b c),(11,VS d e f),(10,VI g),(9,VS h i j),(4,VS k l m),(0,VS n o p),(1,VI q)] w
abbrev qHr K:=kq Zg 7 [4] [4] (vg K)
def qw7 a b c d e f g h i j k l m n o p q r s t u v x y z a0 b0 w K:=SC Zg 15 [4] [4] (vg K) 54 [(6,VS a b c),(14,VS d e f),(13,VI g),(12,VS h i j),(5,VS k l m),(11,VS n o p),(10,VI q),(9,VS r s t),(4,VS u v x),(0,VS y z a0),(1,VI b0)] w
abbrev qEt K:=kq Zg 15 [4] [4] (vg K)
def qvi a b c d e f g h i j k l m n o p q r s t u v x y z a0 b0 c0 d0 e0 f0 g0 w K:=SC Zg 31 [4] [4] (vg K) 54 [(17,VQ a),(16,VI b),(15,VS c d e),(6,VS f g h),(14,VS i j k),(13,VI l),(12,VS m n o),(5,VS p q r),(11,VS s t u),(10,VI v),(9,VS x y z),(4,VS a0 b0 c0),(0,VS d0 e0 f0),(1,VI g0)] w
abbrev q5i K:=kq Zg 31 [4] [4] (vg K)
abbrev qHF K:=kq Zg 62 [5] [4] (q5i K)
def qun a b c d e f g h i j k l m n o p q r s t u v x y z a0 b0 c0 d0 e0 f0 g0 h0 i0 w K:=SC Zg 125 [5] [4] (q5i K) 54 [(7,VI a),(18,VI b),(17,VQ c),(16,VI d),(15,VS e f g),(6,VS h i j),(14,VS k l m),(13,VI n),(12,VS o p q),(5,VS r s t),(11,VS u v x),(10,VI y),(9,VS z a0 b0),(4,VS c0 d0 e0),(0,VS f0 g0 h0),(1,VI i0)] w
abbrev qgt K:=qq 0 (q5i K)
def qAh K Y6 e w:=zJ (fun e w=>CS P (cA Zg 500) none [4,5,7,6,0] [4,5] (qw [4,5,7,6,0] Y6 (qgt K)) e w) e w
abbrev q1j K Y6:=qw [4,5,7,6,0] Y6 (qgt K)
def qjI a b c d f g h i j k l m n w K Y6:=SG Zg 500 [4,5,7,6,0] [4,5] (q1j K Y6) 54 [(4,VS a b c),(5,VS d f g),(7,VI h),(6,VS i j k),(0,VS l m n)] w
abbrev quM K Y6:=kq Zg 500 [4,5,7,6,0] [4,5] (q1j K Y6)
abbrev qJv K Y6:=kq Zg 1000 [4,5,6,0,7] [4,5] (quM K Y6)
def qyn a b c d f g h i j k l m n w K Y6:=SG Zg 1001 [4,5,7,6,0] [4,5] (q1j K Y6) 54 [(4,VS a b c),(5,VS d f g),(6,VS h i j),(0,VS k l m),(7,VI n)] w
abbrev quO K Y6:=kq Zg 1001 [4,5,7,6,0] [4,5] (q1j K Y6)
abbrev Yy K Y6:=qq 1 (quO K Y6)
abbrev qi4 K Y6:=kq Zg 4004 [4,5,6,0,7] [4,5,6,0,7] (Yy K Y6)
abbrev qCt K Y6:=kq Zg 8008 [5,6,0,7,4] [4,5,6,0,7] (qi4 K Y6)
def q9d a b c d f g h i j k l m n w K Y6:=SG Zg 2003 [4,5,7,6,0] [4,5] (q1j K Y6) 54 [(4,VS a b c),(5,VS d f g),(6,VS h i j),(0,VS k l m),(7,VI n)] w
theorem qqt:q9d a c d e f g h i j k l m n w K Y6=(Y6 (ql.mk 54 [(4,(Value.slice a c d)),(5,(Value.slice e f g)),(7,(Value.int .i64 (IntKind.wrap .i64 (n+1)))),(6,(Value.slice h i j)),(0,(Value.slice k l m))] []) w):=qV kr
def qrs a b c d f g h i j k l m n w K Y6:=SG Zg 8009 [4,5,6,0,7] [4,5,6,0,7] (Yy K Y6) 54 [(5,VS a b c),(6,VS d f g),(0,VS h i j),(7,VI k),(4,VS l m n)] w
abbrev qCH K Y6:=kq Zg 8009 [4,5,6,0,7] [4,5,6,0,7] (Yy K Y6)
def ql8 a b c d e f g h i j k l m n o p w K Y6:=SC Zg 16019 [4,5,6,0,7] [4,5,6,0,7] (Yy K Y6) 54 [(8,VI a),(31,VI b),(30,VI c),(5,VS d e f),(6,VS g h i),(0,VS j k l),(7,VI m),(4,VS n o p)] w
abbrev q7o K Y6:=qq 2 (Yy K Y6)
def qr7 K Y6 Y11 e w:=zJ (fun e w=>CS P (cA Zg 64076) none [8,5,6,0,7,4] [4,5,6,0,7] (qw [8,5,6,0,7,4] Y11 (q7o K Y6)) e w) e w
abbrev VV K Y6 Y11:=qw [8,5,6,0,7,4] Y11 (q7o K Y6)
def qav a b c d f g h i j k l m n o w K Y6 Y11:=SG Zg 64076 [8,5,6,0,7,4] [4,5,6,0,7] (VV K Y6 Y11) 54 [(8,VI a),(5,VS b c d),(6,VS f g h),(0,VS i j k),(7,VI l),(4,VS m n o)] w
abbrev qiN K Y6 Y11:=kq Zg 64076 [8,5,6,0,7,4] [4,5,6,0,7] (VV K Y6 Y11)
abbrev qBs K Y6 Y11:=kq Zg 128152 [5,6,0,7,4,8] [4,5,6,0,7] (qiN K Y6 Y11)
def qj7 a b c d f g h i j k l m n o w K Y6 Y11:=SG Zg 128153 [8,5,6,0,7,4] [4,5,6,0,7] (VV K Y6 Y11) 54 [(5,VS a b c),(6,VS d f g),(0,VS h i j),(7,VI k),(4,VS l m n),(8,VI o)] w
abbrev qjf K Y6 Y11:=kq Zg 128153 [8,5,6,0,7,4] [4,5,6,0,7] (VV K Y6 Y11)
abbrev q84 K Y6 Y11:=qq 3 (qjf K Y6 Y11)
abbrev qCA K Y6 Y11:=kq Zg 512612 [5,6,0,7,4,8] [4,5,6,0,7,8] (q84 K Y6 Y11)
def qk4 a b c d f g h i j k l m n o p w K Y6 Y11:=SG Zg 1025225 [5,6,0,7,4,8] [4,5,6,0,7,8] (q84 K Y6 Y11) 54 [(46,VB a),(5,VS b c d),(6,VS f g h),(0,VS i j k),(7,VI l),(4,VS m n o),(8,VI p)] w
def q97 a b c d f g h i j k l m n o w K Y6 Y11:=SG Zg 256307 [8,5,6,0,7,4] [4,5,6,0,7] (VV K Y6 Y11) 54 [(5,VS a b c),(6,VS d f g),(0,VS h i j),(7,VI k),(4,VS l m n),(8,VI o)] w
theorem q3m:q97 a c d e f g h i j k l m n o w K Y6 Y11=(Y11 (ql.mk 54 [(8,(Value.int .i64 (IntKind.wrap .i64 (o+1)))),(5,(Value.slice a c d)),(6,(Value.slice e f g)),(0,(Value.slice h i j)),(7,(Value.int .i64 k)),(4,(Value.slice l m n))] []) w):=qV kr
theorem qff:qk4 p c d g e f h i j k l m n o a w K Y6 Y11=(qC p (qi e (fun q=>0<=a/\a<(f:Nat)/\zG (q.add (Int.toNat a*1)) (Value.bool true) w (fun r=>qi c (fun s=>0<=a/\a<(d:Nat)/\zG (s.add (Int.toNat a*1)) (Value.bool true) r (fun t=>q97 c d g e f h i j k l m n o a t K Y6 Y11))))) (q97 c d g e f h i j k l m n o a w K Y6 Y11)):=qV kr
theorem qfZ:qj7 g h i j k l e f m c n o p d w K Y6 Y11=(qi e (fun r=>0<=c/\c<(f:Nat)/\qi e (fun s=>0<=d/\d<(f:Nat)/\qf 4 (r.add (Int.toNat c*4)) w.drew (fun t=>qf 4 (s.add (Int.toNat d*4)) w.drew (fun u=>qa P 101 [(Value.agg t),(Value.agg u)] w.drew (fun v x=>∃ q:Bool,v=(.bool q)/\qk4 q g h i j k l e f m c n o p d x K Y6 Y11)))))):=qV (qT [5,6,0,7,4,8] (qjf K Y6 Y11) (QJ 3 [4,5,6,0,7,8] (q84 K Y6 Y11) (qT [46,5,6,0,7,4,8] (qCA K Y6 Y11) kr)))
theorem qcz:qav f g h i j k l c d e m n o p w K Y6 Y11=(∃ q:Int,(∀ wq,zZ w wq->(Builtin.len_ #[60] 3 #[(Value.slice c d e)]).run P wq=.ok (.int .i64 q) wq)/\qC (decide (f<q)) (qj7 g h i j k l c d e m n o p f w K Y6 Y11) (q9d n o p g h i j k l c d e m w K Y6)):=qV (qT [5,6,0,7,4,8] (qiN K Y6 Y11) (qT [35,5,6,0,7,4,8] (qBs K Y6 Y11) kr))
theorem qf4:ql8 a p q c d e f g h i j k l m n o w K Y6=(za (qr7 K Y6) (ql.mk 54 [(8,(Value.int .i64 a)),(5,(Value.slice c d e)),(6,(Value.slice f g h)),(0,(Value.slice i j k)),(7,(Value.int .i64 l)),(4,(Value.slice m n o))] []) w):=Eq.trans (b:=CS P (cA Zg 16019) none [4,5,6,0,7] [4,5,6,0,7] (Yy K Y6) (ql.mk 54 [(8,(VI a)),(31,(VI p)),(30,(VI q)),(5,(VS c d e)),(6,(VS f g h)),(0,(VS i j k)),(7,(VI l)),(4,(VS m n o))] []) w) kr (Eq.trans (YD 2 [4,5,6,0,7] (q7o K Y6) kr) ((qY (b:=(cA Zg 64076)) (X':=[4,5,6,0,7]) (H:=[8,5,6,0,7,4]) kr kr kr).trans kr))
theorem qoj:qrs d e f g h i j k l c m n o w K Y6=(ql8 (IntKind.wrap .i64 (c+1)) (IntKind.wrap .i64 (c+1)) c d e f g h i j k l c m n o w K Y6):=qV (qT [8,5,6,0,7,4] (qCH K Y6) kr)
theorem qmX:qyn f g h i j k d e l m n o c w K Y6=(qi d (fun q=>0<=c/\c<(e:Nat)/\∃ p:Bool,w.cell? (q.add (Int.toNat c*1))=some (.bool p)/\qC (!p) (q9d f g h i j k d e l m n o c w K Y6) (qrs i j k d e l m n o c f g h w K Y6))):=qV (qT [4,5,6,0,7] (quO K Y6) (QJ 1 [4,5,6,0,7] (Yy K Y6) (qT [5,6,0,7,4] (qi4 K Y6) (qT [29,4,5,6,0,7] (qCt K Y6) kr))))
def qkt a b c w K:=SG Zg 63 [4] [4] (vg K) 54 [(5,VS a b c)] w
abbrev qCU K:=kq Zg 63 [4] [4] (vg K)
theorem qdU:qkt c d e w K=(K (Value.slice c d e) w):=qV (qT [4] (qCU K) kr)
theorem qhg:qjI j k l c d e f m n o g h i w K Y6=(∃ p:Int,(∀ wq,zZ w wq->(Builtin.len_ #[60] 3 #[(Value.slice g h i)]).run P wq=.ok (.int .i64 p) wq)/\qC (decide (f<p)) (qyn j k l c d e m n o g h i f w K Y6) (qkt c d e w K)):=qV (qT [4,5,6,0,7] (quM K Y6) (qT [22,4,5,6,0,7] (qJv K Y6) kr))
theorem qoQ:qun a o p q r s t c d e u v x y z a0 b0 f g h c0 d0 e0 f0 g0 h0 i0 i j k l m n j0 w K=(za (qAh K) (ql.mk 54 [(4,(Value.slice i j k)),(5,(Value.slice f g h)),(7,(Value.int .i64 a)),(6,(Value.slice c d e)),(0,(Value.slice l m n))] []) w):=Eq.trans (b:=CS P (cA Zg 125) none [5] [4] (q5i K) (ql.mk 54 [(7,(VI a)),(18,(VI o)),(17,(VP (some p))),(16,(VI q)),(15,(VS r s t)),(6,(VS c d e)),(14,(VS u v x)),(13,(VI y)),(12,(VS z a0 b0)),(5,(VS f g h)),(11,(VS c0 d0 e0)),(10,(VI f0)),(9,(VS g0 h0 i0)),(4,(VS i j k)),(0,(VS l m n)),(1,(VI j0))] []) w) kr (Eq.trans (YD 0 [4,5] (qgt K) kr) ((qY (b:=(cA Zg 500)) (X':=[4,5]) (H:=[4,5,7,6,0]) kr kr kr).trans kr))
theorem qpv:qvi d e f g h i j k l m n o p q r s t u v x y z a0 b0 c0 d0 e0 f0 g0 h0 i0 c w K=(qun c c d e f g h i j k l m n o p q r s t u v x y z a0 b0 c0 d0 e0 f0 g0 h0 i0 c w K):=Eq.trans (b:=CS P (cA Zg 31) none [4] [4] (vg K) (ql.mk 54 [(17,(VP (some d))),(16,(VI e)),(15,(VS f g h)),(6,(VS i j k)),(14,(VS l m n)),(13,(VI o)),(12,(VS p q r)),(5,(VS s t u)),(11,(VS v x y)),(10,(VI z)),(9,(VS a0 b0 c0)),(4,(VS d0 e0 f0)),(0,(VS g0 h0 i0)),(1,(VI c))] []) w) kr (Eq.trans (zN [5] (q5i K) kr) (Eq.trans (zN [4,5,7,6,0] (qHF K) kr) kr))
theorem qlS:qw7 d e f g h i j k l m n o p q r s t u v x y z a0 b0 c0 d0 c w K=(qi d (fun e0=>0<=c/\c<(e:Nat)/\zG (e0.add (Int.toNat c*1)) (Value.bool true) w (fun f0=>qvi (e0.add (Int.toNat c*1)) c d e f d e f g h i j k l m n o p q r s t u v x y z a0 b0 c0 d0 c f0 K))):=Eq.trans (b:=CS P (cA Zg 15) none [4] [4] (vg K) (ql.mk 54 [(6,(VS d e f)),(14,(VS g h i)),(13,(VI j)),(12,(VS k l m)),(5,(VS n o p)),(11,(VS q r s)),(10,(VI t)),(9,(VS u v x)),(4,(VS y z a0)),(0,(VS b0 c0 d0)),(1,(VI c))] []) w) kr (Eq.trans (zN [4,5,6,0,1] (qEt K) kr) kr)
theorem qnq:qsG f g h i j k l m n o p q r c d e s w K=(∃ t:Int,(∀ wq,zZ w wq->(Builtin.len_ #[60] 3 #[(Value.slice c d e)]).run P wq=.ok (.int .i64 t) wq)/\∃ (u:OA) (v x:Nat),∃ y:World,(Instr.makeSlice 150 (Value.int .i64 t) (Value.int .i64 t)).run P w=.ok (.slice u v x) y/\qw7 u v x u v x t c d e f g h i j k l m n o p q r c d e s y K):=Eq.trans (b:=CS P (cA Zg 7) none [4] [4] (vg K) (ql.mk 54 [(5,(VS f g h)),(11,(VS i j k)),(10,(VI l)),(9,(VS m n o)),(4,(VS p q r)),(0,(VS c d e)),(1,(VI s))] []) w) kr (Eq.trans (zN [4,5,6,0,1] (qHr K) kr) kr)
theorem qoE:qrJ f g h c d e i w K=(∃ j:Int,(∀ wq,zZ w wq->(Builtin.len_ #[60] 3 #[(Value.slice c d e)]).run P wq=.ok (.int .i64 j) wq)/\∃ (k:OA) (l m:Nat),∃ n:World,(Instr.makeSlice 150 (Value.int .i64 j) (Value.int .i64 j)).run P w=.ok (.slice k l m) n/\qsG k l m k l m j c d e f g h c d e i n K):=Eq.trans (b:=CS P (cA Zg 3) none [4] [4] (vg K) (ql.mk 54 [(4,(VS f g h)),(0,(VS c d e)),(1,(VI i))] []) w) kr (Eq.trans (zN [4,5,0,1] (qGH K) kr) kr)
theorem qp7:qxY c d e f w K=(qrJ none 0 0 c d e f w K):=Eq.trans (b:=CS P (cA Zg 1) none [4] [4] (vg K) (ql.mk 54 [(0,(VS c d e)),(1,(VI f))] []) w) kr (Eq.trans (zN [4,0,1] (qIG K) kr) kr)
theorem qIU:f87 a b c d w K=(qxY a b c d w K):=kr
theorem qJp a b c d w K(h:f87 a b c d w K):qa P 87 [(Value.slice a b c),(Value.int .i64 d)] w K:=zj Zg Tryz.func87 h
def ZF:=qx Tryz.f64
def qMb:=Tryz.f64.results.toList
abbrev Qq K:=qH P qMb K
def f64 a b c w K:=CS P ZF none [6] [6] (Qq K) (zh 59 [(Value.agg a),(VI b),(VI c)]) w
def qxI a b c w K:=SC ZF 1 [6] [6] (Qq K) 59 [(0,Value.agg a),(1,VI b),(2,VI c)] w
abbrev qFg K:=kq ZF 1 [6] [6] (Qq K)
def qv4 a b c d e f g w K:=SC ZF 3 [6] [6] (Qq K) 59 [(6,VS a b c),(3,VQ d),(0,Value.agg e),(1,VI f),(2,VI g)] w
abbrev qGv K:=kq ZF 3 [6] [6] (Qq K)
def qsp a b c d e f g h i j k l m n w K:=SC ZF 7 [6] [6] (Qq K) 59 [(7,VS a b c),(12,VS d e f),(11,VI g),(6,VS h i j),(3,VQ k),(0,Value.agg l),(1,VI m),(2,VI n)] w
abbrev q5v K:=kq ZF 7 [6] [6] (Qq K)
abbrev qGj K:=kq ZF 14 [7] [6] (q5v K)
def qv8 a b c d e f g h i j k l m n o w K:=SC ZF 29 [7] [6] (q5v K) 59 [(8,VI a),(7,VS b c d),(12,VS e f g),(11,VI h),(6,VS i j k),(3,VQ l),(0,Value.agg m),(1,VI n),(2,VI o)] w
abbrev qgA K:=qq 0 (q5v K)
def qBQ K Y4 e w:=zJ (fun e w=>CS P (cA ZF 116) none [6,7,8,3,1] [6,7] (qw [6,7,8,3,1] Y4 (qgA K)) e w) e w
abbrev q1e K Y4:=qw [6,7,8,3,1] Y4 (qgA K)
def qll a b c d f g h i j w K Y4:=SG ZF 116 [6,7,8,3,1] [6,7] (q1e K Y4) 59 [(6,VS a b c),(7,VS d f g),(8,VI h),(3,VQ i),(1,VI j)] w
abbrev qtN K Y4:=kq ZF 116 [6,7,8,3,1] [6,7] (q1e K Y4)
abbrev qGo K Y4:=kq ZF 232 [6,7,3,1,8] [6,7] (qtN K Y4)
def qsV a b c d f g h i j w K Y4:=SG ZF 233 [6,7,8,3,1] [6,7] (q1e K Y4) 59 [(6,VS a b c),(7,VS d f g),(3,VQ h),(1,VI i),(8,VI j)] w
abbrev qrf K Y4:=kq ZF 233 [6,7,8,3,1] [6,7] (q1e K Y4)
abbrev ZJ K Y4:=qq 1 (qrf K Y4)
abbrev qyQ K Y4:=kq ZF 932 [6,7,3,1,8] [6,7,3,1,8] (ZJ K Y4)
abbrev qAj K Y4:=kq ZF 1864 [3,7,1,6,8] [6,7,3,1,8] (qyQ K Y4)
def q8S a b c d f g h i j w K Y4:=SG ZF 467 [6,7,8,3,1] [6,7] (q1e K Y4) 59 [(6,VS a b c),(7,VS d f g),(3,VQ h),(1,VI i),(8,VI j)] w
theorem qpE:q8S a c d e f g h i j w K Y4=(Y4 (ql.mk 59 [(6,(Value.slice a c d)),(7,(Value.slice e f g)),(8,(Value.int .i64 (IntKind.wrap .i64 (j+1)))),(3,(Value.pointer (some h))),(1,(Value.int .i64 i))] []) w):=qV kr
def qso a b c d f g h i j w K Y4:=SG ZF 1865 [6,7,3,1,8] [6,7,3,1,8] (ZJ K Y4) 59 [(3,VQ a),(7,VS b c d),(1,VI f),(6,VS g h i),(8,VI j)] w
abbrev qCN K Y4:=kq ZF 1865 [6,7,3,1,8] [6,7,3,1,8] (ZJ K Y4)
def qsN a b c d e f g h i j k l m n o p q r s t w K Y4:=SC ZF 3731 [6,7,3,1,8] [6,7,3,1,8] (ZJ K Y4) 59 [(9,VS a b c),(30,VS d e f),(29,VI g),(28,VS h i j),(27,VQ k),(3,VQ l),(7,VS m n o),(1,VI p),(6,VS q r s),(8,VI t)] w
abbrev qBz K Y4:=kq ZF 3731 [6,7,3,1,8] [6,7,3,1,8] (ZJ K Y4)
def qrH a b c d e f g h i j k l m n o p q r s t u w K Y4:=SC ZF 7463 [6,7,3,1,8] [6,7,3,1,8] (ZJ K Y4) 59 [(10,VI a),(9,VS b c d),(30,VS e f g),(29,VI h),(28,VS i j k),(27,VQ l),(3,VQ m),(7,VS n o p),(1,VI q),(6,VS r s t),(8,VI u)] w
abbrev q77 K Y4:=qq 2 (ZJ K Y4)
def quF K Y4 Y10 e w:=zJ (fun e w=>CS P (cA ZF 29852) none [10,3,7,1,9,6,8] [6,7,3,1,8] (qw [10,3,7,1,9,6,8] Y10 (q77 K Y4)) e w) e w
abbrev Vn K Y4 Y10:=qw [10,3,7,1,9,6,8] Y10 (q77 K Y4)
def qcV a b c d f g h i j k l m n w K Y4 Y10:=SG ZF 29852 [10,3,7,1,9,6,8] [6,7,3,1,8] (Vn K Y4 Y10) 59 [(10,VI a),(3,VQ b),(7,VS c d f),(1,VI g),(9,VS h i j),(6,VS k l m),(8,VI n)] w
abbrev qiF K Y4 Y10:=kq ZF 29852 [10,3,7,1,9,6,8] [6,7,3,1,8] (Vn K Y4 Y10)
abbrev qBO K Y4 Y10:=kq ZF 59704 [3,7,1,9,6,8,10] [6,7,3,1,8] (qiF K Y4 Y10)
def qkJ a b c d f g h i j k l m n w K Y4 Y10:=SG ZF 59705 [10,3,7,1,9,6,8] [6,7,3,1,8] (Vn K Y4 Y10) 59 [(3,VQ a),(7,VS b c d),(1,VI f),(9,VS g h i),(6,VS j k l),(8,VI m),(10,VI n)] w
abbrev qjP K Y4 Y10:=kq ZF 59705 [10,3,7,1,9,6,8] [6,7,3,1,8] (Vn K Y4 Y10)
abbrev q7H K Y4 Y10:=qq 3 (qjP K Y4 Y10)
abbrev qCh K Y4 Y10:=kq ZF 238820 [3,7,1,9,6,8,10] [6,7,3,1,8,9,10] (q7H K Y4 Y10)
def q0t a b c d f g h i j k l m n o w K Y4 Y10:=SG ZF 477641 [3,7,1,9,6,8,10] [6,7,3,1,8,9,10] (q7H K Y4 Y10) 59 [(50,VB a),(3,VQ b),(7,VS c d f),(1,VI g),(9,VS h i j),(6,VS k l m),(8,VI n),(10,VI o)] w
def q2X a b c d f g h i j k l m n w K Y4 Y10:=SG ZF 119411 [10,3,7,1,9,6,8] [6,7,3,1,8] (Vn K Y4 Y10) 59 [(3,VQ a),(7,VS b c d),(1,VI f),(9,VS g h i),(6,VS j k l),(8,VI m),(10,VI n)] w
theorem qg8:q2X a c d e f g h i j k l m n w K Y4 Y10=(Y10 (ql.mk 59 [(10,(Value.int .i64 (IntKind.wrap .i64 (n+1)))),(3,(Value.pointer (some a))),(7,(Value.slice c d e)),(1,(Value.int .i64 f)),(9,(Value.slice g h i)),(6,(Value.slice j k l)),(8,(Value.int .i64 m))] []) w):=qV kr
theorem q4A:q0t p c d e f g h i j k l m n a w K Y4 Y10=(qC p (∃ (q:OA) (r s:Nat),w.cell? (c.add 1)=some (.slice q r s)/\qi q (fun t=>0<=a/\a<(r:Nat)/\∃ o:Int,w.cell? (t.add (Int.toNat a*1))=some (.int .i64 o)/\qi d (fun u=>0<=o/\o<(e:Nat)/\zG (u.add (Int.toNat o*1)) (Value.bool true) w (fun v=>q2X c d e f g h i j k l m n a v K Y4 Y10)))) (q2X c d e f g h i j k l m n a w K Y4 Y10)):=qV kr
theorem qgV:qkJ d h i j e f g k l m n o c w K Y4 Y10=(qi f (fun t=>0<=c/\c<(g:Nat)/\∃ p:Bool,w.cell? (t.add (Int.toNat c*1))=some (.bool p)/\qC p (∃ (q:OA) (r u:Nat),w.cell? (d.add 1)=some (.slice q r u)/\qi q (fun v=>0<=c/\c<(r:Nat)/\∃ s:Int,w.cell? (v.add (Int.toNat c*1))=some (.int .i64 s)/\q0t (decide (s > e)) d h i j e f g k l m n o c w K Y4 Y10)) (q0t false d h i j e f g k l m n o c w K Y4 Y10))):=qV (qT [3,7,1,9,6,8,10] (qjP K Y4 Y10) (QJ 3 [6,7,3,1,8,9,10] (q7H K Y4 Y10) (qT [50,3,7,1,9,6,8,10] (qCh K Y4 Y10) kr)))
theorem qaC:qcV d c e f g h m n o i j k l w K Y4 Y10=(∃ (p:OA) (q r:Nat),w.cell? c=some (.slice p q r)/\∃ s:Int,(∀ wq,zZ w wq->(Builtin.len_ #[60] 3 #[(Value.slice p q r)]).run P wq=.ok (.int .i64 s) wq)/\qC (decide (d<s)) (qkJ c e f g h m n o i j k l d w K Y4 Y10) (q8S i j k e f g c h l w K Y4)):=qV (qT [3,7,1,9,6,8,10] (qiF K Y4 Y10) (qT [35,3,7,1,9,6,8,10] (qBO K Y4 Y10) kr))
theorem qnB:qrH a c d e o p q r s t u v f g h i j k l m n w K Y4=(za (quF K Y4) (ql.mk 59 [(10,(Value.int .i64 a)),(3,(Value.pointer (some f))),(7,(Value.slice g h i)),(1,(Value.int .i64 j)),(9,(Value.slice c d e)),(6,(Value.slice k l m)),(8,(Value.int .i64 n))] []) w):=Eq.trans (b:=CS P (cA ZF 7463) none [6,7,3,1,8] [6,7,3,1,8] (ZJ K Y4) (ql.mk 59 [(10,(VI a)),(9,(VS c d e)),(30,(VS o p q)),(29,(VI r)),(28,(VS s t u)),(27,(VP (some v))),(3,(VP (some f))),(7,(VS g h i)),(1,(VI j)),(6,(VS k l m)),(8,(VI n))] []) w) kr (Eq.trans (YD 2 [6,7,3,1,8] (q77 K Y4) kr) ((qY (b:=(cA ZF 29852)) (X':=[6,7,3,1,8]) (H:=[10,3,7,1,9,6,8]) kr kr kr).trans kr))
theorem qpA:qsN c d e f g h i j k l m n o p q r s t u v w K Y4=(qrH 0 c d e f g h i j k l m n o p q r s t u v w K Y4):=Eq.trans (b:=CS P (cA ZF 3731) none [6,7,3,1,8] [6,7,3,1,8] (ZJ K Y4) (ql.mk 59 [(9,(VS c d e)),(30,(VS f g h)),(29,(VI i)),(28,(VS j k l)),(27,(VP (some m))),(3,(VP (some n))),(7,(VS o p q)),(1,(VI r)),(6,(VS s t u)),(8,(VI v))] []) w) kr (Eq.trans (zN [10,3,7,1,9,6,8] (qBz K Y4) kr) kr)
theorem qm0:qso c e f g h i j k d w K Y4=(∃ (l:OA) (m n:Nat),w.cell? c=some (.slice l m n)/\qa P 87 [(Value.slice l m n),(Value.int .i64 d)] w (fun r s=>∃ (o:OA) (p q:Nat),r=(.slice o p q)/\qsN o p q o p q d l m n c c e f g h i j k d s K Y4)):=qV (qT [3,7,1,9,6,8] (qCN K Y4) kr)
theorem qqi:qsV f g h i j k d e c w K Y4=(∃ (l:OA) (m o:Nat),w.cell? (d.add 1)=some (.slice l m o)/\qi l (fun p=>0<=c/\c<(m:Nat)/\∃ n:Int,w.cell? (p.add (Int.toNat c*1))=some (.int .i64 n)/\qC (n != e) (q8S f g h i j k d e c w K Y4) (qso d i j k e f g h c w K Y4))):=qV (qT [6,7,3,1,8] (qrf K Y4) (QJ 1 [6,7,3,1,8] (ZJ K Y4) (qT [3,7,1,6,8] (qyQ K Y4) (qT [26,6,7,3,1,8] (qAj K Y4) kr))))
def ql3 a b c w K:=SG ZF 15 [6] [6] (Qq K) 59 [(7,VS a b c)] w
abbrev qBh K:=kq ZF 15 [6] [6] (Qq K)
theorem qdZ:ql3 c d e w K=(K (Value.slice c d e) w):=qV (qT [6] (qBh K) kr)
theorem qeF:qll h i j c d e f g k w K Y4=(∃ (l:OA) (m n:Nat),w.cell? g=some (.slice l m n)/\∃ o:Int,(∀ wq,zZ w wq->(Builtin.len_ #[60] 3 #[(Value.slice l m n)]).run P wq=.ok (.int .i64 o) wq)/\qC (decide (f<o)) (qsV h i j c d e g k f w K Y4) (ql3 c d e w K)):=qV (qT [6,7,3,1,8] (qtN K Y4) (qT [17,6,7,3,1,8] (qGo K Y4) kr))
theorem qoR:qv8 a c d e k l m n f g h i o j p w K=(za (qBQ K) (ql.mk 59 [(6,(Value.slice f g h)),(7,(Value.slice c d e)),(8,(Value.int .i64 a)),(3,(Value.pointer (some i))),(1,(Value.int .i64 j))] []) w):=Eq.trans (b:=CS P (cA ZF 29) none [7] [6] (q5v K) (ql.mk 59 [(8,(VI a)),(7,(VS c d e)),(12,(VS k l m)),(11,(VI n)),(6,(VS f g h)),(3,(VP (some i))),(0,(Value.agg o)),(1,(VI j)),(2,(VI p))] []) w) kr (Eq.trans (YD 0 [6,7] (qgA K) kr) ((qY (b:=(cA ZF 116)) (X':=[6,7]) (H:=[6,7,8,3,1]) kr kr kr).trans kr))
theorem qnR:qsp c d e f g h i j k l m n o p w K=(qv8 0 c d e f g h i j k l m n o p w K):=Eq.trans (b:=CS P (cA ZF 7) none [6] [6] (Qq K) (ql.mk 59 [(7,(VS c d e)),(12,(VS f g h)),(11,(VI i)),(6,(VS j k l)),(3,(VP (some m))),(0,(Value.agg n)),(1,(VI o)),(2,(VI p))] []) w) kr (Eq.trans (zN [7] (q5v K) kr) (Eq.trans (zN [6,7,8,3,1] (qGj K) kr) kr))
theorem qp4:qv4 d e f g h i c w K=(∃ (j:OA) (k l:Nat),∃ m:World,(Instr.makeSlice 150 (Value.int .i64 c) (Value.int .i64 c)).run P w=.ok (.slice j k l) m/\qsp j k l j k l c d e f g h i c m K):=Eq.trans (b:=CS P (cA ZF 3) none [6] [6] (Qq K) (ql.mk 59 [(6,(VS d e f)),(3,(VP (some g))),(0,(Value.agg h)),(1,(VI i)),(2,(VI c))] []) w) kr (Eq.trans (zN [6,7,3,1] (qGv K) kr) kr)
theorem qmC:qxI c d e w K=(qt c 64 w (fun f g=>qv4 none 0 0 (Addr.mk f 0 none) c d e g K)):=Eq.trans (b:=CS P (cA ZF 1) none [6] [6] (Qq K) (ql.mk 59 [(0,(Value.agg c)),(1,(VI d)),(2,(VI e))] []) w) kr (Eq.trans (zN [6,3,1,2] (qFg K) kr) kr)
theorem qHo:f64 a b c w K=(qxI a b c w K):=kr
theorem qEY a b c w K(h:f64 a b c w K):qa P 64 [(Value.agg a),(Value.int .i64 b),(Value.int .i64 c)] w K:=zj ZF Tryz.func64 h
def c51:=qx Tryz.f51
def qLu:=Tryz.f51.results.toList
abbrev jc K:=qH P qLu K
def f51 a b c w K:=CS P c51 none [2] [2] (jc K) (zh 24 [(VS a b c)]) w
def qxX a b c w K:=SC c51 1 [2] [2] (jc K) 24 [(0,VS a b c)] w
abbrev qHG K:=kq c51 1 [2] [2] (jc K)
def quC a b c d e f w K:=SC c51 3 [2] [2] (jc K) 24 [(2,VS a b c),(0,VS d e f)] w
abbrev qHU K:=kq c51 3 [2] [2] (jc K)
def qtw a b c d e f g h i j k w K:=SC c51 7 [2] [2] (jc K) 24 [(3,VQ a),(7,Value.agg b),(6,VS c d e),(2,VS f g h),(0,VS i j k)] w
abbrev qIV K:=kq c51 7 [2] [2] (jc K)
def qta a b c d e f g h i j k l m n o p q w K:=SC c51 15 [2] [2] (jc K) 24 [(4,VS a b c),(8,VS d e f),(3,VQ g),(7,Value.agg h),(6,VS i j k),(2,VS l m n),(0,VS o p q)] w
abbrev q3p K:=kq c51 15 [2] [2] (jc K)
abbrev qHJ K:=kq c51 30 [4] [2] (q3p K)
def qw5 a b c d e f g h i j k l m n o p q r w K:=SC c51 61 [4] [2] (q3p K) 24 [(5,VI a),(4,VS b c d),(8,VS e f g),(3,VQ h),(7,Value.agg i),(6,VS j k l),(2,VS m n o),(0,VS p q r)] w
abbrev qdx K:=qq 0 (q3p K)
def qBZ K Y5 e w:=zJ (fun e w=>CS P (cA c51 244) none [5,0,3,4,2] [2,4] (qw [5,0,3,4,2] Y5 (qdx K)) e w) e w
abbrev q0Y K Y5:=qw [5,0,3,4,2] Y5 (qdx K)
def qkw a b c d f g h i j k l w K Y5:=SG c51 244 [5,0,3,4,2] [2,4] (q0Y K Y5) 24 [(5,VI a),(0,VS b c d),(3,VQ f),(4,VS g h i),(2,VS j k l)] w
abbrev qz8 K Y5:=kq c51 244 [5,0,3,4,2] [2,4] (q0Y K Y5)
abbrev qIz K Y5:=kq c51 488 [0,3,2,5,4] [2,4] (qz8 K Y5)
def qvS a b c d f g h i j k l w K Y5:=SG c51 489 [5,0,3,4,2] [2,4] (q0Y K Y5) 24 [(0,VS a b c),(3,VQ d),(2,VS f g h),(5,VI i),(4,VS j k l)] w
abbrev qxU K Y5:=kq c51 489 [5,0,3,4,2] [2,4] (q0Y K Y5)
abbrev qET K Y5:=qq 1 (qxU K Y5)
def qy3 a b c d f g h i j k l w K Y5:=SG c51 979 [5,0,3,4,2] [2,4] (q0Y K Y5) 24 [(0,VS a b c),(3,VQ d),(4,VS f g h),(2,VS i j k),(5,VI l)] w
theorem qmW:qy3 a c d e f g h i j k l w K Y5=(Y5 (ql.mk 24 [(5,(Value.int .i64 (IntKind.wrap .i64 (l+1)))),(0,(Value.slice a c d)),(3,(Value.pointer (some e))),(4,(Value.slice f g h)),(2,(Value.slice i j k))] []) w):=qV kr
theorem qqp:qvS c d e f h i j g k l m w K Y5=(qf 20 f w (fun x=>∃ q:Int,(∀ wq,zZ w wq->(Builtin.len_ #[22] 3 #[(Value.slice c d e)]).run P wq=.ok (.int .i64 q) wq)/\qa P 64 [(Value.agg x),(Value.int .i64 g),(Value.int .i64 q)] w (fun y z=>∃ (n:OA) (o p:Nat),y=(.slice n o p)/\qJ 1 [(Value.slice n o p)]/\qt (([(Value.slice n o p)].map fun(v:Value)=>v.cells.toList).flatten.toArray) 150 z (fun a0 b0=>∃ (r:OA) (s t:Nat),∃ u:World,(Builtin.append_ #[130,130] 130 #[(Value.slice k l m),(Value.slice (some (Addr.mk a0 0 none)) 1 1)]).run P b0=.ok (.slice r s t) u/\qy3 c d e f r s t h i j g u K Y5)))):=qV (qT [0,3,4,2,5] (qxU K Y5) (QJ 1 [2,4,0,3,5] (qET K Y5) kr))
def qrT a b c w K:=SG c51 31 [2] [2] (jc K) 24 [(4,VS a b c)] w
abbrev qAX K:=kq c51 31 [2] [2] (jc K)
theorem qpg:qrT c d e w K=(K (Value.slice c d e) w):=qV (qT [2] (qAX K) kr)
theorem qdI:qkw c d e f j g h i k l m w K Y5=(∃ n:Int,(∀ wq,zZ w wq->(Builtin.len_ #[22] 3 #[(Value.slice d e f)]).run P wq=.ok (.int .i64 n) wq)/\qC (decide (c<n)) (qvS d e f j k l m c g h i w K Y5) (qrT g h i w K)):=qV (qT [0,3,2,5,4] (qz8 K Y5) (qT [12,0,3,2,5,4] (qIz K Y5) kr))
theorem qqk:qw5 a c d e m n o f p q r s g h i j k l w K=(za (qBZ K) (ql.mk 24 [(5,(Value.int .i64 a)),(0,(Value.slice j k l)),(3,(Value.pointer (some f))),(4,(Value.slice c d e)),(2,(Value.slice g h i))] []) w):=Eq.trans (b:=CS P (cA c51 61) none [4] [2] (q3p K) (ql.mk 24 [(5,(VI a)),(4,(VS c d e)),(8,(VS m n o)),(3,(VP (some f))),(7,(Value.agg p)),(6,(VS q r s)),(2,(VS g h i)),(0,(VS j k l))] []) w) kr (Eq.trans (YD 0 [2,4] (qdx K) kr) ((qY (b:=(cA c51 244)) (X':=[2,4]) (H:=[5,0,3,4,2]) kr kr kr).trans kr))
theorem qpm:qta c d e f g h i j k l m n o p q r s w K=(qw5 0 c d e f g h i j k l m n o p q r s w K):=Eq.trans (b:=CS P (cA c51 15) none [2] [2] (jc K) (ql.mk 24 [(4,(VS c d e)),(8,(VS f g h)),(3,(VP (some i))),(7,(Value.agg j)),(6,(VS k l m)),(2,(VS n o p)),(0,(VS q r s))] []) w) kr (Eq.trans (zN [4] (q3p K) kr) (Eq.trans (zN [5,0,3,4,2] (qHJ K) kr) kr))
theorem qq6:qtw c d e f g h i j k l m w K=(∃ (n:OA) (o p:Nat),∃ q:World,(Instr.buildSlice 130 0 ([]:List (Nat × Value)).toArray).run P w=.ok (.slice n o p) q/\qta n o p n o p c d e f g h i j k l m q K):=Eq.trans (b:=CS P (cA c51 7) none [2] [2] (jc K) (ql.mk 24 [(3,(VP (some c))),(7,(Value.agg d)),(6,(VS e f g)),(2,(VS h i j)),(0,(VS k l m))] []) w) kr (Eq.trans (zN [0,3,4,2] (qIV K) kr) kr)
theorem qqg:quC f g h c d e w K=(qa P 17 [(Value.slice c d e)] w (fun k l=>∃ i:Array Value,k=(.agg i)/\qt (qn P 64) 64 l (fun j m=>qN 20 (Addr.mk j 0 none) i m (fun n=>qtw (Addr.mk j 0 none) i c d e f g h c d e n K)))):=Eq.trans (b:=CS P (cA c51 3) none [2] [2] (jc K) (ql.mk 24 [(2,(VS f g h)),(0,(VS c d e))] []) w) kr (Eq.trans (zN [0,3,2] (qHU K) kr) kr)
theorem qm3:qxX c d e w K=(quC none 0 0 c d e w K):=Eq.trans (b:=CS P (cA c51 1) none [2] [2] (jc K) (ql.mk 24 [(0,(VS c d e))] []) w) kr (Eq.trans (zN [0,2] (qHG K) kr) kr)
theorem qEw:f51 a b c w K=(qxX a b c w K):=kr
theorem qEE a b c w K(h:f51 a b c w K):qa P 51 [(Value.slice a b c)] w K:=zj c51 Tryz.func51 h
def ZK:=qx Tryz.f52
def qM2:=Tryz.f52.results.toList
abbrev Qr K:=qH P qM2 K
def f52 a b c d e f g w K:=CS P ZK none [6] [6] (Qr K) (zh 72 [(VS a b c),(VS d e f),(Value.int .u32 g)]) w
def quI a b c d e f g w K:=SC ZK 1 [6] [6] (Qr K) 72 [(0,VS a b c),(1,VS d e f),(2,Value.int .u32 g)] w
abbrev qIu K:=kq ZK 1 [6] [6] (Qr K)
def qrb a b c d e f g h i j w K:=SC ZK 3 [6] [6] (Qr K) 72 [(6,VS a b c),(0,VS d e f),(1,VS g h i),(2,Value.int .u32 j)] w
abbrev qFQ K:=kq ZK 3 [6] [6] (Qr K)
def qxx a b c d e f g h i j k l m n o p w K:=SC ZK 7 [6] [6] (Qr K) 72 [(7,VS a b c),(12,VS d e f),(6,VS g h i),(0,VS j k l),(1,VS m n o),(2,Value.int .u32 p)] w
abbrev q3r K:=kq ZK 7 [6] [6] (Qr K)
abbrev qIi K:=kq ZK 14 [7] [6] (q3r K)
def qrq a b c d e f g h i j k l m n o p q w K:=SC ZK 29 [7] [6] (q3r K) 72 [(8,VI a),(7,VS b c d),(12,VS e f g),(6,VS h i j),(0,VS k l m),(1,VS n o p),(2,Value.int .u32 q)] w
abbrev qdJ K:=qq 0 (q3r K)
def qAC K Y4 e w:=zJ (fun e w=>CS P (cA ZK 116) none [6,7,8,2,0,1] [6,7] (qw [6,7,8,2,0,1] Y4 (qdJ K)) e w) e w
abbrev q0s K Y4:=qw [6,7,8,2,0,1] Y4 (qdJ K)
def qi9 a b c d f g h i j k l m n o w K Y4:=SG ZK 116 [6,7,8,2,0,1] [6,7] (q0s K Y4) 72 [(6,VS a b c),(7,VS d f g),(8,VI h),(2,Value.int .u32 i),(0,VS j k l),(1,VS m n o)] w
abbrev qu7 K Y4:=kq ZK 116 [6,7,8,2,0,1] [6,7] (q0s K Y4)
abbrev qFt K Y4:=kq ZK 232 [6,7,2,0,1,8] [6,7] (qu7 K Y4)
def qwH a b c d f g h i j k l m n o w K Y4:=SG ZK 233 [6,7,8,2,0,1] [6,7] (q0s K Y4) 72 [(6,VS a b c),(7,VS d f g),(2,Value.int .u32 h),(0,VS i j k),(1,VS l m n),(8,VI o)] w
abbrev qti K Y4:=kq ZK 233 [6,7,8,2,0,1] [6,7] (q0s K Y4)
abbrev q5u K Y4:=qq 1 (qti K Y4)
abbrev qHH K Y4:=kq ZK 932 [6,7,2,0,1,8] [6,7,2,0,1,8] (q5u K Y4)
def qrk a b c d e f g h i j k l m n o w K Y4:=SC ZK 1865 [6,7,2,0,1,8] [6,7,2,0,1,8] (q5u K Y4) 72 [(9,VI a),(6,VS b c d),(7,VS e f g),(2,Value.int .u32 h),(0,VS i j k),(1,VS l m n),(8,VI o)] w
abbrev q72 K Y4:=qq 2 (q5u K Y4)
def qCd K Y4 Y7 e w:=zJ (fun e w=>CS P (cA ZK 7460) none [6,7,2,0,1,8,9] [6,7,2,0,1,8] (qw [6,7,2,0,1,8,9] Y7 (q72 K Y4)) e w) e w
abbrev q1f K Y4 Y7:=qw [6,7,2,0,1,8,9] Y7 (q72 K Y4)
def qkZ a b c d f g h i j k l m n o p w K Y4 Y7:=SG ZK 7460 [6,7,2,0,1,8,9] [6,7,2,0,1,8] (q1f K Y4 Y7) 72 [(6,VS a b c),(7,VS d f g),(2,Value.int .u32 h),(0,VS i j k),(1,VS l m n),(8,VI o),(9,VI p)] w
abbrev qj2 K Y4 Y7:=kq ZK 7460 [6,7,2,0,1,8,9] [6,7,2,0,1,8] (q1f K Y4 Y7)
abbrev qDd K Y4 Y7:=kq ZK 14920 [6,7,2,0,1,8,9] [6,7,2,0,1,8] (qj2 K Y4 Y7)
def qrl a b c d f g h i j k l m n o p w K Y4 Y7:=SG ZK 14921 [6,7,2,0,1,8,9] [6,7,2,0,1,8] (q1f K Y4 Y7) 72 [(6,VS a b c),(7,VS d f g),(2,Value.int .u32 h),(0,VS i j k),(1,VS l m n),(8,VI o),(9,VI p)] w
abbrev qkg K Y4 Y7:=kq ZK 14921 [6,7,2,0,1,8,9] [6,7,2,0,1,8] (q1f K Y4 Y7)
abbrev VW K Y4 Y7:=qq 3 (qkg K Y4 Y7)
abbrev q8v K Y4 Y7:=kq ZK 59684 [6,7,2,0,1,8,9] [6,7,2,0,1,8,9] (VW K Y4 Y7)
abbrev qCF K Y4 Y7:=kq ZK 119368 [6,2,0,1,8,9,7] [6,7,2,0,1,8,9] (q8v K Y4 Y7)
def q4n a b c d f g h i j k l m n o p q w K Y4 Y7:=SG ZK 238737 [6,2,0,1,8,9,7] [6,7,2,0,1,8,9] (q8v K Y4 Y7) 72 [(48,VB a),(6,VS b c d),(7,VS f g h),(2,Value.int .u32 i),(0,VS j k l),(1,VS m n o),(8,VI p),(9,VI q)] w
def YO a b c d f g h i j k l m n o p w K Y4 Y7:=SG ZK 29843 [6,7,2,0,1,8,9] [6,7,2,0,1,8] (q1f K Y4 Y7) 72 [(6,VS a b c),(7,VS d f g),(2,Value.int .u32 h),(0,VS i j k),(1,VS l m n),(8,VI o),(9,VI p)] w
theorem qed:YO a c d e f g h i j k l m n o p w K Y4 Y7=(Y7 (ql.mk 72 [(6,(Value.slice a c d)),(7,(Value.slice e f g)),(2,(Value.int .u32 h)),(0,(Value.slice i j k)),(1,(Value.slice l m n)),(8,(Value.int .i64 o)),(9,(Value.int .i64 (IntKind.wrap .i64 (p+1))))] []) w):=qV kr
def q9a a b c d f g h i j k l m n o p w K Y4 Y7:=SG ZK 119369 [6,7,2,0,1,8,9] [6,7,2,0,1,8,9] (VW K Y4 Y7) 72 [(6,VS a b c),(2,Value.int .u32 d),(0,VS f g h),(1,VS i j k),(8,VI l),(9,VI m),(7,VS n o p)] w
abbrev qDn K Y4 Y7:=kq ZK 119369 [6,7,2,0,1,8,9] [6,7,2,0,1,8,9] (VW K Y4 Y7)
def zm a b c d f g h i j k l m n o p q r w K Y4 Y7:=SG ZK 238739 [6,7,2,0,1,8,9] [6,7,2,0,1,8,9] (VW K Y4 Y7) 72 [(6,VS a b c),(2,Value.int .u32 d),(0,VS f g h),(1,VS i j k),(8,VI l),(9,VI m),(11,VQ n),(10,VQ o),(7,VS p q r)] w
abbrev qB5 K Y4 Y7:=kq ZK 238739 [6,7,2,0,1,8,9] [6,7,2,0,1,8,9] (VW K Y4 Y7)
theorem qg5:zm d e f c g h i j k l m n o p q r s w K Y4 Y7=(qf 5 p w (fun c0=>qf 5 o w (fun d0=>qa P 82 [(Value.agg c0),(Value.agg d0)] w (fun e0 t=>∃ x:Bool,e0=(.bool x)/\qC x (qf 5 p t (fun f0=>qf 5 o t (fun g0=>∃ u:Array Value,(∀ wq,(Instr.build 108 #[(0,(Value.int .u32 c)),(1,(Value.agg f0)),(2,(Value.agg g0))]).run P wq=.ok (.agg u) wq)/\qJ 11 [(Value.agg u)]/\qt (([(Value.agg u)].map fun(v:Value)=>v.cells.toList).flatten.toArray) 108 t (fun h0 i0=>∃ (y:OA) (z a0:Nat),∃ b0:World,(Builtin.append_ #[39,39] 39 #[(Value.slice q r s),(Value.slice (some (Addr.mk h0 0 none)) 1 1)]).run P i0=.ok (.slice y z a0) b0/\YO d e f y z a0 c g h i j k l m n b0 K Y4 Y7)))) (YO d e f q r s c g h i j k l m n t K Y4 Y7))))):=qV (qT [63,6,2,0,1,8,9,11,10,7] (qB5 K Y4 Y7) kr)
theorem qdE:q9a g h i j e f k l m n c d o p q w K Y4 Y7=(qi e (fun p2=>0<=d/\d<(f:Nat)/\qi e (fun v=>0<=c/\c<(f:Nat)/\qf 6 (p2.add (Int.toNat d*6)) w.drew (fun r=>(qa P 62 [(Value.agg r),(Value.int .i64 d)] w.drew (fun q2 e0=>∃ x:Array Value,q2=(.agg x)/\qf 6 (v.add (Int.toNat c*6)) e0 (fun b0=>(qa P 62 [(Value.agg b0),(Value.int .i64 c)] e0 (fun r2 C0=>∃ m0:Array Value,r2=(.agg m0)/\(qt (qn P 97) 97 C0 (fun D0 s2=>qt (qn P 97) 97 s2 (fun E0 t2=>qN 5 (Addr.mk D0 0 none) x t2 (fun u2=>qN 5 (Addr.mk E0 0 none) m0 u2 (fun v2=>zm g h i j e f k l m n c d (Addr.mk E0 0 none) (Addr.mk D0 0 none) o p q v2 K Y4 Y7)))))/\(qt (qn P 97) 97 C0 (fun F0 x2=>qt (qn P 97) 97 x2 (fun G0 y2=>qN 5 (Addr.mk G0 0 none) x y2 (fun z2=>qN 5 (Addr.mk F0 0 none) m0 z2 (fun A2=>zm g h i j e f k l m n c d (Addr.mk F0 0 none) (Addr.mk G0 0 none) o p q A2 K Y4 Y7)))))))/\(qt (qn P 97) 97 e0 (fun f0 H0=>(qa P 62 [(Value.agg b0),(Value.int .i64 c)] H0 (fun B2 C2=>∃ I0:Array Value,B2=(.agg I0)/\qt (qn P 97) 97 C2 (fun J0 D2=>qN 5 (Addr.mk f0 0 none) x D2 (fun E2=>qN 5 (Addr.mk J0 0 none) I0 E2 (fun F2=>zm g h i j e f k l m n c d (Addr.mk J0 0 none) (Addr.mk f0 0 none) o p q F2 K Y4 Y7)))))/\(qt (qn P 97) 97 H0 (fun L0 G2=>qa P 62 [(Value.agg b0),(Value.int .i64 c)] G2 (fun H2 I2=>∃ M0:Array Value,H2=(.agg M0)/\qN 5 (Addr.mk f0 0 none) x I2 (fun J2=>qN 5 (Addr.mk L0 0 none) M0 J2 (fun L2=>zm g h i j e f k l m n c d (Addr.mk L0 0 none) (Addr.mk f0 0 none) o p q L2 K Y4 Y7)))))))/\(qt (qn P 97) 97 e0 (fun g0 N0=>(qa P 62 [(Value.agg b0),(Value.int .i64 c)] N0 (fun M2 N2=>∃ O0:Array Value,M2=(.agg O0)/\qt (qn P 97) 97 N2 (fun Q0 O2=>qN 5 (Addr.mk Q0 0 none) x O2 (fun Q2=>qN 5 (Addr.mk g0 0 none) O0 Q2 (fun R2=>zm g h i j e f k l m n c d (Addr.mk g0 0 none) (Addr.mk Q0 0 none) o p q R2 K Y4 Y7)))))/\(qt (qn P 97) 97 N0 (fun R0 S2=>qa P 62 [(Value.agg b0),(Value.int .i64 c)] S2 (fun T2 U2=>∃ S0:Array Value,T2=(.agg S0)/\qN 5 (Addr.mk R0 0 none) x U2 (fun V2=>qN 5 (Addr.mk g0 0 none) S0 V2 (fun W2=>zm g h i j e f k l m n c d (Addr.mk g0 0 none) (Addr.mk R0 0 none) o p q W2 K Y4 Y7))))))))))/\(qf 6 (v.add (Int.toNat c*6)) w.drew (fun u=>(qa P 62 [(Value.agg r),(Value.int .i64 d)] w.drew (fun X2 n0=>∃ y:Array Value,X2=(.agg y)/\(qa P 62 [(Value.agg u),(Value.int .i64 c)] n0 (fun Y2 T0=>∃ o0:Array Value,Y2=(.agg o0)/\(qt (qn P 97) 97 T0 (fun U0 Z2=>qt (qn P 97) 97 Z2 (fun V0 a3=>qN 5 (Addr.mk U0 0 none) y a3 (fun b3=>qN 5 (Addr.mk V0 0 none) o0 b3 (fun c3=>zm g h i j e f k l m n c d (Addr.mk V0 0 none) (Addr.mk U0 0 none) o p q c3 K Y4 Y7)))))/\(qt (qn P 97) 97 T0 (fun W0 d3=>qt (qn P 97) 97 d3 (fun X0 e3=>qN 5 (Addr.mk X0 0 none) y e3 (fun f3=>qN 5 (Addr.mk W0 0 none) o0 f3 (fun g3=>zm g h i j e f k l m n c d (Addr.mk W0 0 none) (Addr.mk X0 0 none) o p q g3 K Y4 Y7)))))))/\(qt (qn P 97) 97 n0 (fun h0 Y0=>(qa P 62 [(Value.agg u),(Value.int .i64 c)] Y0 (fun h3 i3=>∃ Z0:Array Value,h3=(.agg Z0)/\qt (qn P 97) 97 i3 (fun a1 j3=>qN 5 (Addr.mk h0 0 none) y j3 (fun l3=>qN 5 (Addr.mk a1 0 none) Z0 l3 (fun m3=>zm g h i j e f k l m n c d (Addr.mk a1 0 none) (Addr.mk h0 0 none) o p q m3 K Y4 Y7)))))/\(qt (qn P 97) 97 Y0 (fun b1 n3=>qa P 62 [(Value.agg u),(Value.int .i64 c)] n3 (fun o3 p3=>∃ c1:Array Value,o3=(.agg c1)/\qN 5 (Addr.mk h0 0 none) y p3 (fun q3=>qN 5 (Addr.mk b1 0 none) c1 q3 (fun r3=>zm g h i j e f k l m n c d (Addr.mk b1 0 none) (Addr.mk h0 0 none) o p q r3 K Y4 Y7)))))))/\(qt (qn P 97) 97 n0 (fun i0 d1=>(qa P 62 [(Value.agg u),(Value.int .i64 c)] d1 (fun s3 t3=>∃ e1:Array Value,s3=(.agg e1)/\qt (qn P 97) 97 t3 (fun f1 u3=>qN 5 (Addr.mk f1 0 none) y u3 (fun v3=>qN 5 (Addr.mk i0 0 none) e1 v3 (fun x3=>zm g h i j e f k l m n c d (Addr.mk i0 0 none) (Addr.mk f1 0 none) o p q x3 K Y4 Y7)))))/\(qt (qn P 97) 97 d1 (fun g1 y3=>qa P 62 [(Value.agg u),(Value.int .i64 c)] y3 (fun z3 A3=>∃ h1:Array Value,z3=(.agg h1)/\qN 5 (Addr.mk g1 0 none) y A3 (fun B3=>qN 5 (Addr.mk i0 0 none) h1 B3 (fun C3=>zm g h i j e f k l m n c d (Addr.mk i0 0 none) (Addr.mk g1 0 none) o p q C3 K Y4 Y7)))))))))/\(qt (qn P 97) 97 w.drew (fun z i1=>(qa P 62 [(Value.agg r),(Value.int .i64 d)] i1 (fun D3 j1=>∃ p0:Array Value,D3=(.agg p0)/\(qa P 62 [(Value.agg u),(Value.int .i64 c)] j1 (fun E3 F3=>∃ l1:Array Value,E3=(.agg l1)/\qt (qn P 97) 97 F3 (fun m1 G3=>qN 5 (Addr.mk z 0 none) p0 G3 (fun H3=>qN 5 (Addr.mk m1 0 none) l1 H3 (fun I3=>zm g h i j e f k l m n c d (Addr.mk m1 0 none) (Addr.mk z 0 none) o p q I3 K Y4 Y7)))))/\(qt (qn P 97) 97 j1 (fun n1 J3=>qa P 62 [(Value.agg u),(Value.int .i64 c)] J3 (fun L3 M3=>∃ o1:Array Value,L3=(.agg o1)/\qN 5 (Addr.mk z 0 none) p0 M3 (fun N3=>qN 5 (Addr.mk n1 0 none) o1 N3 (fun O3=>zm g h i j e f k l m n c d (Addr.mk n1 0 none) (Addr.mk z 0 none) o p q O3 K Y4 Y7)))))))/\(qt (qn P 97) 97 i1 (fun p1 Q3=>qa P 62 [(Value.agg r),(Value.int .i64 d)] Q3 (fun R3 S3=>∃ q1:Array Value,R3=(.agg q1)/\qa P 62 [(Value.agg u),(Value.int .i64 c)] S3 (fun T3 U3=>∃ r1:Array Value,T3=(.agg r1)/\qN 5 (Addr.mk z 0 none) q1 U3 (fun V3=>qN 5 (Addr.mk p1 0 none) r1 V3 (fun W3=>zm g h i j e f k l m n c d (Addr.mk p1 0 none) (Addr.mk z 0 none) o p q W3 K Y4 Y7))))))))/\(qt (qn P 97) 97 w.drew (fun a0 s1=>(qa P 62 [(Value.agg r),(Value.int .i64 d)] s1 (fun X3 t1=>∃ q0:Array Value,X3=(.agg q0)/\(qa P 62 [(Value.agg u),(Value.int .i64 c)] t1 (fun Y3 Z3=>∃ u1:Array Value,Y3=(.agg u1)/\qt (qn P 97) 97 Z3 (fun v1 a4=>qN 5 (Addr.mk v1 0 none) q0 a4 (fun b4=>qN 5 (Addr.mk a0 0 none) u1 b4 (fun c4=>zm g h i j e f k l m n c d (Addr.mk a0 0 none) (Addr.mk v1 0 none) o p q c4 K Y4 Y7)))))/\(qt (qn P 97) 97 t1 (fun x1 d4=>qa P 62 [(Value.agg u),(Value.int .i64 c)] d4 (fun e4 f4=>∃ y1:Array Value,e4=(.agg y1)/\qN 5 (Addr.mk x1 0 none) q0 f4 (fun g4=>qN 5 (Addr.mk a0 0 none) y1 g4 (fun h4=>zm g h i j e f k l m n c d (Addr.mk a0 0 none) (Addr.mk x1 0 none) o p q h4 K Y4 Y7)))))))/\(qt (qn P 97) 97 s1 (fun z1 i4=>qa P 62 [(Value.agg r),(Value.int .i64 d)] i4 (fun j4 l4=>∃ A1:Array Value,j4=(.agg A1)/\qa P 62 [(Value.agg u),(Value.int .i64 c)] l4 (fun m4 n4=>∃ B1:Array Value,m4=(.agg B1)/\qN 5 (Addr.mk z1 0 none) A1 n4 (fun o4=>qN 5 (Addr.mk a0 0 none) B1 o4 (fun p4=>zm g h i j e f k l m n c d (Addr.mk a0 0 none) (Addr.mk z1 0 none) o p q p4 K Y4 Y7))))))))))/\(qt (qn P 97) 97 w.drew (fun s c0=>(qa P 62 [(Value.agg r),(Value.int .i64 d)] c0 (fun q4 r0=>∃ s0:Array Value,q4=(.agg s0)/\qf 6 (v.add (Int.toNat c*6)) r0 (fun C1=>(qa P 62 [(Value.agg C1),(Value.int .i64 c)] r0 (fun r4 s4=>∃ D1:Array Value,r4=(.agg D1)/\qt (qn P 97) 97 s4 (fun E1 t4=>qN 5 (Addr.mk s 0 none) s0 t4 (fun u4=>qN 5 (Addr.mk E1 0 none) D1 u4 (fun v4=>zm g h i j e f k l m n c d (Addr.mk E1 0 none) (Addr.mk s 0 none) o p q v4 K Y4 Y7)))))/\(qt (qn P 97) 97 r0 (fun F1 x4=>qa P 62 [(Value.agg C1),(Value.int .i64 c)] x4 (fun y4 z4=>∃ G1:Array Value,y4=(.agg G1)/\qN 5 (Addr.mk s 0 none) s0 z4 (fun A4=>qN 5 (Addr.mk F1 0 none) G1 A4 (fun B4=>zm g h i j e f k l m n c d (Addr.mk F1 0 none) (Addr.mk s 0 none) o p q B4 K Y4 Y7))))))))/\(qf 6 (v.add (Int.toNat c*6)) c0 (fun t0=>(qa P 62 [(Value.agg r),(Value.int .i64 d)] c0 (fun C4 H1=>∃ u0:Array Value,C4=(.agg u0)/\(qa P 62 [(Value.agg t0),(Value.int .i64 c)] H1 (fun D4 E4=>∃ I1:Array Value,D4=(.agg I1)/\qt (qn P 97) 97 E4 (fun J1 F4=>qN 5 (Addr.mk s 0 none) u0 F4 (fun G4=>qN 5 (Addr.mk J1 0 none) I1 G4 (fun H4=>zm g h i j e f k l m n c d (Addr.mk J1 0 none) (Addr.mk s 0 none) o p q H4 K Y4 Y7)))))/\(qt (qn P 97) 97 H1 (fun L1 I4=>qa P 62 [(Value.agg t0),(Value.int .i64 c)] I4 (fun J4 L4=>∃ M1:Array Value,J4=(.agg M1)/\qN 5 (Addr.mk s 0 none) u0 L4 (fun M4=>qN 5 (Addr.mk L1 0 none) M1 M4 (fun N4=>zm g h i j e f k l m n c d (Addr.mk L1 0 none) (Addr.mk s 0 none) o p q N4 K Y4 Y7)))))))/\(qt (qn P 97) 97 c0 (fun N1 O4=>qa P 62 [(Value.agg r),(Value.int .i64 d)] O4 (fun Q4 R4=>∃ O1:Array Value,Q4=(.agg O1)/\qa P 62 [(Value.agg t0),(Value.int .i64 c)] R4 (fun S4 T4=>∃ Q1:Array Value,S4=(.agg Q1)/\qN 5 (Addr.mk s 0 none) O1 T4 (fun U4=>qN 5 (Addr.mk N1 0 none) Q1 U4 (fun V4=>zm g h i j e f k l m n c d (Addr.mk N1 0 none) (Addr.mk s 0 none) o p q V4 K Y4 Y7))))))))/\(qt (qn P 97) 97 c0 (fun j0 v0=>(qa P 62 [(Value.agg r),(Value.int .i64 d)] v0 (fun W4 R1=>∃ S1:Array Value,W4=(.agg S1)/\qf 6 (v.add (Int.toNat c*6)) R1 (fun X4=>qa P 62 [(Value.agg X4),(Value.int .i64 c)] R1 (fun Z4 a5=>∃ T1:Array Value,Z4=(.agg T1)/\qN 5 (Addr.mk s 0 none) S1 a5 (fun b5=>qN 5 (Addr.mk j0 0 none) T1 b5 (fun c5=>zm g h i j e f k l m n c d (Addr.mk j0 0 none) (Addr.mk s 0 none) o p q c5 K Y4 Y7))))))/\(qf 6 (v.add (Int.toNat c*6)) v0 (fun d5=>qa P 62 [(Value.agg r),(Value.int .i64 d)] v0 (fun e5 f5=>∃ U1:Array Value,e5=(.agg U1)/\qa P 62 [(Value.agg d5),(Value.int .i64 c)] f5 (fun g5 h5=>∃ V1:Array Value,g5=(.agg V1)/\qN 5 (Addr.mk s 0 none) U1 h5 (fun i5=>qN 5 (Addr.mk j0 0 none) V1 i5 (fun j5=>zm g h i j e f k l m n c d (Addr.mk j0 0 none) (Addr.mk s 0 none) o p q j5 K Y4 Y7))))))))))/\(qt (qn P 97) 97 w.drew (fun t d0=>(qa P 62 [(Value.agg r),(Value.int .i64 d)] d0 (fun l5 x0=>∃ y0:Array Value,l5=(.agg y0)/\qf 6 (v.add (Int.toNat c*6)) x0 (fun W1=>(qa P 62 [(Value.agg W1),(Value.int .i64 c)] x0 (fun m5 n5=>∃ X1:Array Value,m5=(.agg X1)/\qt (qn P 97) 97 n5 (fun Y1 o5=>qN 5 (Addr.mk Y1 0 none) y0 o5 (fun p5=>qN 5 (Addr.mk t 0 none) X1 p5 (fun q5=>zm g h i j e f k l m n c d (Addr.mk t 0 none) (Addr.mk Y1 0 none) o p q q5 K Y4 Y7)))))/\(qt (qn P 97) 97 x0 (fun Z1 r5=>qa P 62 [(Value.agg W1),(Value.int .i64 c)] r5 (fun s5 t5=>∃ a2:Array Value,s5=(.agg a2)/\qN 5 (Addr.mk Z1 0 none) y0 t5 (fun u5=>qN 5 (Addr.mk t 0 none) a2 u5 (fun v5=>zm g h i j e f k l m n c d (Addr.mk t 0 none) (Addr.mk Z1 0 none) o p q v5 K Y4 Y7))))))))/\(qf 6 (v.add (Int.toNat c*6)) d0 (fun z0=>(qa P 62 [(Value.agg r),(Value.int .i64 d)] d0 (fun x5 b2=>∃ A0:Array Value,x5=(.agg A0)/\(qa P 62 [(Value.agg z0),(Value.int .i64 c)] b2 (fun y5 z5=>∃ c2:Array Value,y5=(.agg c2)/\qt (qn P 97) 97 z5 (fun d2 A5=>qN 5 (Addr.mk d2 0 none) A0 A5 (fun B5=>qN 5 (Addr.mk t 0 none) c2 B5 (fun C5=>zm g h i j e f k l m n c d (Addr.mk t 0 none) (Addr.mk d2 0 none) o p q C5 K Y4 Y7)))))/\(qt (qn P 97) 97 b2 (fun e2 D5=>qa P 62 [(Value.agg z0),(Value.int .i64 c)] D5 (fun E5 F5=>∃ f2:Array Value,E5=(.agg f2)/\qN 5 (Addr.mk e2 0 none) A0 F5 (fun G5=>qN 5 (Addr.mk t 0 none) f2 G5 (fun H5=>zm g h i j e f k l m n c d (Addr.mk t 0 none) (Addr.mk e2 0 none) o p q H5 K Y4 Y7)))))))/\(qt (qn P 97) 97 d0 (fun g2 I5=>qa P 62 [(Value.agg r),(Value.int .i64 d)] I5 (fun J5 L5=>∃ h2:Array Value,J5=(.agg h2)/\qa P 62 [(Value.agg z0),(Value.int .i64 c)] L5 (fun M5 N5=>∃ i2:Array Value,M5=(.agg i2)/\qN 5 (Addr.mk g2 0 none) h2 N5 (fun O5=>qN 5 (Addr.mk t 0 none) i2 O5 (fun Q5=>zm g h i j e f k l m n c d (Addr.mk t 0 none) (Addr.mk g2 0 none) o p q Q5 K Y4 Y7))))))))/\(qt (qn P 97) 97 d0 (fun l0 B0=>(qa P 62 [(Value.agg r),(Value.int .i64 d)] B0 (fun R5 j2=>∃ l2:Array Value,R5=(.agg l2)/\qf 6 (v.add (Int.toNat c*6)) j2 (fun S5=>qa P 62 [(Value.agg S5),(Value.int .i64 c)] j2 (fun T5 U5=>∃ m2:Array Value,T5=(.agg m2)/\qN 5 (Addr.mk l0 0 none) l2 U5 (fun V5=>qN 5 (Addr.mk t 0 none) m2 V5 (fun W5=>zm g h i j e f k l m n c d (Addr.mk t 0 none) (Addr.mk l0 0 none) o p q W5 K Y4 Y7))))))/\(qf 6 (v.add (Int.toNat c*6)) B0 (fun X5=>qa P 62 [(Value.agg r),(Value.int .i64 d)] B0 (fun Y5 Z5=>∃ n2:Array Value,Y5=(.agg n2)/\qa P 62 [(Value.agg X5),(Value.int .i64 c)] Z5 (fun a6 b6=>∃ o2:Array Value,a6=(.agg o2)/\qN 5 (Addr.mk l0 0 none) n2 b6 (fun c6=>qN 5 (Addr.mk t 0 none) o2 c6 (fun d6=>zm g h i j e f k l m n c d (Addr.mk t 0 none) (Addr.mk l0 0 none) o p q d6 K Y4 Y7)))))))))))))):=qV (qT [6,2,0,1,8,9,11,10,7] (qDn K Y4 Y7) kr)
theorem q6s:q4n q a c d e f g h i j k l m n o p w K Y4 Y7=(qC q (YO a c d e f g h i j k l m n o p w K Y4 Y7) (q9a a c d h i j k l m n o p e f g w K Y4 Y7)):=qV kr
theorem qng:qrl j k l m n o e f g p h i q c d w K Y4 Y7=(qi f (fun z=>0<=d/\d<(g:Nat)/\qf 6 (z.add (Int.toNat d*6)) w (fun a0=>qa P 61 [(Value.agg a0),(Value.int .u32 e)] w (fun b0 s=>∃ t:Bool,b0=(.bool t)/\qC (!t) (q4n true j k l m n o e f g p h i q c d s K Y4 Y7) (qi f (fun c0=>0<=c/\c<(g:Nat)/\qf 6 (c0.add (Int.toNat c*6)) s (fun d0=>qa P 61 [(Value.agg d0),(Value.int .u32 e)] s (fun e0 r=>∃ u:Bool,e0=(.bool u)/\qC (!u) (q4n true j k l m n o e f g p h i q c d r K Y4 Y7) (qi h (fun f0=>0<=d/\d<(i:Nat)/\∃ (v:OA) (x g0:Nat),r.cell? (f0.add (Int.toNat d*1))=some (.slice v x g0)/\qi v (fun h0=>0<=c/\c<(x:Nat)/\∃ y:Bool,r.cell? (h0.add (Int.toNat c*1))=some (.bool y)/\q4n y j k l m n o e f g p h i q c d r K Y4 Y7))))))))))):=qV (qT [6,7,2,0,1,8,9] (qkg K Y4 Y7) (QJ 3 [6,7,2,0,1,8,9] (VW K Y4 Y7) (qT [6,2,0,1,8,9,7] (q8v K Y4 Y7) (qT [48,6,7,2,0,1,8,9] (qCF K Y4 Y7) kr))))
def qiA a b c d f g h i j k l m n o w K Y4:=SG ZK 467 [6,7,8,2,0,1] [6,7] (q0s K Y4) 72 [(6,VS a b c),(7,VS d f g),(2,Value.int .u32 h),(0,VS i j k),(1,VS l m n),(8,VI o)] w
theorem qeK:qiA a c d e f g h i j k l m n o w K Y4=(Y4 (ql.mk 72 [(6,(Value.slice a c d)),(7,(Value.slice e f g)),(8,(Value.int .i64 (IntKind.wrap .i64 (o+1)))),(2,(Value.int .u32 h)),(0,(Value.slice i j k)),(1,(Value.slice l m n))] []) w):=qV kr
theorem qf2:qkZ d e f g h i j k l m n o p c q w K Y4 Y7=(qC (decide (q<c)) (qrl d e f g h i j k l m n o p c q w K Y4 Y7) (qiA d e f g h i j k l m n o p c w K Y4)):=qV (qT [6,7,2,0,1,8,9] (qj2 K Y4 Y7) (qT [21,6,7,2,0,1,8,9] (qDd K Y4 Y7) kr))
theorem qlQ:qrk a c d e f g h i j k l m n o p w K Y4=(za (qCd K Y4) (ql.mk 72 [(6,(Value.slice c d e)),(7,(Value.slice f g h)),(2,(Value.int .u32 i)),(0,(Value.slice j k l)),(1,(Value.slice m n o)),(8,(Value.int .i64 p)),(9,(Value.int .i64 a))] []) w):=Eq.trans (b:=CS P (cA ZK 1865) none [6,7,2,0,1,8] [6,7,2,0,1,8] (q5u K Y4) (ql.mk 72 [(9,(VI a)),(6,(VS c d e)),(7,(VS f g h)),(2,(Value.int .u32 i)),(0,(VS j k l)),(1,(VS m n o)),(8,(VI p))] []) w) kr (Eq.trans (YD 2 [6,7,2,0,1,8] (q72 K Y4) kr) ((qY (b:=(cA ZK 7460)) (X':=[6,7,2,0,1,8]) (H:=[6,7,2,0,1,8,9]) kr kr kr).trans kr))
theorem qnZ:qwH c d e f g h i j k l m n o p w K Y4=(qrk 0 c d e f g h i j k l m n o p w K Y4):=qV (qT [6,7,2,0,1,8] (qti K Y4) (QJ 1 [6,7,2,0,1,8] (q5u K Y4) (qT [6,7,2,0,1,8,9] (qHH K Y4) kr)))
def qjw a b c w K:=SG ZK 15 [6] [6] (Qr K) 72 [(7,VS a b c)] w
abbrev qBV K:=kq ZK 15 [6] [6] (Qr K)
theorem qew:qjw c d e w K=(K (Value.slice c d e) w):=qV (qT [6] (qBV K) kr)
theorem qdn:qi9 j k l c d e f m g h i n o p w K Y4=(∃ q:Int,(∀ wq,zZ w wq->(Builtin.len_ #[22] 3 #[(Value.slice g h i)]).run P wq=.ok (.int .i64 q) wq)/\qC (decide (f<q)) (qwH j k l c d e m g h i n o p f w K Y4) (qjw c d e w K)):=qV (qT [6,7,2,0,1,8] (qu7 K Y4) (qT [16,6,7,2,0,1,8] (qFt K Y4) kr))
theorem qn6:qrq a c d e p q r f g h i j k l m n o w K=(za (qAC K) (ql.mk 72 [(6,(Value.slice f g h)),(7,(Value.slice c d e)),(8,(Value.int .i64 a)),(2,(Value.int .u32 o)),(0,(Value.slice i j k)),(1,(Value.slice l m n))] []) w):=Eq.trans (b:=CS P (cA ZK 29) none [7] [6] (q3r K) (ql.mk 72 [(8,(VI a)),(7,(VS c d e)),(12,(VS p q r)),(6,(VS f g h)),(0,(VS i j k)),(1,(VS l m n)),(2,(Value.int .u32 o))] []) w) kr (Eq.trans (YD 0 [6,7] (qdJ K) kr) ((qY (b:=(cA ZK 116)) (X':=[6,7]) (H:=[6,7,8,2,0,1]) kr kr kr).trans kr))
theorem qmZ:qxx c d e f g h i j k l m n o p q r w K=(qrq 0 c d e f g h i j k l m n o p q r w K):=Eq.trans (b:=CS P (cA ZK 7) none [6] [6] (Qr K) (ql.mk 72 [(7,(VS c d e)),(12,(VS f g h)),(6,(VS i j k)),(0,(VS l m n)),(1,(VS o p q)),(2,(Value.int .u32 r))] []) w) kr (Eq.trans (zN [7] (q3r K) kr) (Eq.trans (zN [6,7,8,2,0,1] (qIi K) kr) kr))
theorem qlM:qrb c d e f g h i j k l w K=(∃ (m:OA) (n o:Nat),∃ p:World,(Instr.buildSlice 39 0 ([]:List (Nat × Value)).toArray).run P w=.ok (.slice m n o) p/\qxx m n o m n o c d e f g h i j k l p K):=Eq.trans (b:=CS P (cA ZK 3) none [6] [6] (Qr K) (ql.mk 72 [(6,(VS c d e)),(0,(VS f g h)),(1,(VS i j k)),(2,(Value.int .u32 l))] []) w) kr (Eq.trans (zN [6,7,2,0,1] (qFQ K) kr) kr)
theorem qoL:quI c d e f g h i w K=(qrb none 0 0 c d e f g h i w K):=Eq.trans (b:=CS P (cA ZK 1) none [6] [6] (Qr K) (ql.mk 72 [(0,(VS c d e)),(1,(VS f g h)),(2,(Value.int .u32 i))] []) w) kr (Eq.trans (zN [6,2,0,1] (qIu K) kr) kr)
theorem qFT:f52 a b c d e f g w K=(quI a b c d e f g w K):=kr
theorem qGQ a b c d e f g w K(h:f52 a b c d e f g w K):qa P 52 [(Value.slice a b c),(Value.slice d e f),(Value.int .u32 g)] w K:=zj ZK Tryz.func52 h
end Go.Fx.Tryz
namespace Go.Fx.Mo
def aIn(L:List vH)(k:Nat):Nat->Nat->List Bool × List Bool->List Bool × List Bool
 | 0,_,s=>s
 | m+1,j,s=>aIn L k m (j+1) (if yt (L.getD k default) (L.getD j default)then(s.1.set j true,s.2.set j true)else s)
def q7u(L:List vH):Nat->Nat->List Bool × List Bool->List Bool × List Bool
 | 0,_,s=>s
 | m+1,k,s=>q7u L m (k+1) (if s.2.getD k false then aIn L k (L.length-(k+1)) (k+1) s else s)
def zD(L:List vH)(i:Nat):List Bool:=(q7u L (L.length-i) i (List.replicate L.length false,(List.replicate L.length false).set i true)).1
end Go.Fx.Mo
namespace Go.Fx.Tryz
open Go Go.Fx Go.Fx.Mo
open Go.Proofs
variable {w0 w:World} {H Y:qP} {K:KT}
set_option maxRecDepth 20000
theorem qgv{L:List vH}{i:Nat}(hi:i<L.length):((Qh L).drop (i*4)).take 4=zu L[i]:=yD (f:=zu) (fun _ _=>rfl) hi
theorem qJX:P.info? 4=some Tryz.t4:=kr
theorem qdX(n:Nat):madeCells (Value.bool false).cells n=(List.replicate n (Value.bool false)).toArray:=by
 apply Array.ext
 ·simp[madeCells]
 ·intro i h1 h2
  simp[madeCells,Value.cells,Nat.mod_one]
theorem q1V(h:St w0 w H){n:Nat}(hn:n<=1000000):∃ g,w0.heap.size<=g/\(Instr.makeSlice 150 (.int .i64 (n:Nat)) (.int .i64 (n:Nat))).run P w=.ok (.slice (some ⟨g,0,none⟩) n n) (w.alloc (Cs ((List.replicate n false).map .bool) 4))/\
  St w0 (w.alloc (Cs ((List.replicate n false).map .bool) 4)) ((g,Cs ((List.replicate n false).map .bool) 4)::H):=by
 refine⟨w.heap.size,h.le,?_,h.alloc _⟩
 have hr:=run_make (P:=P) w 150 4 Tryz.t4 (.bool false) Tryz.underlying150 qJX rfl .i64 .i64 n n om om (by show((1:Nat):Int)*_<=_;omega) om
 simp only[Int.toNat_natCast]at hr
 rw[hr,show Tryz.t4.size=1 from rfl,Nat.mul_one,qdX]
 rw[List.map_replicate]
 rfl
theorem aIn_len(L:List vH)(k:Nat):∀ (m j:Nat) (s:List Bool × List Bool),(aIn L k m j s).1.length=s.1.length/\(aIn L k m j s).2.length=s.2.length
 | 0,_,_=>⟨rfl,rfl⟩
 | m+1,j,s=>by
  unfold aIn
  obtain⟨h1,h2⟩:=aIn_len L k m (j+1) (if yt (L.getD k default) (L.getD j default)then(s.1.set j true,s.2.set j true)else s)
  rw[h1,h2]
  split<;>simp
theorem q8n{l:List Bool}{i:Nat}(hi:i<l.length):(l.map Value.bool)[i]?=some (.bool (l.getD i false)):=by
 rw[List.getElem?_map,List.getElem?_eq_getElem hi]
 simp[List.getD,hi]
theorem q0D(l:List Bool)(i:Nat):(l.map Value.bool).set i (.bool true)=(l.set i true).map Value.bool:=by rw[List.map_set]
theorem qeD{L:List vH}{lv:Value}{i:Nat}(h:St w0 w H)(hrow:∀ w',St w0 w' H->Qt w' 4 lv L.length (Qh L))(hn:L.length<=1000000)(hi:i<L.length)
  (hK:∀ w' g,w0.heap.size<=g->(zD L i).length=L.length->St w0 w' ((g,Cs ((zD L i).map .bool) 4)::H)->K (.slice (some ⟨g,0,none⟩) L.length L.length) w'):qa P 87 [lv,.int .i64 i] w K:=by
 obtain⟨la,lc,hlv⟩:=(hrow w h).form
 rw[hlv]
 refine qJp _ _ _ _ _ _ ?_
 rw[qIU,qp7,qoE]
 refine⟨L.length,fun wq _=>vZ wq,?_⟩
 obtain⟨go,hgo,hr1,g1⟩:=q1V h hn
 refine⟨_,_,_,_,hr1,?_⟩
 rw[qnq]
 refine⟨L.length,fun wq _=>vZ wq,?_⟩
 obtain⟨gr,hgr,hr2,g2⟩:=q1V g1 hn
 refine⟨_,_,_,_,hr2,?_⟩
 rw[qlS]
 refine⟨by omega,by omega,?_⟩
 have ad:∀ (g j:Nat),(Addr.mk g 0 none).add (Int.toNat (j:Int)*1)=Addr.mk g j none:=fun g j=>by rw[qc,Nat.zero_add,Int.toNat_natCast,Nat.mul_one]
 rw[ad]
 refine g2.st1 (k:=0) rfl (by simpa using hi) rfl fun w3 g3=>?_
 have g3:St w0 w3 ((gr,Cs (((List.replicate L.length false).map Value.bool).set i (.bool true)) 4)::(go,Cs ((List.replicate L.length false).map Value.bool) 4)::H):=g3
 rw[q0D]at g3
 rw[qpv,qoQ]
 refine⟨fun m ee w=>∃ (k:Nat) (s:List Bool × List Bool),k<=L.length/\m=L.length-k/\ee=ql.mk 54 [(4,qy),(5,.slice (some ⟨go,0,none⟩) L.length L.length),(7,qj (k:Nat)),(6,.slice (some ⟨gr,0,none⟩) L.length L.length),(0,.slice la L.length lc)] []/\
   s.1.length=L.length/\s.2.length=L.length/\(q7u L (L.length-k) k s).1=zD L i/\St w0 w ((gr,Cs (s.2.map .bool) 4)::(go,Cs (s.1.map .bool) 4)::H),
  ⟨L.length-i,i,(List.replicate L.length false,(List.replicate L.length false).set i true),by omega,rfl,rfl,by simp,by simp,rfl,g3⟩,?_⟩
 rintro m ee w4 ⟨k,s,hk,rfl,rfl,hs1,hs2,hfin,hw⟩
 show qjI ..
 rw[qhg]
 refine⟨L.length,fun wq _=>vZ wq,?_⟩
 rw[qg]
 constructor
 ·intro hlt
  have hlt:k<L.length:=by simpa using hlt
  rw[qmX]
  refine⟨by omega,by omega,s.2.getD k false,by rw[ad,hw.cell (k:=0) rfl];exact q8n om,?_⟩
  rw[show L.length-k=(L.length-(k+1))+1 by omega,q7u]at hfin
  generalize hY:(fun e' w'=>∃ m,m<L.length-k/\∃ (k:Nat) (s:List Bool × List Bool),k<=L.length/\m=L.length-k/\e'=ql.mk 54 [(4,qy),(5,.slice (some ⟨go,0,none⟩) L.length L.length),(7,qj (k:Nat)),(6,.slice (some ⟨gr,0,none⟩) L.length L.length),(0,.slice la L.length lc)] []/\
   s.1.length=L.length/\s.2.length=L.length/\(q7u L (L.length-k) k s).1=zD L i/\St w0 w' ((gr,Cs (s.2.map .bool) 4)::(go,Cs (s.1.map .bool) 4)::H))=Y
  have wr:∀ j:Nat,j<L.length->IntKind.wrap .i64 ((j:Int)+1)=((j+1:Nat):Int):=fun j hj=>by rw[qk om om];rfl
  have next:∀ w5 (s':List Bool × List Bool),s'.1.length=L.length->s'.2.length=L.length->(q7u L (L.length-(k+1)) (k+1) s').1=zD L i->St w0 w5 ((gr,Cs (s'.2.map .bool) 4)::(go,Cs (s'.1.map .bool) 4)::H)->
    q9d none 0 0 (some ⟨go,0,none⟩) L.length L.length (some ⟨gr,0,none⟩) L.length L.length la L.length lc (k:Nat) w5 K Y:=by
   intro w5 s' h1 h2 h3 h5
   rw[qqt,<-hY,wr k hlt]
   exact⟨L.length-(k+1),by omega,k+1,s',by omega,rfl,rfl,h1,h2,h3,h5⟩
  cases hb:s.2.getD k false
  ·rw[Bool.not_false,qm]
   rw[hb,if_neg (by decide)]at hfin
   exact next w4 s hs1 hs2 hfin hw
  ·rw[Bool.not_true,qd,qoj,wr k hlt,qf4]
   rw[hb,if_pos rfl]at hfin
   refine⟨fun m ee w=>∃ (j:Nat) (t:List Bool × List Bool),k+1<=j/\j<=L.length/\m=L.length-j/\ee=ql.mk 54 [(8,qj (j:Nat)),(5,.slice (some ⟨go,0,none⟩) L.length L.length),(6,.slice (some ⟨gr,0,none⟩) L.length L.length),(0,.slice la L.length lc),(7,qj (k:Nat)),(4,qy)] []/\
     t.1.length=L.length/\t.2.length=L.length/\aIn L k (L.length-j) j t=aIn L k (L.length-(k+1)) (k+1) s/\St w0 w ((gr,Cs (t.2.map .bool) 4)::(go,Cs (t.1.map .bool) 4)::H),
    ⟨L.length-(k+1),k+1,s,by omega,by omega,rfl,rfl,hs1,hs2,rfl,hw⟩,?_⟩
   rintro m ee w5 ⟨j,t,hkj,hj,rfl,rfl,ht1,ht2,hin,hw5⟩
   show qav ..
   rw[qcz]
   refine⟨L.length,fun wq _=>vZ wq,?_⟩
   rw[qg]
   constructor
   ·intro hjl
    have hjl:j<L.length:=by simpa using hjl
    rw[qfZ]
    have hd:=hw5.drew
    have hrw:=hrow _ ((hd.tail hgr).tail hgo)
    obtain⟨a,c,hac,hld⟩:=hrw.ldA hlt
    rw[hlv]at hac
    obtain⟨hsa,-⟩:la=some a/\lc=c:=by simpa using hac
    subst hsa
    obtain⟨a',c',hac',hld'⟩:=hrw.ldA hjl
    rw[hlv]at hac'
    obtain⟨rfl,-⟩:a=a'/\lc=c':=by simpa using hac'
    refine⟨by omega,by omega,by omega,by omega,hld _ (hld' _ ?_)⟩
    rw[qgv hlt,qgv hjl]
    refine qos hd L[k] L[j] fun w6 h6=>⟨_,rfl,?_⟩
    rw[show L.length-j=(L.length-(j+1))+1 by omega,aIn]at hin
    have gk:L.getD k default=L[k]:=by simp[List.getD,hlt]
    have gj:L.getD j default=L[j]:=by simp[List.getD,hjl]
    rw[gk,gj]at hin
    rw[qff]
    cases hdir:yt L[k] L[j]
    ·rw[qd,q3m,wr j hjl]
     rw[hdir,if_neg (by decide)]at hin
     exact⟨L.length-(j+1),by omega,j+1,t,by omega,by omega,rfl,rfl,ht1,ht2,hin,h6⟩
    ·rw[qm]
     rw[hdir,if_pos rfl]at hin
     refine⟨by omega,by omega,?_⟩
     rw[ad]
     refine h6.st1 (k:=0) rfl (by simpa [ht2]using hjl) rfl fun w7 h7=>⟨by omega,by omega,?_⟩
     rw[ad]
     refine h7.st1 (k:=1) rfl (by simpa [ht1]using hjl) rfl fun w8 h8=>?_
     have h8:St w0 w8 ((gr,Cs ((t.2.map Value.bool).set j (.bool true)) 4)::(go,Cs ((t.1.map Value.bool).set j (.bool true)) 4)::H):=h8
     rw[q0D,q0D]at h8
     rw[q3m,wr j hjl]
     exact⟨L.length-(j+1),by omega,j+1,(t.1.set j true,t.2.set j true),by omega,by omega,rfl,rfl,by simp[ht1],by simp[ht2],hin,h8⟩
   ·intro hge
    have hge:L.length<=j:=by simpa using hge
    have:j=L.length:=by omega
    subst this
    rw[Nat.sub_self,aIn]at hin
    refine next w5 t ht1 ht2 ?_ hw5
    rw[hin];exact hfin
 ·intro hge
  have hge:L.length<=k:=by simpa using hge
  have:k=L.length:=by omega
  subst this
  rw[Nat.sub_self,q7u]at hfin
  rw[qdU]
  have hw':=hw.tail hgr
  rw[hfin]at hw'
  exact hK w4 go hgo (by rw[<-hfin];exact hs1) hw'
end Go.Fx.Tryz
namespace Go.Fx.Mo
def eIn(l:List Bool)(of:List Int)(i:Int):Nat->Nat->List Bool->List Bool
 | 0,_,s=>s
 | m+1,b,s=>eIn l of i m (b+1) (if l.getD b false=true/\of.getD b 0 > i then s.set (of.getD b 0).toNat true else s)
def q5k(r:RR)(i:Int):Nat->Nat->List Bool->List Bool
 | 0,_,s=>s
 | m+1,a,s=>q5k r i m (a+1) (if r.of.getD a 0=i then eIn (zD r.L a) r.of i r.L.length 0 s else s)
def vn(r:RR)(i:Int)(many:Nat):List Bool:=q5k r i r.L.length 0 (List.replicate many false)
theorem q7F(l:List Bool)(of:List Int)(i:Int):∀ (m b:Nat) (s:List Bool),(eIn l of i m b s).length=s.length
 | 0,_,_=>rfl
 | m+1,b,s=>by
  unfold eIn
  rw[q7F l of i m (b+1)]
  split<;>simp
theorem qcZ(r:RR)(i:Int):∀ (m a:Nat) (s:List Bool),(q5k r i m a s).length=s.length
 | 0,_,_=>rfl
 | m+1,a,s=>by
  unfold q5k
  rw[qcZ r i m (a+1)]
  split
  ·exact q7F ..
  ·rfl
theorem qfr(r:RR)(i:Int)(many:Nat):(vn r i many).length=many:=by
 unfold vn
 rw[qcZ]
 simp
end Go.Fx.Mo
namespace Go.Fx.Tryz
open Go Go.Fx Go.Fx.Mo
open Go.Proofs
variable {w0 w:World} {H Y:qP} {K:KT}
set_option maxRecDepth 20000
theorem qxn{ov:Value}{n:Nat}{xs:List Value}(h:Qt w 1 ov n xs){i:Nat}(hi:i<n):∃ a c,ov=.slice (some a) n c/\w.cell? (a.add (i*1))=xs[i]?:=by
 rcases h.2 with⟨_,h0⟩ | ⟨a,c,h1,h2⟩
 ·omega
 ·exact⟨a,c,h1,by rw[Nat.mul_one];exact h2 i om⟩
theorem qpl{r:RR}{lv ov xv:Value}{i many:Nat}(h:St w0 w H)(hL:∀ w',St w0 w' H->Qt w' 4 lv r.L.length (Qh r.L))(hO:∀ w',St w0 w' H->Qt w' 1 ov r.of.length (r.of.map qj))
  (hol:r.of.length=r.L.length) (hn:r.L.length<=1000000) (hof:∀ x∈r.of,0<=x/\x<many) (hm:many<=1000000) (hbl:r.begun.length=8) (hel:r.ended.length=8)
  (hK:∀ w' g,w0.heap.size<=g->St w0 w' ((g,Cs ((vn r i many).map .bool) 4)::H)->K (.slice (some ⟨g,0,none⟩) many many) w') :
  qa P 64 [.agg (qS r 0 lv ov xv).toArray,.int .i64 i,.int .i64 many] w K:=by
 obtain⟨la,lc,hlv⟩:=(hL w h).form
 obtain⟨oa,oc,hov⟩:=(hO w h).form
 refine qEY _ _ _ _ _ ?_
 rw[qHo,qmC]
 refine h.newC fun n6 w1 hn6 h1=>?_
 rw[qp4]
 obtain⟨go,hgo,hr1,g1⟩:=q1V h1 hm
 refine⟨_,_,_,_,hr1,?_⟩
 rw[qnR,qoR]
 have g1:St w0 _ ((go,Cs ((List.replicate many false).map .bool) 4)::(n6,Cs (qS r 0 lv ov xv) 64)::H):=g1
 have ad:∀ (g j:Nat),(Addr.mk g 0 none).add (Int.toNat (j:Int)*1)=Addr.mk g j none:=fun g j=>by rw[qc,Nat.zero_add,Int.toNat_natCast,Nat.mul_one]
 have rL:∀ {w':World} {Z:qP},St w0 w' (Z++((n6,Cs (qS r 0 lv ov xv) 64)::H))->w'.cell? (Addr.mk n6 0 none)=some (.slice la r.L.length lc):=fun h'=>by
  rw[qv (h'.has n6 (Cs (qS r 0 lv ov xv) 64) (by simp)),<-hlv];rfl
 have rO:∀ {w':World} {Z:qP},St w0 w' (Z++((n6,Cs (qS r 0 lv ov xv) 64)::H))->w'.cell? ((Addr.mk n6 0 none).add 1)=some (.slice oa r.of.length oc):=fun h'=>by
  rw[qc,qv (h'.has n6 (Cs (qS r 0 lv ov xv) 64) (by simp)),<-hov];rfl
 have ofc:∀ {w':World} {b:Nat},St w0 w' H->(hb:b<r.of.length)->∃ a,oa=some a/\w'.cell? (a.add (b*1))=some (qj (r.of.getD b 0)):=fun {w' b} h' hb=>by
  obtain⟨a,c,hac,hld⟩:=qxn (hO w' h') hb
  rw[hov]at hac
  obtain⟨hsa,-⟩:oa=some a/\oc=c:=by simpa using hac
  refine⟨a,hsa,?_⟩
  rw[hld,List.getElem?_map,List.getElem?_eq_getElem hb]
  simp[List.getD,hb]
 have ofr:∀ {b:Nat},(hb:b<r.of.length)->0<=r.of.getD b 0/\r.of.getD b 0<many:=fun {b} hb=>by
  have:r.of.getD b 0=r.of[b]:=by simp[List.getD,hb]
  rw[this]
  exact hof _ (List.getElem_mem hb)
 refine⟨fun m ee w=>∃ (a:Nat) (s:List Bool),a<=r.L.length/\m=r.L.length-a/\ee=ql.mk 59 [(6,qy),(7,.slice (some ⟨go,0,none⟩) many many),(8,qj (a:Nat)),(3,(Value.pointer (some (Addr.mk n6 0 none)))),(1,qj (i:Nat))] []/\
   s.length=many/\q5k r i (r.L.length-a) a s=vn r i many/\St w0 w ((go,Cs (s.map .bool) 4)::(n6,Cs (qS r 0 lv ov xv) 64)::H),
  ⟨r.L.length,0,List.replicate many false,by omega,rfl,rfl,by simp,rfl,g1⟩,?_⟩
 rintro m ee w4 ⟨a,s,ha,rfl,rfl,hs,hfin,hw⟩
 show qll ..
 rw[qeF]
 refine⟨la,_,lc,rL (Z:=[(go,Cs (s.map .bool) 4)]) hw,r.L.length,fun wq _=>vZ wq,?_⟩
 rw[qg]
 have wr:∀ j:Nat,j<r.L.length->IntKind.wrap .i64 ((j:Int)+1)=((j+1:Nat):Int):=fun j hj=>by rw[qk om om];rfl
 constructor
 ·intro hlt
  have hlt:a<r.L.length:=by simpa using hlt
  rw[qqi]
  obtain⟨o,ho,hcell⟩:=ofc (b:=a) ((hw.tail hgo).tail hn6) om
  subst ho
  refine⟨_,_,oc,rO (Z:=[(go,Cs (s.map .bool) 4)]) hw,by omega,by omega,_,by rw[Int.toNat_natCast];exact hcell,?_⟩
  rw[show r.L.length-a=(r.L.length-(a+1))+1 by omega,q5k]at hfin
  generalize hY:(fun e' w'=>∃ m,m<r.L.length-a/\∃ (a:Nat) (s:List Bool),a<=r.L.length/\m=r.L.length-a/\e'=ql.mk 59 [(6,qy),(7,.slice (some ⟨go,0,none⟩) many many),(8,qj (a:Nat)),(3,(Value.pointer (some (Addr.mk n6 0 none)))),(1,qj (i:Nat))] []/\
   s.length=many/\q5k r i (r.L.length-a) a s=vn r i many/\St w0 w' ((go,Cs (s.map .bool) 4)::(n6,Cs (qS r 0 lv ov xv) 64)::H))=Y
  have next:∀ w5 (s':List Bool),s'.length=many->q5k r i (r.L.length-(a+1)) (a+1) s'=vn r i many->St w0 w5 ((go,Cs (s'.map .bool) 4)::(n6,Cs (qS r 0 lv ov xv) 64)::H)->
    q8S none 0 0 (some ⟨go,0,none⟩) many many (Addr.mk n6 0 none) (i:Nat) (a:Nat) w5 K Y:=by
   intro w5 s' h1 h2 h3
   rw[qpE,<-hY,wr a hlt]
   exact⟨r.L.length-(a+1),by omega,a+1,s',by omega,rfl,rfl,h1,h2,h3⟩
  rw[qg]
  constructor
  ·intro hne
   have hne:¬ r.of.getD a 0=i:=by simpa using hne
   rw[if_neg hne]at hfin
   exact next w4 s hs hfin hw
  ·intro heq
   have heq:r.of.getD a 0=i:=by simpa using heq
   rw[if_pos heq]at hfin
   rw[qm0]
   refine⟨la,_,lc,rL (Z:=[(go,Cs (s.map .bool) 4)]) hw,?_⟩
   rw[<-hlv]
   refine qeD hw (fun w' h'=>hL w' ((h'.tail hgo).tail hn6)) hn hlt fun w5 gl hgl hall h5=>⟨_,_,_,rfl,?_⟩
   rw[qpA,qnB]
   refine⟨fun m ee w=>∃ (b:Nat) (t:List Bool),b<=r.L.length/\m=r.L.length-b/\ee=ql.mk 59 [(10,qj (b:Nat)),(3,(Value.pointer (some (Addr.mk n6 0 none)))),(7,.slice (some ⟨go,0,none⟩) many many),(1,qj (i:Nat)),(9,.slice (some ⟨gl,0,none⟩) r.L.length r.L.length),(6,qy),(8,qj (a:Nat))] []/\
     t.length=many/\eIn (zD r.L a) r.of i (r.L.length-b) b t=eIn (zD r.L a) r.of i r.L.length 0 s/\St w0 w ((gl,Cs ((zD r.L a).map .bool) 4)::(go,Cs (t.map .bool) 4)::(n6,Cs (qS r 0 lv ov xv) 64)::H),
    ⟨r.L.length,0,s,by omega,rfl,rfl,hs,rfl,h5⟩,?_⟩
   rintro m ee w6 ⟨b,t,hb,rfl,rfl,ht,hin,hw6⟩
   show qcV ..
   rw[qaC]
   refine⟨la,_,lc,rL (Z:=[(gl,_),(go,_)]) hw6,r.L.length,fun wq _=>vZ wq,?_⟩
   rw[qg]
   constructor
   ·intro hbl
    have hbl:b<r.L.length:=by simpa using hbl
    rw[qgV]
    refine⟨by omega,by omega,(zD r.L a).getD b false,by rw[ad,hw6.cell (k:=0) rfl];exact q8n om,?_⟩
    rw[show r.L.length-b=(r.L.length-(b+1))+1 by omega,eIn]at hin
    have step:∀ w7 (t':List Bool),t'.length=many->eIn (zD r.L a) r.of i (r.L.length-(b+1)) (b+1) t'=eIn (zD r.L a) r.of i r.L.length 0 s->St w0 w7 ((gl,Cs ((zD r.L a).map .bool) 4)::(go,Cs (t'.map .bool) 4)::(n6,Cs (qS r 0 lv ov xv) 64)::H)->
      q2X (Addr.mk n6 0 none) (some ⟨go,0,none⟩) many many (i:Nat) (some ⟨gl,0,none⟩) r.L.length r.L.length none 0 0 (a:Nat) (b:Nat) w7 K Y
       (fun e' w'=>∃ m,m<r.L.length-b/\∃ (b:Nat) (t:List Bool),b<=r.L.length/\m=r.L.length-b/\e'=ql.mk 59 [(10,qj (b:Nat)),(3,(Value.pointer (some (Addr.mk n6 0 none)))),(7,.slice (some ⟨go,0,none⟩) many many),(1,qj (i:Nat)),(9,.slice (some ⟨gl,0,none⟩) r.L.length r.L.length),(6,qy),(8,qj (a:Nat))] []/\
     t.length=many/\eIn (zD r.L a) r.of i (r.L.length-b) b t=eIn (zD r.L a) r.of i r.L.length 0 s/\St w0 w' ((gl,Cs ((zD r.L a).map .bool) 4)::(go,Cs (t.map .bool) 4)::(n6,Cs (qS r 0 lv ov xv) 64)::H)):=by
     intro w7 t' h1 h2 h3
     rw[qg8,wr b hbl]
     exact⟨r.L.length-(b+1),by omega,b+1,t',by omega,rfl,rfl,h1,h2,h3⟩
    obtain⟨o2,ho2,hcell2⟩:=ofc (b:=b) (((hw6.tail hgl).tail hgo).tail hn6) om
    obtain rfl:o=o2:=by simpa using ho2
    obtain⟨f1,f2⟩:=ofr (b:=b) om
    have set:q0t true (Addr.mk n6 0 none) (some ⟨go,0,none⟩) many many (i:Nat) (some ⟨gl,0,none⟩) r.L.length r.L.length none 0 0 (a:Nat) (b:Nat) w6 K Y
      (fun e' w'=>∃ m,m<r.L.length-b/\∃ (b:Nat) (t:List Bool),b<=r.L.length/\m=r.L.length-b/\e'=ql.mk 59 [(10,qj (b:Nat)),(3,(Value.pointer (some (Addr.mk n6 0 none)))),(7,.slice (some ⟨go,0,none⟩) many many),(1,qj (i:Nat)),(9,.slice (some ⟨gl,0,none⟩) r.L.length r.L.length),(6,qy),(8,qj (a:Nat))] []/\
     t.length=many/\eIn (zD r.L a) r.of i (r.L.length-b) b t=eIn (zD r.L a) r.of i r.L.length 0 s/\St w0 w' ((gl,Cs ((zD r.L a).map .bool) 4)::(go,Cs (t.map .bool) 4)::(n6,Cs (qS r 0 lv ov xv) 64)::H))\/¬ ((zD r.L a).getD b false=true/\r.of.getD b 0 > i):=by
     by_cases hc:(zD r.L a).getD b false=true/\r.of.getD b 0 > i
     ·left
      rw[if_pos hc]at hin
      rw[q4A,qm]
      refine⟨_,_,oc,rO (Z:=[(gl,_),(go,_)]) hw6,by omega,by omega,_,by rw[Int.toNat_natCast];exact hcell2,f1,by omega,?_⟩
      rw[qc,Nat.zero_add,Nat.mul_one]
      refine hw6.st1 (k:=1) rfl (by rw[List.length_map,ht];omega) rfl fun w7 h7=>?_
      have h7:St w0 w7 ((gl,Cs ((zD r.L a).map .bool) 4)::(go,Cs ((t.map Value.bool).set (r.of.getD b 0).toNat (.bool true)) 4)::(n6,Cs (qS r 0 lv ov xv) 64)::H):=h7
      rw[q0D]at h7
      exact step w7 _ (by simp[ht]) hin h7
     ·right;exact hc
    have no:¬ ((zD r.L a).getD b false=true/\r.of.getD b 0 > i)->q0t false (Addr.mk n6 0 none) (some ⟨go,0,none⟩) many many (i:Nat) (some ⟨gl,0,none⟩) r.L.length r.L.length none 0 0 (a:Nat) (b:Nat) w6 K Y
      (fun e' w'=>∃ m,m<r.L.length-b/\∃ (b:Nat) (t:List Bool),b<=r.L.length/\m=r.L.length-b/\e'=ql.mk 59 [(10,qj (b:Nat)),(3,(Value.pointer (some (Addr.mk n6 0 none)))),(7,.slice (some ⟨go,0,none⟩) many many),(1,qj (i:Nat)),(9,.slice (some ⟨gl,0,none⟩) r.L.length r.L.length),(6,qy),(8,qj (a:Nat))] []/\
     t.length=many/\eIn (zD r.L a) r.of i (r.L.length-b) b t=eIn (zD r.L a) r.of i r.L.length 0 s/\St w0 w' ((gl,Cs ((zD r.L a).map .bool) 4)::(go,Cs (t.map .bool) 4)::(n6,Cs (qS r 0 lv ov xv) 64)::H)):=by
     intro hc
     rw[if_neg hc]at hin
     rw[q4A,qd]
     exact step w6 t ht hin hw6
    cases hfl:(zD r.L a).getD b false
    ·rw[qd]
     exact no (by rw[hfl];simp)
    ·rw[qm]
     refine⟨_,_,oc,rO (Z:=[(gl,_),(go,_)]) hw6,by omega,by omega,_,by rw[Int.toNat_natCast];exact hcell2,?_⟩
     rw[hfl]at set no
     cases hgt:decide (r.of.getD b 0 > i)
     ·exact no (by simp at hgt ⊢;omega)
     ·rcases set with h | h
      ·exact h
      ·exact absurd ⟨rfl,by simpa using hgt⟩ h
   ·intro hge
    have hge:r.L.length<=b:=by simpa using hge
    have:b=r.L.length:=by omega
    subst this
    rw[Nat.sub_self,eIn]at hin
    exact next w6 t ht (by rw[hin];exact hfin) (hw6.tail hgl)
 ·intro hge
  have hge:r.L.length<=a:=by simpa using hge
  have:a=r.L.length:=by omega
  subst this
  rw[Nat.sub_self,q5k]at hfin
  rw[qdZ]
  rw[hfin]at hw
  exact hK w4 go hgo (St.tail (b:=n6) (hw.perm (List.Perm.swap ..)) hn6)
end Go.Fx.Tryz
namespace Go.Fx.Mo
abbrev vG(L:List vH)(a:Nat):vH:=L.getD a default
inductive HB (L:List vH):Nat->Nat->Prop
 | one {a b:Nat}:a<b->b<L.length->yt (vG L a) (vG L b)=true->HB L a b
 | step {a c b:Nat}:HB L a c->c<b->b<L.length->yt (vG L c) (vG L b)=true->HB L a b
theorem HB.lt{L:List vH}{a b:Nat}(h:HB L a b):a<b/\b<L.length:=by
 induction h with
 | one h1 h2 _=>exact⟨h1,h2⟩
 | step _ h1 h2 _ ih=>exact⟨by omega,h2⟩
theorem HB.trans{L:List vH}{a b c:Nat}(h1:HB L a b)(h2:HB L b c):HB L a c:=by
 induction h2 with
 | one h3 h4 h5=>exact .step h1 h3 h4 h5
 | step _ h3 h4 h5 ih=>exact .step ih h3 h4 h5
theorem vO{L M:List vH}{a:Nat}(h:a<L.length):vG (L++M) a=vG L a:=by
 unfold vG
 simp[List.getD,List.getElem?_append_left h]
theorem HB.app{L M:List vH}{a b:Nat}(h:HB L a b):HB (L++M) a b:=by
 induction h with
 | one h1 h2 h3=>exact .one h1 (by simp;omega) (by rw[vO om,vO h2];exact h3)
 | step _ h1 h2 h3 ih=>exact .step ih h1 (by simp;omega) (by rw[vO om,vO h2];exact h3)
theorem HB.of_app{L M:List vH}{a b:Nat}(h:HB (L++M) a b)(hb:b<L.length):HB L a b:=by
 induction h with
 | one h1 h2 h3=>exact .one h1 hb (by rw[vO om,vO hb]at h3;exact h3)
 | step _ h1 h2 h3 ih=>exact .step (ih om) h1 hb (by rw[vO om,vO hb]at h3;exact h3)
theorem HB.last{L:List vH}{a b:Nat}(hb:b<L.length):HB L a b↔∃ c,c<b/\(a=c\/HB L a c)/\yt (vG L c) (vG L b)=true:=by
 constructor
 ·intro h
  cases h with
  | one h1 h2 h3=>exact⟨a,h1,.inl rfl,h3⟩
  | step h0 h1 h2 h3=>exact⟨_,h1,.inr h0,h3⟩
 ·rintro⟨c,h1,rfl | h0,h3⟩
  ·exact .one h1 hb h3
  ·exact .step h0 h1 hb h3
theorem q0R{l:List Bool}{i j:Nat}(hi:i<l.length):(l.set i true).getD j false=(decide (j=i)||l.getD j false):=by
 simp only[List.getD,List.getElem?_set]
 by_cases h:i=j
 ·subst h;simp[hi]
 ·have:¬ j=i:=fun h'=>h h'.symm
  simp[h,this]
theorem q0U(L:List vH)(k:Nat):∀ (m j:Nat) (s:List Bool × List Bool),j+m=L.length->s.1.length=L.length->s.2.length=L.length->∀ x,x<L.length->
  ((aIn L k m j s).1.getD x false=(s.1.getD x false||(decide (j<=x)&&yt (vG L k) (vG L x))))/\((aIn L k m j s).2.getD x false=(s.2.getD x false||(decide (j<=x)&&yt (vG L k) (vG L x))))
 | 0,j,s,hj,h1,h2,x,hx=>by
  have:¬ j<=x:=by omega
  simp[aIn,this]
 | m+1,j,s,hj,h1,h2,x,hx=>by
  unfold aIn
  have hjl:j<L.length:=by omega
  cases hd:yt (L.getD k default) (L.getD j default)
  ·rw[if_neg (by decide)]
   obtain⟨i1,i2⟩:=q0U L k m (j+1) s om h1 h2 x hx
   rw[i1,i2]
   have e:(decide (j+1<=x)&&yt (vG L k) (vG L x))=(decide (j<=x)&&yt (vG L k) (vG L x)):=by
    by_cases hxj:x=j
    ·subst hxj
     rw[show yt (vG L k) (vG L x)=false from hd];simp
    ·have:(j+1<=x)=(j<=x):=by apply propext;omega
     simp only[this]
   rw[e];exact⟨rfl,rfl⟩
  ·rw[if_pos rfl]
   obtain⟨i1,i2⟩:=q0U L k m (j+1) (s.1.set j true,s.2.set j true) om (by simp[h1]) (by simp[h2]) x hx
   rw[i1,i2]
   dsimp only
   rw[q0R om,q0R om]
   by_cases hxj:x=j
   ·subst hxj
    rw[show yt (vG L k) (vG L x)=true from hd];simp
   ·have:(j+1<=x)=(j<=x):=by apply propext;omega
    simp[hxj,this]
theorem q23(L:List vH)(i:Nat):∀ (m k:Nat) (s:List Bool × List Bool),k+m=L.length->i<=k->s.1.length=L.length->s.2.length=L.length->
  (∀ x,x<L.length->(s.1.getD x false=true↔∃ c,c<k/\c<x/\(i=c\/HB L i c)/\yt (vG L c) (vG L x)=true))->
  (∀ x,x<L.length->(s.2.getD x false=true↔i=x\/∃ c,c<k/\c<x/\(i=c\/HB L i c)/\yt (vG L c) (vG L x)=true))->
  ∀ x,x<L.length->((q7u L m k s).1.getD x false=true↔HB L i x)
 | 0,k,s,hk,hik,h1,h2,g1,g2,x,hx=>by
  show s.1.getD x false=true↔_
  rw[g1 x hx,HB.last hx]
  constructor
  ·rintro⟨c,hc1,hc2,hc3,hc4⟩;exact⟨c,hc2,hc3,hc4⟩
  ·rintro⟨c,hc2,hc3,hc4⟩;exact⟨c,by omega,hc2,hc3,hc4⟩
 | m+1,k,s,hk,hik,h1,h2,g1,g2,x,hx=>by
  have hkl:k<L.length:=by omega
  have hrk:s.2.getD k false=true↔i=k\/HB L i k:=by
   rw[g2 k hkl,HB.last hkl]
   constructor
   ·rintro(h | ⟨c,hc1,hc2,hc3,hc4⟩)
    ·exact .inl h
    ·exact .inr ⟨c,hc2,hc3,hc4⟩
   ·rintro(h | ⟨c,hc2,hc3,hc4⟩)
    ·exact .inl h
    ·exact .inr ⟨c,by omega,hc2,hc3,hc4⟩
  have grow:∀ x,(∃ c,c<k+1/\c<x/\(i=c\/HB L i c)/\yt (vG L c) (vG L x)=true)↔(∃ c,c<k/\c<x/\(i=c\/HB L i c)/\yt (vG L c) (vG L x)=true)\/(k<x/\(i=k\/HB L i k)/\yt (vG L k) (vG L x)=true):=by
   intro x
   constructor
   ·rintro⟨c,hc1,hc2,hc3,hc4⟩
    by_cases hck:c=k
    ·subst hck;exact .inr ⟨hc2,hc3,hc4⟩
    ·exact .inl ⟨c,by omega,hc2,hc3,hc4⟩
   ·rintro(⟨c,hc1,hc2,hc3,hc4⟩ | ⟨h1,h2,h3⟩)
    ·exact⟨c,by omega,hc2,hc3,hc4⟩
    ·exact⟨k,by omega,h1,h2,h3⟩
  unfold q7u
  cases hb:s.2.getD k false
  ·have hno:¬ (i=k\/HB L i k):=fun h=>by rw[hrk.2 h]at hb;cases hb
   rw[if_neg (by decide)]
   refine q23 L i m (k+1) s om om h1 h2 (fun y hy=>?_) (fun y hy=>?_) x hx
   ·rw[g1 y hy,grow]
    constructor
    ·exact fun h=>.inl h
    ·rintro(h | ⟨_,h,_⟩)
     ·exact h
     ·exact absurd h hno
   ·rw[g2 y hy,grow]
    constructor
    ·rintro(h | h)
     ·exact .inl h
     ·exact .inr (.inl h)
    ·rintro(h | h | ⟨_,h,_⟩)
     ·exact .inl h
     ·exact .inr h
     ·exact absurd h hno
  ·have hyes:=hrk.1 hb
   rw[if_pos rfl]
   have hl:=Go.Fx.Tryz.aIn_len L k (L.length-(k+1)) (k+1) s
   refine q23 L i m (k+1) _ om om (hl.1.trans h1) (hl.2.trans h2) (fun y hy=>?_) (fun y hy=>?_) x hx
   ·rw[(q0U L k (L.length-(k+1)) (k+1) s om h1 h2 y hy).1,Bool.or_eq_true,Bool.and_eq_true,decide_eq_true_iff,g1 y hy,grow]
    constructor
    ·rintro(h | ⟨h,h'⟩)
     ·exact .inl h
     ·exact .inr ⟨by omega,hyes,h'⟩
    ·rintro(h | ⟨h,_,h'⟩)
     ·exact .inl h
     ·exact .inr ⟨by omega,h'⟩
   ·rw[(q0U L k (L.length-(k+1)) (k+1) s om h1 h2 y hy).2,Bool.or_eq_true,Bool.and_eq_true,decide_eq_true_iff,g2 y hy,grow]
    constructor
    ·rintro((h | h) | ⟨h,h'⟩)
     ·exact .inl h
     ·exact .inr (.inl h)
     ·exact .inr (.inr ⟨by omega,hyes,h'⟩)
    ·rintro(h | h | ⟨h,_,h'⟩)
     ·exact .inl (.inl h)
     ·exact .inl (.inr h)
     ·exact .inr ⟨by omega,h'⟩
theorem q4k(n x:Nat):(List.replicate n false).getD x false=false:=by
 simp only[List.getD,List.getElem?_replicate]
 split<;>rfl
theorem q1k{L:List vH}{i x:Nat}(hi:i<L.length)(hx:x<L.length):(zD L i).getD x false=true↔HB L i x:=by
 unfold zD
 refine q23 L i _ _ _ om (Nat.le_refl i) (by simp) (by simp) (fun y hy=>?_) (fun y hy=>?_) x hx
 ·dsimp only
  rw[q4k]
  constructor
  ·intro h;cases h
  ·rintro⟨c,h1,_,rfl | h2,_⟩
   ·omega
   ·have:=h2.lt;omega
 ·dsimp only
  rw[q0R (by simpa using hi),q4k]
  constructor
  ·intro h;simp at h;exact .inl h.symm
  ·rintro(rfl | ⟨c,h1,_,rfl | h2,_⟩)
   ·simp
   ·omega
   ·have:=h2.lt;omega
theorem q4B{l:List Bool}{of:List Int}{i:Int}{many:Nat}(hof:∀ x∈of,0<=x/\x<many):∀ (m b:Nat) (s:List Bool),b+m=of.length->s.length=many->∀ x,x<many->
  ((eIn l of i m b s).getD x false=true↔s.getD x false=true\/∃ c,b<=c/\c<of.length/\l.getD c false=true/\of.getD c 0=(x:Int)/\(x:Int) > i)
 | 0,b,s,hb,hs,x,hx=>by
  show s.getD x false=true↔_
  constructor
  ·exact fun h=>.inl h
  ·rintro(h | ⟨c,h1,h2,_⟩)
   ·exact h
   ·omega
 | m+1,b,s,hb,hs,x,hx=>by
  unfold eIn
  have hbl:b<of.length:=by omega
  have hr:0<=of.getD b 0/\of.getD b 0<many:=by
   have:of.getD b 0=of[b]:=by simp[List.getD,hbl]
   rw[this];exact hof _ (List.getElem_mem hbl)
  have split:(∃ c,b<=c/\c<of.length/\l.getD c false=true/\of.getD c 0=(x:Int)/\(x:Int) > i)↔(l.getD b false=true/\of.getD b 0=(x:Int)/\(x:Int) > i)\/(∃ c,b+1<=c/\c<of.length/\l.getD c false=true/\of.getD c 0=(x:Int)/\(x:Int) > i):=by
   constructor
   ·rintro⟨c,h1,h2,h3⟩
    by_cases hcb:c=b
    ·subst hcb;exact .inl h3
    ·exact .inr ⟨c,by omega,h2,h3⟩
   ·rintro(h | ⟨c,h1,h2,h3⟩)
    ·exact⟨b,by omega,hbl,h⟩
    ·exact⟨c,by omega,h2,h3⟩
  rw[split]
  by_cases hc:l.getD b false=true/\of.getD b 0 > i
  ·rw[if_pos hc,q4B hof m (b+1) _ om (by simp[hs]) x hx,q0R om,Bool.or_eq_true,decide_eq_true_iff]
   constructor
   ·rintro((h | h) | h)
    ·exact .inr (.inl ⟨hc.1,by omega,by omega⟩)
    ·exact .inl h
    ·exact .inr (.inr h)
   ·rintro(h | ⟨h1,h2,h3⟩ | h)
    ·exact .inl (.inr h)
    ·exact .inl (.inl om)
    ·exact .inr h
  ·rw[if_neg hc,q4B hof m (b+1) _ om hs x hx]
   constructor
   ·rintro(h | h)
    ·exact .inl h
    ·exact .inr (.inr h)
   ·rintro(h | ⟨h1,h2,h3⟩ | h)
    ·exact .inl h
    ·exact absurd ⟨h1,by omega⟩ hc
    ·exact .inr h
theorem q1P{r:RR}{i:Int}{many:Nat}(hol:r.of.length=r.L.length)(hof:∀ x∈r.of,0<=x/\x<many):∀ (m a:Nat) (s:List Bool),a+m=r.L.length->s.length=many->∀ x,x<many->
  ((q5k r i m a s).getD x false=true↔s.getD x false=true\/∃ d c,a<=d/\d<r.L.length/\c<r.L.length/\r.of.getD d 0=i/\r.of.getD c 0=(x:Int)/\(x:Int) > i/\HB r.L d c)
 | 0,a,s,ha,hs,x,hx=>by
  show s.getD x false=true↔_
  constructor
  ·exact fun h=>.inl h
  ·rintro(h | ⟨d,c,h1,h2,_⟩)
   ·exact h
   ·omega
 | m+1,a,s,ha,hs,x,hx=>by
  unfold q5k
  have hal:a<r.L.length:=by omega
  have split:(∃ d c,a<=d/\d<r.L.length/\c<r.L.length/\r.of.getD d 0=i/\r.of.getD c 0=(x:Int)/\(x:Int) > i/\HB r.L d c)↔(∃ c,c<r.L.length/\r.of.getD a 0=i/\r.of.getD c 0=(x:Int)/\(x:Int) > i/\HB r.L a c)\/(∃ d c,a+1<=d/\d<r.L.length/\c<r.L.length/\r.of.getD d 0=i/\r.of.getD c 0=(x:Int)/\(x:Int) > i/\HB r.L d c):=by
   constructor
   ·rintro⟨d,c,h1,h2,h3,h4⟩
    by_cases hda:d=a
    ·subst hda;exact .inl ⟨c,h3,h4⟩
    ·exact .inr ⟨d,c,by omega,h2,h3,h4⟩
   ·rintro(⟨c,h3,h4⟩ | ⟨d,c,h1,h2,h3,h4⟩)
    ·exact⟨a,c,by omega,hal,h3,h4⟩
    ·exact⟨d,c,by omega,h2,h3,h4⟩
  rw[split]
  by_cases hc:r.of.getD a 0=i
  ·rw[if_pos hc,q1P hol hof m (a+1) _ om (by rw[q7F];exact hs) x hx,q4B hof _ 0 s om hs x hx]
   constructor
   ·rintro((h | ⟨c,_,h2,h3,h4,h5⟩) | h)
    ·exact .inl h
    ·exact .inr (.inl ⟨c,by omega,hc,h4,h5,(q1k hal om).1 h3⟩)
    ·exact .inr (.inr h)
   ·rintro(h | ⟨c,h2,_,h4,h5,h6⟩ | h)
    ·exact .inl (.inl h)
    ·exact .inl (.inr ⟨c,by omega,by omega,(q1k hal h2).2 h6,h4,h5⟩)
    ·exact .inr h
  ·rw[if_neg hc,q1P hol hof m (a+1) _ om hs x hx]
   constructor
   ·rintro(h | h)
    ·exact .inl h
    ·exact .inr (.inr h)
   ·rintro(h | ⟨c,_,h4,_⟩ | h)
    ·exact .inl h
    ·exact absurd h4 hc
    ·exact .inr h
theorem qcs{r:RR}{i many:Nat}(hol:r.of.length=r.L.length)(hof:∀ x∈r.of,0<=x/\x<many){x:Nat}(hx:x<many) :
  (vn r (i:Nat) many).getD x false=true↔∃ d c,d<r.L.length/\c<r.L.length/\r.of.getD d 0=(i:Int)/\r.of.getD c 0=(x:Int)/\i<x/\HB r.L d c:=by
 unfold vn
 rw[q1P hol hof _ 0 _ om (by simp) x hx,q4k]
 constructor
 ·rintro(h | ⟨d,c,_,h1,h2,h3,h4,h5,h6⟩)
  ·cases h
  ·exact⟨d,c,h1,h2,h3,h4,by omega,h6⟩
 ·rintro⟨d,c,h1,h2,h3,h4,h5,h6⟩
  exact .inr ⟨d,c,by omega,h1,h2,h3,h4,by omega,h6⟩
end Go.Fx.Mo
namespace Go.Fx.Mo
section assoc
variable {K V:Type} [DecidableEq K]
theorem vQ{m:List (K × V)}{k:K}{v:V}(h:qr m k=some v):(k,v)∈m:=by
 unfold qr at h
 cases hf:m.find? fun p=>p.1==k with
 | none=>rw[hf]at h;cases h
 | some p=>
  rw[hf]at h
  simp at h
  have h1:=List.find?_some hf
  have h2:=List.mem_of_find?_eq_some hf
  simp at h1
  subst h1;subst h
  exact h2
theorem q81{m:List (K × V)}{k:K}{v:V}{q:K × V}(h:q∈put m k v):q∈m\/q.2=v:=by
 unfold put at h
 split at h
 ·obtain⟨p,hp,rfl⟩:=List.mem_map.1 h
  split
  ·exact .inr rfl
  ·exact .inl hp
 ·rcases List.mem_append.1 h with h | h
  ·exact .inl h
  ·simp at h;subst h;exact .inr rfl
theorem qwr(m:List (K × V))(k:K)(v:V):(put m k v).map (·.1)=if(qr m k).isSome then m.map (·.1)else m.map (·.1)++[k]:=by
 unfold put
 cases h:qr m k with
 | none=>simp
 | some u=>
  simp only[Option.isSome_some,if_true,List.map_map]
  apply List.map_congr_left
  intro p _
  simp only[Function.comp]
  split<;>rfl
theorem jW{m:List (K × V)}(h:(m.map (·.1)).Nodup)(k:K)(v:V):((put m k v).map (·.1)).Nodup:=by
 rw[qwr]
 split
 ·exact h
 ·rename_i hn
  have hn:qr m k=none:=by simpa using hn
  refine List.nodup_append.2 ⟨h,by simp,fun a ha b hb=>?_⟩
  simp at hb
  subst hb
  rintro rfl
  obtain⟨p,hp,he⟩:=List.mem_map.1 ha
  exact jQ.1 hn p hp he
theorem q2t:∀ (u m:List (K × V)),(u.map (·.1)).Nodup->∀ k,qr (zf m u) k=(qr u k).or (qr m k)
 | [],m,_,k=>by simp[zf,qr]
 | p::r,m,h,k=>by
  simp only[List.map_cons,List.nodup_cons]at h
  rw[zf,q2t r _ h.2 k,vD]
  have e:qr (p::r) k=if p.1=k then some p.2 else qr r k:=by
   unfold qr
   rw[List.find?_cons]
   by_cases hk:p.1=k
   ·simp[hk]
   ·have:(p.1==k)=false:=by simpa using hk
    rw[this,if_neg hk]
  rw[e]
  by_cases hk:k=p.1
  ·subst hk
   have:qr r p.1=none:=jQ.2 fun q hq he=>h.1 (List.mem_map.2 ⟨q,hq,he⟩)
   simp[this]
  ·rw[if_neg hk,if_neg (Ne.symm hk)]
theorem q3l:∀ (u m:List (K × V)) {q:K × V},q∈zf m u->q∈m\/∃ p∈u,q.2=p.2
 | [],m,q,h=>.inl h
 | p::r,m,q,h=>by
  rcases q3l r _ h with h | ⟨p',hp,he⟩
  ·rcases q81 h with h | h
   ·exact .inl h
   ·exact .inr ⟨p,by simp,h⟩
  ·exact .inr ⟨p',by simp[hp],he⟩
end assoc
def CB(c:vj)(B:Int):Prop:=c.length=8/\∀ t,0<=zo c t/\zo c t<=B
theorem CB.mono{c:vj}{B B':Int}(h:CB c B)(hb:B<=B'):CB c B':=⟨h.1,fun t=>⟨(h.2 t).1,by have:=(h.2 t).2;omega⟩⟩
theorem qcg(t:Int):zo qW t=0:=by
 unfold zo qW
 rw[List.getD_eq_getElem?_getD,List.getElem?_replicate]
 split<;>rfl
theorem CB.zero{B:Int}(h:0<=B):CB qW B:=⟨rfl,fun t=>by rw[qcg];omega⟩
theorem Qj{c d:vj}(hc:c.length=8)(hd:d.length=8)(t:Int):zo (zk c d) t=if zo d t > zo c t then zo d t else zo c t:=by
 unfold zo zk
 simp only[List.getD_eq_getElem?_getD,List.getElem?_zipWith]
 by_cases h:t.toNat<8
 ·rw[List.getElem?_eq_getElem om,List.getElem?_eq_getElem om];rfl
 ·rw[List.getElem?_eq_none om,List.getElem?_eq_none om];simp
theorem CB.join{c d:vj}{B:Int}(hc:CB c B)(hd:CB d B):CB (zk c d) B:=by
 refine⟨by simp[zk,hc.1,hd.1],fun t=>?_⟩
 rw[Qj hc.1 hd.1]
 have h1:=hc.2 t
 have h2:=hd.2 t
 split<;>omega
theorem jX{c d:vj}(hc:c.length=8)(hd:d.length=8)(t:Int):zo c t<=zo (zk c d) t:=by rw[Qj hc hd];split<;>omega
theorem qJh{c d:vj}(hc:c.length=8)(hd:d.length=8)(t:Int):zo d t<=zo (zk c d) t:=by rw[Qj hc hd];split<;>omega
theorem qfa{c:vj}{i:Nat}(hi:i<c.length)(x t:Int):zo (c.set i x) t=if t.toNat=i then x else zo c t:=by
 unfold zo
 simp only[List.getD_eq_getElem?_getD,List.getElem?_set]
 by_cases h:i=t.toNat
 ·simp[h,h▸hi]
 ·simp[h,Ne.symm h]
structure ThB (T:Th) (B:Int):Prop where
 clocks:T.clocks.length=8
 each:∀ c∈T.clocks,CB c B
 objs:∀ q∈T.objs,CB q.2 B
 pos:0<=B
theorem ThB.mono{T:Th}{B B':Int}(h:ThB T B)(hb:B<=B'):ThB T B':=⟨h.clocks,fun c hc=>(h.each c hc).mono hb,fun q hq=>(h.objs q hq).mono hb,by have:=h.pos;omega⟩
theorem ThB.getC{T:Th}{B:Int}(h:ThB T B)(i:Int):CB (getC T.clocks i) B:=by
 unfold Mo.getC
 rw[List.getD_eq_getElem?_getD]
 cases hx:T.clocks[i.toNat]? with
 | none=>exact CB.zero h.pos
 | some c=>exact h.each c (List.mem_of_getElem? hx)
structure PM (T:Th) (e:Ev) (p0 p:Pl) (B:Int):Prop where
 own:CB p.own B
 objs:∀ q∈p.objs,CB q.2 B
 nd:(p.objs.map (·.1)).Nodup
 grow:∀ t,zo p0.own t<=zo p.own t
 ob:∀ k t,zo (qL T p0 k) t<=zo (qL T p k) t
 tk:0<=p.tk/\p.tk<=zo p.own e.th
theorem YC{T:Th}{p:Pl}{B:Int}(hT:ThB T B)(hp:∀ q∈p.objs,CB q.2 B)(k:Ob):CB (qL T p k) B:=by
 unfold qL
 split
 ·rename_i c hc;exact hp _ (vQ hc)
 ·cases hx:qr T.objs k with
  | none=>exact CB.zero hT.pos
  | some c=>exact hT.objs _ (vQ hx)
theorem PM.same{T:Th}{e:Ev}{p0 p q:Pl}{B:Int}(h:PM T e p0 p B)(h1:q.own=p.own)(h2:q.objs=p.objs)(h3:q.tk=p.tk):PM T e p0 q B:=
 ⟨by rw[h1];exact h.own,by rw[h2];exact h.objs,by rw[h2];exact h.nd,by rw[h1];exact h.grow,fun k t=>by have:=h.ob k t;unfold qL at this ⊢;rw[h2];exact this,by rw[h1,h3];exact h.tk⟩
theorem PM.mono{T:Th}{e:Ev}{p0 p:Pl}{B B':Int}(h:PM T e p0 p B)(hb:B<=B'):PM T e p0 p B':=
 ⟨h.own.mono hb,fun q hq=>(h.objs q hq).mono hb,h.nd,h.grow,h.ob,h.tk⟩
theorem ZZ{e:Ev}{p:Pl}{o:vH}{B:Int}(h:CB p.own B)(ht:0<=e.th/\e.th<8)(hB:B<4611686018427387904)(t:Int):zo (tick e p o).own t=if t.toNat=e.th.toNat then zo p.own e.th+1 else zo p.own t:=by
 have h1:=h.2 e.th
 show zo (p.own.set e.th.toNat (yk (zo p.own e.th+1))) t=_
 rw[qfa (by rw[h.1];omega),zV om om]
theorem qjd{c:vj}{t u:Int}(h:t.toNat=u.toNat):zo c t=zo c u:=by unfold zo;rw[h]
theorem qiX{e:Ev}{p:Pl}{o:vH}{B:Int}(h:CB p.own B)(ht:0<=e.th/\e.th<8)(hB:B<4611686018427387904):CB (tick e p o).own (B+1):=by
 refine⟨by show(p.own.set _ _).length=8;rw[List.length_set,h.1],fun t=>?_⟩
 rw[ZZ h ht hB]
 have h1:=h.2 e.th
 have h2:=h.2 t
 split<;>omega
theorem qpu{e:Ev}{p:Pl}{o:vH}{B:Int}(h:CB p.own B)(ht:0<=e.th/\e.th<8)(hB:B<4611686018427387904)(t:Int):zo p.own t<=zo (tick e p o).own t:=by
 rw[ZZ h ht hB]
 split
 ·rename_i he;rw[qjd he];omega
 ·omega
theorem PM.tick{T:Th}{e:Ev}{p0 p:Pl}{B:Int}(h:PM T e p0 p B)(ht:0<=e.th/\e.th<8)(hB:B<4611686018427387904)(o:vH):PM T e p0 (tick e p o) (B+1):=by
 refine⟨qiX h.own ht hB,fun q hq=>(h.objs q hq).mono om,h.nd,fun t=>Int.le_trans (h.grow t) (qpu h.own ht hB t),h.ob,?_⟩
 have h1:=h.own.2 e.th
 have h2:=ZZ (o:=o) h.own ht hB e.th
 rw[if_pos rfl]at h2
 rw[h2]
 show 0<=(if p.tk=0 then zo (Mo.tick e p o).own e.th else p.tk)/\(if p.tk=0 then zo (Mo.tick e p o).own e.th else p.tk)<=_
 rw[h2]
 have:=h.tk
 split<;>omega
theorem Zt(T:Th)(p:Pl)(x:Ob):(number T p x).2.own=p.own/\(number T p x).2.objs=p.objs/\(number T p x).2.tk=p.tk:=by
 unfold number
 split
 ·exact⟨rfl,rfl,rfl⟩
 ·split<;>exact⟨rfl,rfl,rfl⟩
theorem PM.number{T:Th}{e:Ev}{p0 p:Pl}{B:Int}(h:PM T e p0 p B)(x:Ob):PM T e p0 (number T p x).2 B:=
 have n:=Zt T p x
 h.same n.1 n.2.1 n.2.2
theorem PM.acquire{T:Th}{e:Ev}{p0 p:Pl}{B:Int}(hT:ThB T B)(h:PM T e p0 p B)(x:Ob):PM T e p0 (acquire T p x) B:=
 have hc:=YC hT h.objs x
 ⟨h.own.join hc,h.objs,h.nd,fun t=>Int.le_trans (h.grow t) (jX h.own.1 hc.1 t),h.ob,h.tk.1,Int.le_trans h.tk.2 (jX h.own.1 hc.1 e.th)⟩
theorem ZE(T:Th)(p:Pl)(x k:Ob):qL T (release T p x) k=if k=x then zk (qL T p x) p.own else qL T p k:=by
 show(match qr (put p.objs x (zk (qL T p x) p.own)) k with | some c=>c | none=>(qr T.objs k).getD qW)=_
 rw[vD]
 by_cases hk:k=x
 ·simp[hk]
 ·simp only[hk,if_false];rfl
theorem PM.release{T:Th}{e:Ev}{p0 p:Pl}{B:Int}(hT:ThB T B)(h:PM T e p0 p B)(x:Ob):PM T e p0 (release T p x) B:=by
 have hc:=YC hT h.objs x
 refine⟨h.own,fun q hq=>?_,jW h.nd _ _,h.grow,fun k t=>?_,h.tk⟩
 ·rcases q81 hq with hq | hq
  ·exact h.objs q hq
  ·rw[hq];exact hc.join h.own
 ·rw[ZE]
  split
  ·rename_i hk;subst hk;exact Int.le_trans (h.ob k t) (jX hc.1 h.own.1 t)
  ·exact h.ob k t
theorem PM.atomicL{T:Th}{e:Ev}{p0:Pl}(ht:0<=e.th/\e.th<8):∀ (l:List Int) (x:Ob) (p:Pl) (B:Int),ThB T B->PM T e p0 p B->B+l.length<4611686018427387904->PM T e p0 (atomicL T e l x p) (B+l.length)
 | [],_,p,B,_,h,_=>h.mono (by simp)
 | a::r,last,p,B,hT,h,hB=>by
  simp only[List.length_cons]at hB ⊢
  unfold Mo.atomicL
  simp only
  split
  ·exact(PM.atomicL ht r last p B hT h om).mono om
  ·refine(PM.atomicL ht r _ _ (B+1) (hT.mono om) ?_ om).mono om
   exact(((h.number _).acquire hT _).tick ht om _).release (hT.mono om) _
theorem vW{T:Th}{e:Ev}(h:zw T e=false):0<=e.th/\e.th<8:=by
 unfold zw at h
 simp only[Bool.or_eq_false_iff,decide_eq_false_iff_not]at h
 omega
theorem q4P{T:Th}{e:Ev}(h:zw T e=false)(hk:e.kind=4):e.n<=16:=by
 unfold zw at h
 have:(zl e).2.1=true:=by unfold zl;rw[if_neg om,if_neg om,if_pos hk]
 rw[this]at h
 simp only[Bool.or_eq_false_iff,Bool.true_and,decide_eq_false_iff_not]at h
 omega
theorem PM.act{T:Th}{e:Ev}{p0 p:Pl}{B:Int}(hr:zw T e=false)(hT:ThB T B)(h:PM T e p0 p B)(hB:B+16<4611686018427387904):PM T e p0 (act T e p) (B+16):=by
 have ht:=vW hr
 unfold Mo.act
 split
 ·rename_i hk
  have:=q4P hr hk
  have hl:(bytes e.a e.n).length=e.n.toNat:=by simp[bytes]
  exact(PM.atomicL ht _ _ _ B hT h (by rw[hl];omega)).mono (by rw[hl];omega)
 ·split
  ·unfold jk
   split
   ·exact PM.mono (B:=B) (h.same rfl rfl rfl) om
   ·exact PM.mono (B:=B+1) ((h.tick ht om ⟨5,0,e.n,0⟩).same rfl rfl rfl) om
  ·split
   ·unfold Mo.join
    split
    ·exact PM.mono (B:=B) (h.same rfl rfl rfl) om
    ·have hc:=hT.getC e.n
     have h':PM T e p0 { p with own:=zk p.own (getC T.clocks e.n) } B:=
      ⟨h.own.join hc,h.objs,h.nd,fun t=>Int.le_trans (h.grow t) (jX h.own.1 hc.1 t),h.ob,h.tk.1,Int.le_trans h.tk.2 (jX h.own.1 hc.1 e.th)⟩
     exact PM.mono (B:=B+1) ((h'.tick ht om ⟨6,0,e.n,0⟩).same rfl rfl rfl) om
   ·split
    ·exact PM.mono (B:=B+1) (((h.number _).acquire hT _).tick ht om _) om
    ·split
     ·exact PM.mono (B:=B+1) (((h.number _).tick ht om _).release (hT.mono om) _) om
     ·exact PM.mono (B:=B+1) (h.tick ht om _) om
theorem qxr{T:Th}{e:Ev}{B:Int}(hT:ThB T B):PM T e (yL T e) (yL T e) B:=
 ⟨hT.getC e.th,by simp[yL],by simp[yL],fun _=>Int.le_refl _,fun _ _=>Int.le_refl _,Int.le_refl _,((hT.getC e.th).2 e.th).1⟩
theorem Yc{T:Th}{e:Ev}{p:Pl}(h:plan T e=some p):zw T e=false/\p=act T e (yL T e)/\p.bad=false:=by
 unfold plan at h
 split at h
 ·cases h
 ·rename_i hr
  split at h
  ·cases h
  ·rename_i hb
   cases h
   exact⟨by simpa using hr,rfl,by simpa using hb⟩
theorem YA{T:Th}{e:Ev}{p:Pl}{B:Int}(h:plan T e=some p)(hT:ThB T B)(hB:B+16<4611686018427387904):PM T e (yL T e) p (B+16):=by
 obtain⟨hr,rfl,_⟩:=Yc h
 exact PM.act hr hT (qxr hT) hB
theorem q0X{T:Th}{e:Ev}{p:Pl}(hn:(p.objs.map (·.1)).Nodup)(k:Ob):(qr (qG T e p).objs k).getD qW=qL T p k:=by
 have:(qG T e p).objs=zf T.objs p.objs:=by unfold qG;simp only;split<;>split<;>split<;>rfl
 rw[this,q2t _ _ hn]
 unfold qL
 cases qr p.objs k<;>rfl
theorem zz(T:Th)(e:Ev)(p:Pl):(qG T e p).clocks=if p.fork>=0 then(T.clocks.set e.th.toNat p.own).set p.fork.toNat (zk (getC (T.clocks.set e.th.toNat p.own) p.fork) p.own)else T.clocks.set e.th.toNat p.own:=by
 unfold qG;simp only;split<;>split<;>split<;>rfl
theorem zP{l:List vj}{i:Nat}(hi:i<l.length)(c:vj)(u:Int):getC (l.set i c) u=if u.toNat=i then c else getC l u:=by
 unfold getC
 simp only[List.getD_eq_getElem?_getD,List.getElem?_set]
 by_cases h:i=u.toNat
 ·simp[h,h▸hi]
 ·simp[h,Ne.symm h]
theorem qd9{T:Th}{e:Ev}{p:Pl}{B:Int}(h:plan T e=some p)(hT:ThB T B)(hB:B+16<4611686018427387904):ThB (qG T e p) (B+16):=by
 have hp:=YA h hT hB
 have hT':=hT.mono (by omega:B<=B+16)
 have hset:∀ c∈T.clocks.set e.th.toNat p.own,CB c (B+16):=fun c hc=>by
  rcases List.mem_or_eq_of_mem_set hc with hc | rfl
  ·exact hT'.each c hc
  ·exact hp.own
 have hg:∀ u,CB (getC (T.clocks.set e.th.toNat p.own) u) (B+16):=fun u=>by
  unfold getC
  rw[List.getD_eq_getElem?_getD]
  cases hx:(T.clocks.set e.th.toNat p.own)[u.toNat]? with
  | none=>exact CB.zero hT'.pos
  | some c=>exact hset c (List.mem_of_getElem? hx)
 refine⟨?_,fun c hc=>?_,fun q hq=>?_,hT'.pos⟩
 ·rw[zz];split<;>simp[hT.clocks]
 ·rw[zz]at hc
  split at hc
  ·rcases List.mem_or_eq_of_mem_set hc with hc | rfl
   ·exact hset c hc
   ·exact(hg _).join hp.own
  ·exact hset c hc
 ·have:(qG T e p).objs=zf T.objs p.objs:=by unfold qG;simp only;split<;>split<;>split<;>rfl
  rw[this]at hq
  rcases q3l _ _ hq with hq | ⟨r,hr,he⟩
  ·exact hT'.objs q hq
  ·rw[he];exact hp.objs r hr
theorem qcd{T:Th}{e:Ev}{p:Pl}{B:Int}(h:plan T e=some p)(hT:ThB T B)(hB:B+16<4611686018427387904)(t:Int):zo p.own t<=zo (getC (qG T e p).clocks e.th) t:=by
 have hp:=YA h hT hB
 have ht:=vW (zO h)
 have hi:e.th.toNat<T.clocks.length:=by rw[hT.clocks];omega
 rw[zz]
 split
 ·rw[zP (by rw[List.length_set,hT.clocks];have:=(QK h).1;omega)]
  split
  ·rename_i hf
   have:getC (T.clocks.set e.th.toNat p.own) p.fork=p.own:=by rw[zP hi,if_pos hf.symm]
   rw[this]
   exact jX hp.own.1 hp.own.1 t
  ·rw[zP hi,if_pos rfl];exact Int.le_refl _
 ·rw[zP hi,if_pos rfl];exact Int.le_refl _
theorem q9w{T:Th}{e:Ev}{p:Pl}{B:Int}(h:plan T e=some p)(hT:ThB T B)(hB:B+16<4611686018427387904)(u t:Int):zo (getC T.clocks u) t<=zo (getC (qG T e p).clocks u) t:=by
 have hp:=YA h hT hB
 have ht:=vW (zO h)
 have hi:e.th.toNat<T.clocks.length:=by rw[hT.clocks];omega
 have h1:∀ u,zo (getC T.clocks u) t<=zo (getC (T.clocks.set e.th.toNat p.own) u) t:=fun u=>by
  rw[zP hi]
  split
  ·rename_i hu
   have:getC T.clocks u=(yL T e).own:=by unfold getC yL;simp only[getC,hu]
   rw[this]
   exact hp.grow t
  ·exact Int.le_refl _
 have hl:∀ u,(getC (T.clocks.set e.th.toNat p.own) u).length=8:=fun u=>by
  rw[zP hi]
  split
  ·exact hp.own.1
  ·exact(hT.getC u).1
 rw[zz]
 split
 ·rw[zP (by rw[List.length_set,hT.clocks];have:=(QK h).1;omega)]
  split
  ·rename_i hf
   have:getC (T.clocks.set e.th.toNat p.own) p.fork=getC (T.clocks.set e.th.toNat p.own) u:=by unfold getC;rw[hf]
   rw[this]
   exact Int.le_trans (h1 u) (jX (hl u) hp.own.1 t)
  ·exact h1 u
 ·exact h1 u
def Jw(u:Int)(o:vH):Bool:=o.th==u||(o.kind==5&&o.other==u)
def jG(o:vH):Bool:=o.kind==2||o.kind==4
def q5I(o:vH):Bool:=o.kind==3||o.kind==4
theorem QF(a b:vH):yt a b=true↔Jw b.th a=true\/(b.kind=6/\Jw b.other a=true)\/(q5I b=true/\jG a=true/\a.obj=b.obj):=by
 unfold yt Jw jG q5I
 simp only[Bool.or_eq_true,Bool.and_eq_true,beq_iff_eq]
 constructor
 ·rintro(h | ⟨h1,h2⟩ | ⟨⟨h1,h2⟩,h3⟩)
  ·exact .inl h
  ·exact .inr (.inl ⟨h1,h2⟩)
  ·exact .inr (.inr ⟨h2,h1,h3⟩)
 ·rintro(h | ⟨h1,h2⟩ | ⟨h2,h1,h3⟩)
  ·exact .inl h
  ·exact .inr (.inl ⟨h1,h2⟩)
  ·exact .inr (.inr ⟨⟨h1,h2⟩,h3⟩)
def Kn(L:List vH)(a:Nat)(P:vH->Bool):Prop:=∃ b,b<L.length/\(a=b\/HB L a b)/\P (vG L b)=true
structure VI (cl:Int->vj) (ob:Ob->vj) (L:List vH) (tk:List Int) (objs:List Ob) (B:Int):Prop where
 len:tk.length=L.length
 th:∀ a,a<L.length->0<=(vG L a).th/\(vG L a).th<8
 pos:∀ a,a<L.length->1<=tk.getD a 0
 obj:∀ a,a<L.length->jG (vG L a)=true->0<=(vG L a).obj/\(vG L a).obj<objs.length
 T:∀ u,0<=u->u<8->∀ a,a<L.length->(tk.getD a 0<=zo (cl u) (vG L a).th↔Kn L a (Jw u))
 O:∀ k a,a<L.length->(tk.getD a 0<=zo (ob k) (vG L a).th↔Kn L a fun o=>jG o&&o.obj==(zL objs k:Nat))
 mT:∀ u t,0<=u->u<8->0<=t->t<8->zo (cl u) t<=zo (cl t) t
 mO:∀ k t,0<=t->t<8->zo (ob k) t<=zo (cl t) t
 cb:∀ u,0<=u->u<8->CB (cl u) B
 co:∀ k,CB (ob k) B
theorem q2F{c d:vj}(hc:c.length=8)(hd:d.length=8)(s v:Int):v<=zo (zk c d) s↔v<=zo c s\/v<=zo d s:=by
 rw[Qj hc hd]
 split<;>omega
theorem qd7{objs:List Ob}{x k:Ob}(hx:x∈objs)(h:zL objs k=zL objs x):k=x:=by
 have h1:objs.idxOf x<objs.length:=List.idxOf_lt_length_of_mem hx
 unfold zL at h
 have h2:objs.idxOf k<objs.length:=by omega
 have e1:objs[objs.idxOf k]=k:=List.getElem_idxOf h2
 have e2:objs[objs.idxOf x]=x:=List.getElem_idxOf h1
 rw[<-e1,<-e2]
 simp only[h]
theorem VI.op{cl cl':Int->vj}{ob ob':Ob->vj}{L:List vH}{tk:List Int}{objs:List Ob}{B:Int}(h:VI cl ob L tk objs B){o:vH}{own own0:vj}{x:Ob}
  (ht:0<=o.th/\o.th<8)
  (hown0:∀ s v,v<=zo own0 s↔v<=zo (cl o.th) s\/(q5I o=true/\v<=zo (ob x) s)\/(o.kind=6/\v<=zo (cl o.other) s))
  (hown:∀ s,0<=s->s<8->zo own s=if s=o.th then zo own0 o.th+1 else zo own0 s) (hownB:CB own (B+1))
  (hj:o.kind=6->0<=o.other/\o.other<8) (hf:o.kind=5->0<=o.other/\o.other<8/\o.other≠o.th)
  (hx:jG o=true\/q5I o=true->o.obj=(zL objs x:Nat)/\x∈objs)
  (hcl:∀ u,0<=u->u<8->cl' u=if u=o.th then own else if o.kind=5/\u=o.other then zk (cl u) own else cl u)
  (hob:∀ k,ob' k=if jG o=true/\k=x then zk (ob k) own else ob k) :
  VI cl' ob' (L++[o]) (tk++[zo own o.th]) objs (B+1):=by
 have hlen:(L++[o]).length=L.length+1:=by simp
 have oN:vG (L++[o]) L.length=o:=by unfold vG;simp[List.getD]
 have oL:∀ a,a<L.length->vG (L++[o]) a=vG L a:=fun a ha=>vO ha
 have tN:(tk++[zo own o.th]).getD L.length 0=zo own o.th:=by rw[<-h.len];simp[List.getD]
 have tL:∀ a,a<L.length->(tk++[zo own o.th]).getD a 0=tk.getD a 0:=fun a ha=>by
  have:a<tk.length:=by rw[h.len];exact ha
  simp[List.getD,List.getElem?_append_left this]
 have split:∀ a,a<L.length+1->a<L.length\/a=L.length:=fun a ha=>by omega
 have ownT:zo own o.th=zo own0 o.th+1:=by rw[hown _ ht.1 ht.2,if_pos rfl]
 have clown:∀ s,zo (cl o.th) s<=zo own0 s:=fun s=>(hown0 s _).2 (.inl (Int.le_refl _))
 have hbL:∀ a c,c<L.length->(HB (L++[o]) a c↔HB L a c):=fun a c hc=>⟨fun h=>h.of_app hc,fun h=>h.app⟩
 have K0:∀ a,a<L.length->(tk.getD a 0<=zo own0 (vG L a).th↔HB (L++[o]) a L.length):=by
  intro a ha
  rw[hown0,h.T _ ht.1 ht.2 a ha,HB.last om]
  constructor
  ·rintro(⟨b,hb,h1,h2⟩ | ⟨h0,h1⟩ | ⟨h0,h1⟩)
   ·exact⟨b,hb,h1.imp id fun h=>h.app,by rw[oN,oL b hb,QF];exact .inl h2⟩
   ·obtain⟨b,hb,h1,h2⟩:=(h.O x a ha).1 h1
    rw[Bool.and_eq_true,beq_iff_eq]at h2
    exact⟨b,hb,h1.imp id fun h=>h.app,by rw[oN,oL b hb,QF];exact .inr (.inr ⟨h0,h2.1,h2.2.trans (hx (.inr h0)).1.symm⟩)⟩
   ·obtain⟨h3,h4⟩:=hj h0
    obtain⟨b,hb,h1,h2⟩:=(h.T _ h3 h4 a ha).1 h1
    exact⟨b,hb,h1.imp id fun h=>h.app,by rw[oN,oL b hb,QF];exact .inr (.inl ⟨h0,h2⟩)⟩
  ·rintro⟨b,hb,h1,h2⟩
   have h1:a=b\/HB L a b:=h1.imp id fun h=>h.of_app hb
   rw[oN,oL b hb,QF]at h2
   rcases h2 with h2 | ⟨h0,h2⟩ | ⟨h0,h2,h3⟩
   ·exact .inl ⟨b,hb,h1,h2⟩
   ·obtain⟨h3,h4⟩:=hj h0
    exact .inr (.inr ⟨h0,(h.T _ h3 h4 a ha).2 ⟨b,hb,h1,h2⟩⟩)
   ·refine .inr (.inl ⟨h0,(h.O x a ha).2 ⟨b,hb,h1,?_⟩⟩)
    rw[Bool.and_eq_true,beq_iff_eq]
    exact⟨h2,h3.trans (hx (.inr h0)).1⟩
 have selfT:∀ a,a<L.length->tk.getD a 0<=zo (cl (vG L a).th) (vG L a).th:=fun a ha=>
  (h.T _ (h.th a ha).1 (h.th a ha).2 a ha).2 ⟨a,ha,.inl rfl,by simp[Jw]⟩
 have K1:∀ a,a<L.length->(tk.getD a 0<=zo own (vG L a).th↔HB (L++[o]) a L.length):=by
  intro a ha
  rw[hown _ (h.th a ha).1 (h.th a ha).2]
  by_cases he:(vG L a).th=o.th
  ·rw[if_pos he]
   have h1:=selfT a ha
   rw[he]at h1
   have h2:=clown o.th
   have h3:tk.getD a 0<=zo own0 (vG L a).th:=by rw[he];omega
   constructor
   ·exact fun _=>(K0 a ha).1 h3
   ·intro _;rw[he]at h3;omega
  ·rw[if_neg he];exact K0 a ha
 have knL:∀ a P,a<L.length->(Kn (L++[o]) a P↔Kn L a P\/(HB (L++[o]) a L.length/\P o=true)):=by
  intro a P ha
  constructor
  ·rintro⟨b,hb,h1,h2⟩
   rcases split b om with hb | rfl
   ·rw[oL b hb]at h2
    exact .inl ⟨b,hb,h1.imp id fun h=>h.of_app hb,h2⟩
   ·rw[oN]at h2
    rcases h1 with h1 | h1
    ·omega
    ·exact .inr ⟨h1,h2⟩
  ·rintro(⟨b,hb,h1,h2⟩ | ⟨h1,h2⟩)
   ·exact⟨b,by omega,h1.imp id fun h=>h.app,by rw[oL b hb];exact h2⟩
   ·exact⟨L.length,by omega,.inr h1,by rw[oN];exact h2⟩
 have knN:∀ P,(Kn (L++[o]) L.length P↔P o=true):=by
  intro P
  constructor
  ·rintro⟨b,hb,h1,h2⟩
   rcases h1 with rfl | h1
   ·rw[oN]at h2;exact h2
   ·have:=h1.lt;omega
  ·exact fun h2=>⟨L.length,by omega,.inl rfl,by rw[oN];exact h2⟩
 have lowT:∀ u,0<=u->u<8->¬ zo own o.th<=zo (cl u) o.th:=fun u h0 h8=>by
  have:=h.mT u o.th h0 h8 ht.1 ht.2
  have:=clown o.th
  omega
 have lowO:∀ k,¬ zo own o.th<=zo (ob k) o.th:=fun k=>by
  have:=h.mO k o.th ht.1 ht.2
  have:=clown o.th
  omega
 have own0M:∀ s,0<=s->s<8->zo own0 s<=zo (cl s) s:=by
  intro s h0 h8
  rcases(hown0 s (zo own0 s)).1 (Int.le_refl _)with h1 | ⟨_,h1⟩ | ⟨h6,h1⟩
  ·have:=h.mT o.th s ht.1 ht.2 h0 h8;omega
  ·have:=h.mO x s h0 h8;omega
  ·have:=h.mT o.other s (hj h6).1 (hj h6).2 h0 h8;omega
 have hL8:own.length=8:=hownB.1
 have clM:∀ s,0<=s->s<8->zo (cl s) s<=zo (cl' s) s:=by
  intro s h0 h8
  rw[hcl s h0 h8]
  split
  ·rename_i he;rw[he,ownT];have:=clown o.th;omega
  ·split
   ·exact jX (h.cb s h0 h8).1 hL8 s
   ·exact Int.le_refl _
 have ownM:∀ s,0<=s->s<8->zo own s<=zo (cl' s) s:=by
  intro s h0 h8
  by_cases he:s=o.th
  ·rw[hcl s h0 h8,if_pos he];exact Int.le_refl _
  ·rw[hown s h0 h8,if_neg he]
   have:=own0M s h0 h8
   have:=clM s h0 h8
   omega
 refine⟨by simp[h.len],fun a ha=>?_,fun a ha=>?_,fun a ha hr=>?_,fun u h0 h8 a ha=>?_,fun k a ha=>?_,fun u t h0 h8 t0 t8=>?_,fun k t t0 t8=>?_,fun u h0 h8=>?_,fun k=>?_⟩
 ·rcases split a om with ha | rfl
  ·rw[oL a ha];exact h.th a ha
  ·rw[oN];exact ht
 ·rcases split a om with ha | rfl
  ·rw[tL a ha];exact h.pos a ha
  ·rw[tN,ownT]
   have:=(h.cb o.th ht.1 ht.2).2 o.th
   have:=clown o.th
   omega
 ·rcases split a om with ha | rfl
  ·rw[oL a ha]at hr ⊢;exact h.obj a ha hr
  ·rw[oN]at hr ⊢
   obtain⟨h1,h2⟩:=hx (.inl hr)
   have:objs.idxOf x<objs.length:=List.idxOf_lt_length_of_mem h2
   unfold zL at h1
   omega
 ·-- threads
  rw[hcl u h0 h8]
  by_cases hu:u=o.th
  ·rw[if_pos hu]
   rcases split a om with ha | rfl
   ·rw[tL a ha,oL a ha,K1 a ha,knL a _ ha]
    constructor
    ·exact fun hh=>.inr ⟨hh,by simp[Jw,hu]⟩
    ·rintro(hh | ⟨hh,_⟩)
     ·refine(K0 a ha).1 ?_
      have:=(h.T u h0 h8 a ha).2 hh
      rw[hu]at this
      have:=clown (vG L a).th
      omega
     ·exact hh
   ·rw[tN,oN,knN]
    simp[Jw,hu]
  ·rw[if_neg hu]
   by_cases hfk:o.kind=5/\u=o.other
   ·rw[if_pos hfk]
    have heo:Jw u o=true:=by simp[Jw,hfk.1,hfk.2]
    rw[q2F (h.cb u h0 h8).1 hL8]
    rcases split a om with ha | rfl
    ·rw[tL a ha,oL a ha,K1 a ha,h.T u h0 h8 a ha,knL a _ ha]
     simp[heo]
    ·rw[tN,oN,knN]
     simp[heo]
   ·rw[if_neg hfk]
    have heo:Jw u o=false:=by
     unfold Jw
     rw[Bool.or_eq_false_iff,Bool.and_eq_false_iff]
     refine⟨by simpa using fun h=>hu h.symm,?_⟩
     by_cases h5:o.kind=5
     ·right;simpa using fun h=>hfk ⟨h5,h.symm⟩
     ·left;simpa using h5
    rcases split a om with ha | rfl
    ·rw[tL a ha,oL a ha,h.T u h0 h8 a ha,knL a _ ha]
     simp[heo]
    ·rw[tN,oN,knN,heo]
     simp only[Bool.false_eq_true,iff_false]
     exact lowT u h0 h8
 ·-- objects
  rw[hob k]
  by_cases hk:jG o=true/\k=x
  ·rw[if_pos hk]
   have hP:(jG o&&o.obj==(zL objs k:Nat))=true:=by rw[hk.1,hk.2,(hx (.inl hk.1)).1];simp
   rw[q2F (h.co k).1 hL8]
   rcases split a om with ha | rfl
   ·rw[tL a ha,oL a ha,K1 a ha,h.O k a ha,knL a _ ha]
    simp only[hP,and_true]
   ·rw[tN,oN,knN]
    simp[hP]
  ·rw[if_neg hk]
   have hP:(jG o&&o.obj==(zL objs k:Nat))=false:=by
    rw[Bool.and_eq_false_iff]
    by_cases hr:jG o=true
    ·right
     obtain⟨h1,h2⟩:=hx (.inl hr)
     rw[beq_eq_false_iff_ne,h1]
     intro he
     exact hk ⟨hr,qd7 h2 om⟩
    ·left;simpa using hr
   rcases split a om with ha | rfl
   ·rw[tL a ha,oL a ha,h.O k a ha,knL a _ ha]
    simp only[hP,Bool.false_eq_true,and_false,or_false]
   ·rw[tN,oN,knN]
    simp only[hP,Bool.false_eq_true,iff_false]
    exact lowO k
 ·have h1:=clM t t0 t8
  have h2:=ownM t t0 t8
  rw[hcl u h0 h8]
  split
  ·exact h2
  ·split
   ·have h3:=h.mT u t h0 h8 t0 t8
    rw[Qj (h.cb u h0 h8).1 hL8]
    split<;>omega
   ·have h3:=h.mT u t h0 h8 t0 t8
    omega
 ·have h1:=clM t t0 t8
  have h2:=ownM t t0 t8
  have h3:=h.mO k t t0 t8
  rw[hob k]
  split
  ·rw[Qj (h.co k).1 hL8]
   split<;>omega
  ·omega
 ·rw[hcl u h0 h8]
  have h1:=(h.cb u h0 h8).mono (by omega:B<=B+1)
  split
  ·exact hownB
  ·split
   ·exact h1.join hownB
   ·exact h1
 ·rw[hob k]
  have h1:=(h.co k).mono (by omega:B<=B+1)
  split
  ·exact h1.join hownB
  ·exact h1
theorem VI.come{cl:Int->vj}{ob:Ob->vj}{L:List vH}{tk:List Int}{objs:List Ob}{B:Int}(h:VI cl ob L tk objs B){y:Ob}(hy:y ∉ objs):VI cl ob L tk (objs++[y]) B:=by
 refine⟨h.len,h.th,h.pos,fun a ha hr=>?_,h.T,fun k a ha=>?_,h.mT,h.mO,h.cb,h.co⟩
 ·have h1:=h.obj a ha hr
  refine⟨h1.1,?_⟩
  have h2:=h1.2
  have h3:(objs++[y]).length=objs.length+1:=by simp
  rw[h3]
  omega
 ·rw[h.O k a ha]
  have key:∀ b,b<L.length->jG (vG L b)=true->((vG L b).obj==(zL objs k:Nat))=((vG L b).obj==(zL (objs++[y]) k:Nat)):=by
   intro b hb hr
   obtain⟨h1,h2⟩:=h.obj b hb hr
   unfold zL
   rw[List.idxOf_append]
   by_cases hk:k∈objs
   ·rw[if_pos hk]
   ·rw[if_neg hk,List.idxOf_eq_length hk]
    have e1:((vG L b).obj==(objs.length:Int))=false:=by rw[beq_eq_false_iff_ne];omega
    have e2:((vG L b).obj==((List.idxOf k [y]+objs.length:Nat):Int))=false:=by rw[beq_eq_false_iff_ne];omega
    rw[e1,e2]
  constructor
  ·rintro⟨b,hb,h1,h2⟩
   rw[Bool.and_eq_true]at h2
   exact⟨b,hb,h1,by rw[Bool.and_eq_true,<-key b hb h2.1];exact h2⟩
  ·rintro⟨b,hb,h1,h2⟩
   rw[Bool.and_eq_true]at h2
   exact⟨b,hb,h1,by rw[Bool.and_eq_true,key b hb h2.1];exact h2⟩
theorem VI.congr{cl cl':Int->vj}{ob ob':Ob->vj}{L:List vH}{tk:List Int}{objs:List Ob}{B B':Int}(h:VI cl ob L tk objs B)(h1:∀ u,0<=u->u<8->cl' u=cl u)(h2:∀ k,ob' k=ob k)(hB:B<=B'):VI cl' ob' L tk objs B':=by
 have e:ob'=ob:=funext h2
 subst e
 refine⟨h.len,h.th,h.pos,h.obj,fun u h0 h8 a ha=>by rw[h1 u h0 h8];exact h.T u h0 h8 a ha,h.O,fun u t h0 h8 t0 t8=>by rw[h1 u h0 h8,h1 t t0 t8];exact h.mT u t h0 h8 t0 t8,fun k t t0 t8=>by rw[h1 t t0 t8];exact h.mO k t t0 t8,fun u h0 h8=>by rw[h1 u h0 h8];exact(h.cb u h0 h8).mono hB,fun k=>(h.co k).mono hB⟩
def jJ:Nat->List Ob->List (Ob × Int)
 | _,[]=>[]
 | k,x::t=>(x,(k:Int))::jJ (k+1) t
theorem q6h:∀ (k:Nat) (l:List Ob),(jJ k l).length=l.length
 | _,[]=>rfl
 | k,x::t=>by simp[jJ,q6h (k+1) t]
theorem q4g:∀ (k:Nat) (l:List Ob) (x:Ob),jJ k (l++[x])=jJ k l++[(x,((k+l.length:Nat):Int))]
 | k,[],x=>by simp[jJ]
 | k,y::t,x=>by
  simp only[List.cons_append,jJ,q4g (k+1) t x,List.length_cons]
  rw[show k+1+t.length=k+(t.length+1)by omega]
theorem q3A:∀ (k:Nat) (l:List Ob),(jJ k l).map (·.1)=l
 | _,[]=>rfl
 | k,x::t=>by simp[jJ,q3A (k+1) t]
theorem qlP{K V:Type} [DecidableEq K] (p:K × V) (m:List (K × V)) (k:K):qr (p::m) k=if p.1=k then some p.2 else qr m k:=by
 unfold qr
 rw[List.find?_cons]
 by_cases hk:p.1=k
 ·simp[hk]
 ·have:(p.1==k)=false:=by simpa using hk
  rw[this,if_neg hk]
theorem qnV(y x:Ob)(t:List Ob):zL (y::t) x=if y=x then 0 else zL t x+1:=by
 unfold zL
 rw[List.idxOf_cons]
 by_cases h:y=x
 ·simp[h]
 ·have:(y==x)=false:=by simpa using h
  rw[this,if_neg h];rfl
theorem q5s:∀ (k:Nat) (l:List Ob) (x:Ob),qr (jJ k l) x=if x∈l then some ((k+zL l x:Nat):Int)else none
 | k,[],x=>by simp[jJ,qr]
 | k,y::t,x=>by
  have ih:=q5s (k+1) t x
  unfold jJ
  rw[qlP,ih,qnV]
  by_cases h:y=x
  ·subst h;simp
  ·have h2:¬ x=y:=fun h'=>h h'.symm
   rw[if_neg h,if_neg h]
   by_cases hx:x∈t
   ·simp[hx];omega
   ·simp[hx,h2]
theorem qwS{K V:Type} [DecidableEq K] (a b:List (K × V)) (k:K):qr (a++b) k=(qr a k).or (qr b k):=by
 unfold qr
 rw[List.find?_append]
 cases a.find? fun p=>p.1==k<;>simp
theorem q3G{K V:Type} [DecidableEq K]:∀ (u m:List (K × V)),((m++u).map (·.1)).Nodup->zf m u=m++u
 | [],m,_=>by simp[zf]
 | p::r,m,h=>by
  have hn:qr m p.1=none:=by
   rw[jQ]
   intro q hq he
   rw[List.map_append,List.nodup_append]at h
   exact h.2.2 q.1 (List.mem_map.2 ⟨q,hq,rfl⟩) p.1 (by simp) he
  have e:put m p.1 p.2=m++[p]:=by unfold put;rw[hn]
  rw[zf,e,q3G r (m++[p]) (by simpa using h)]
  simp
theorem Zo{l:List Ob}{x:Ob}:zL l x<l.length↔x∈l:=List.idxOf_lt_length_iff
theorem qjp(l:List Ob)(x:Ob):zL l x<=l.length:=List.idxOf_le_length
theorem qcj(r:RR)(x:Ob):x∈(come r x).objs:=by
 unfold come
 split
 ·simp
 ·rename_i h
  have:=qjp r.objs x
  exact Zo.1 om
theorem q6B(r:RR)(x:Ob):zL (come r x).objs x=zL r.objs x:=by
 unfold come
 split
 ·rename_i h
  have hn:x ∉ r.objs:=fun hx=>by have:=Zo.2 hx;omega
  show(r.objs++[x]).idxOf x=_
  rw[List.idxOf_append,if_neg hn,h]
  simp
 ·rfl
theorem qaj{T:Th}{p:Pl}{r:RR}{x:Ob}(hn:T.names++p.names=jJ 0 r.objs)(hl:r.objs.length<=65536) :
  (number T p x).1=(zL r.objs x:Nat)/\T.names++(number T p x).2.names=jJ 0 (come r x).objs/\(number T p x).2={ p with names:=(number T p x).2.names,bad:=p.bad||decide (zL r.objs x>=65536) }:=by
 have hlen:T.names.length+p.names.length=r.objs.length:=by
  have:=congrArg List.length hn
  simpa [q6h]using this
 have hlook:∀ k,(qr T.names k).or (qr p.names k)=if k∈r.objs then some ((zL r.objs k:Nat):Int)else none:=fun k=>by
  rw[<-qwS,hn,q5s];simp
 by_cases hx:x∈r.objs
 ·have h1:=hlook x
  rw[if_pos hx]at h1
  have h2:=Zo.2 hx
  have hc:come r x=r:=by unfold come;rw[if_neg om]
  have hb:decide (zL r.objs x>=65536)=false:=by simp;omega
  rw[hc,hb,Bool.or_false]
  unfold number
  cases h3:qr T.names x with
  | some n=>
   rw[h3]at h1
   simp at h1
   exact⟨h1,hn,rfl⟩
  | none=>
   rw[h3,Option.none_or]at h1
   rw[h1]
   exact⟨rfl,hn,rfl⟩
 ·have h1:=hlook x
  rw[if_neg hx]at h1
  have h3:qr T.names x=none:=by cases h:qr T.names x<;>simp[h]at h1 ⊢
  have h4:qr p.names x=none:=by rw[h3,Option.none_or]at h1;exact h1
  have h5:zL r.objs x=r.objs.length:=by
   have:=qjp r.objs x
   have:=mt Zo.1 hx
   omega
  have hc:come r x={ r with objs:=r.objs++[x] }:=by unfold come;rw[if_pos h5]
  have hw:yk ((T.names.length:Int)+(p.names.length:Int))=(r.objs.length:Int):=by rw[zV om om];omega
  have e:number T p x=((r.objs.length:Int),{ p with names:=put p.names x (r.objs.length:Int),bad:=p.bad||decide ((r.objs.length:Int)>=65536) }):=by
   unfold number
   rw[h3,h4]
   dsimp only
   rw[hw]
  rw[e,hc,h5]
  refine⟨rfl,?_,?_⟩
  ·show T.names++put p.names x (r.objs.length:Int)=jJ 0 (r.objs++[x])
   have e2:put p.names x (r.objs.length:Int)=p.names++[(x,(r.objs.length:Int))]:=by unfold put;rw[h4]
   rw[e2,q4g,<-List.append_assoc,hn]
   simp
  ·have:decide ((r.objs.length:Int)>=65536)=decide (r.objs.length>=65536):=by
    by_cases h:r.objs.length>=65536
    ·rw[decide_eq_true h,decide_eq_true om]
    ·rw[decide_eq_false h,decide_eq_false om]
   rw[this]
def clP(T:Th)(e:Ev)(p:Pl)(u:Int):vj:=if u=e.th then p.own else getC T.clocks u
structure PR (T:Th) (e:Ev) (i:Int) (r0:RR) (p:Pl) (r:RR) (tk:List Int) (B:Int):Prop where
 L:r.L=r0.L++p.orders
 of:r.of=r0.of++List.replicate p.orders.length i
 begun:r.begun=T.begun
 ended:r.ended=T.ended
 names:T.names++p.names=jJ 0 r.objs
 nd:r.objs.Nodup
 few:r.objs.length<=65536
 bad:p.bad=false
 tkp:p.tk=if p.orders=[]then 0 else tk.getD r0.L.length 0
 vi:VI (clP T e p) (qL T p) r.L tk r.objs B
 ndo:(p.objs.map (·.1)).Nodup
 ths:∀ o∈p.orders,o.th=e.th
theorem qBR{r:RR}(h:r.objs.Nodup)(x:Ob):(come r x).objs.Nodup:=by
 unfold come
 split
 ·rename_i hl
  have hn:x ∉ r.objs:=fun hx=>by have:=Zo.2 hx;omega
  show(r.objs++[x]).Nodup
  rw[List.nodup_append]
  exact⟨h,by simp,fun a ha b hb=>by simp at hb;subst hb;exact fun he=>hn (he▸ha)⟩
 ·exact h
theorem qCT{cl:Int->vj}{ob:Ob->vj}{L:List vH}{tk:List Int}{r:RR}{B:Int}(h:VI cl ob L tk r.objs B)(x:Ob):VI cl ob L tk (come r x).objs B:=by
 unfold come
 split
 ·rename_i hl
  exact VI.come h fun hx=>by have:=Zo.2 hx;omega
 ·exact h
def zK(T:Th)(e:Ev)(k:Int)(p:Pl)(x:Ob):Pl:=
 let q:=(number T p x).2
 let q:=if k=3\/k=4 then acquire T q x else q
 let q:=tick e q ⟨k,0,0,(number T p x).1⟩
 if k=2\/k=4 then release T q x else q
theorem q5h{T:Th}{e:Ev}{i:Int}{r0 r:RR}{p:Pl}{tk:List Int}{B:Int}{k:Int}{x:Ob}(h:PR T e i r0 p r tk B)(ht:0<=e.th/\e.th<8)(hk:k=2\/k=3\/k=4)(hbe:zb T.begun e.th=true)(hen:zb T.ended e.th=false)
  (hB:B<4611686018427387904) (hB0:0<=B) (hlen:tk.length=r.L.length) :
  (ya r k e x i=none/\(zK T e k p x).bad=true)\/∃ r',ya r k e x i=some r'/\∃ v,PR T e i r0 (zK T e k p x) r' (tk++[v]) (B+1):=by
 obtain⟨n1,n2,n3⟩:=qaj (x:=x) h.names h.few
 generalize hq:(number T p x).2=q at n2 n3
 have qo:q.own=p.own:=by rw[n3]
 have qob:q.objs=p.objs:=by rw[n3]
 have qor:q.orders=p.orders:=by rw[n3]
 have qtk:q.tk=p.tk:=by rw[n3]
 have qbad:q.bad=(p.bad||decide (zL r.objs x>=65536)):=by rw[n3]
 have qfork:q.fork=p.fork/\q.ends=p.ends:=by rw[n3];exact⟨rfl,rfl⟩
 have tbad:(zK T e k p x).bad=q.bad:=by
  unfold zK
  rw[hq]
  simp only
  split<;>split<;>rfl
 by_cases hge:zL r.objs x>=65536
 ·left
  refine⟨by unfold ya;rw[if_pos hge],?_⟩
  rw[tbad,qbad,decide_eq_true hge,Bool.or_true]
 ·right
  have qb:q.bad=false:=by rw[qbad,h.bad,decide_eq_false hge];rfl
  have hbar:yg (come r x) ⟨k,e.th,0,(zL r.objs x:Nat)⟩=false:=by
   have hc:(come r x).begun=r.begun/\(come r x).ended=r.ended:=by unfold come;split<;>exact⟨rfl,rfl⟩
   have k5:(k==5)=false:=by rw[beq_eq_false_iff_ne];omega
   have k6:(k==6)=false:=by rw[beq_eq_false_iff_ne];omega
   unfold yg
   rw[hc.1,hc.2,h.begun,h.ended]
   simp only
   rw[hbe,hen,k5,k6]
   rfl
  have hr':ya r k e x i=some { (come r x)with L:=(come r x).L++[⟨k,e.th,0,(zL r.objs x:Nat)⟩],of:=(come r x).of++[i] }:=by
   unfold ya
   rw[if_neg hge]
   unfold vE
   rw[hbar]
   have k5:¬ k=5:=by omega
   have k6:¬ k=6:=by omega
   simp only[Bool.false_eq_true,if_false,if_neg k5,if_neg k6]
  refine⟨_,hr',?_⟩
  have hcL:(come r x).L=r.L/\(come r x).of=r.of/\(come r x).begun=r.begun/\(come r x).ended=r.ended:=by unfold come;split<;>exact⟨rfl,rfl,rfl,rfl⟩
  have ob0:qL T q x=qL T p x:=by unfold qL;rw[qob]
  let own0:vj:=if k=3\/k=4 then zk p.own (qL T p x)else p.own
  have hp8:p.own.length=8:=by have:=(h.vi.cb e.th ht.1 ht.2).1;unfold clP at this;rw[if_pos rfl]at this;exact this
  have hpB:CB p.own B:=by have:=h.vi.cb e.th ht.1 ht.2;unfold clP at this;rw[if_pos rfl]at this;exact this
  have h0B:CB own0 B:=by
   show CB (if k=3\/k=4 then zk p.own (qL T p x)else p.own) B
   split
   ·exact hpB.join (h.vi.co x)
   ·exact hpB
  let q1:Pl:=if k=3\/k=4 then acquire T q x else q
  have q1own:q1.own=own0:=by
   show(if k=3\/k=4 then acquire T q x else q).own=if k=3\/k=4 then zk p.own (qL T p x)else p.own
   split
   ·show zk q.own (qL T q x)=_
    rw[qo,ob0]
   ·exact qo
  have q1r:q1.objs=p.objs/\q1.orders=p.orders/\q1.tk=p.tk/\q1.names=q.names/\q1.bad=q.bad:=by
   show(if k=3\/k=4 then acquire T q x else q).objs=_/\(if k=3\/k=4 then acquire T q x else q).orders=_/\(if k=3\/k=4 then acquire T q x else q).tk=_/\(if k=3\/k=4 then acquire T q x else q).names=_/\(if k=3\/k=4 then acquire T q x else q).bad=_
   split<;>exact⟨qob,qor,qtk,rfl,rfl⟩
  let q2:Pl:=tick e q1 ⟨k,0,0,(zL r.objs x:Nat)⟩
  have q1B:CB q1.own B:=by rw[q1own];exact h0B
  have q2own:=ZZ (e:=e) (p:=q1) (o:=⟨k,0,0,(zL r.objs x:Nat)⟩) q1B ht hB
  have q2B:=qiX (e:=e) (p:=q1) (o:=⟨k,0,0,(zL r.objs x:Nat)⟩) q1B ht hB
  have hT:zK T e k p x=if k=2\/k=4 then release T q2 x else q2:=by
   unfold zK
   rw[hq,n1]
  have f1:(zK T e k p x).own=q2.own/\(zK T e k p x).orders=q2.orders/\(zK T e k p x).tk=q2.tk/\(zK T e k p x).names=q2.names:=by
   rw[hT]
   split<;>exact⟨rfl,rfl,rfl,rfl⟩
  have f2:∀ c,qL T (zK T e k p x) c=if(k=2\/k=4)/\c=x then zk (qL T p c) q2.own else qL T p c:=by
   intro c
   have hq2:∀ c,qL T q2 c=qL T p c:=fun c=>by
    show qL T (tick e q1 _) c=_
    unfold qL
    show(match qr q1.objs c with | some c=>c | none=>_)=_
    rw[q1r.1]
    rfl
   rw[hT]
   by_cases hrel:k=2\/k=4
   ·rw[if_pos hrel,ZE,hq2 x]
    by_cases hc:c=x
    ·rw[if_pos hc,if_pos ⟨hrel,hc⟩,hc]
    ·rw[if_neg hc,if_neg (fun hh=>hc hh.2),hq2 c]
   ·rw[if_neg hrel,if_neg (fun hh=>hrel hh.1),hq2 c]
  have q2or:q2.orders=p.orders++[⟨k,e.th,0,(zL r.objs x:Nat)⟩]:=by
   show q1.orders++[_]=_
   rw[q1r.2.1]
  have clth:clP T e p e.th=p.own:=by unfold clP;rw[if_pos rfl]
  have q2th:zo q2.own e.th=zo own0 e.th+1:=by
   have:=q2own e.th
   rw[if_pos rfl,q1own]at this
   exact this
  refine⟨zo q2.own e.th,?_,?_,hcL.2.2.1.trans h.begun,hcL.2.2.2.trans h.ended,?_,qBR h.nd x,?_,?_,?_,?_,?_,?_⟩
  ·show(come r x).L++_=_
   rw[hcL.1,h.L,f1.2.1,q2or,List.append_assoc]
  ·show(come r x).of++_=_
   rw[hcL.2.1,h.of,f1.2.1,q2or,List.length_append,List.length_singleton,List.replicate_succ',List.append_assoc]
  ·show T.names++(zK T e k p x).names=jJ 0 (come r x).objs
   rw[f1.2.2.2,<-n2]
   show T.names++q1.names=_
   rw[q1r.2.2.2.1]
  ·show(come r x).objs.length<=65536
   unfold come
   split
   ·rename_i hl;simp;omega
   ·exact h.few
  ·rw[tbad];exact qb
  ·rw[f1.2.2.1,f1.2.1,q2or]
   have h1:¬ (p.orders++[⟨k,e.th,0,(zL r.objs x:Nat)⟩]:List vH)=[]:=by simp
   rw[if_neg h1]
   show(if q1.tk=0 then zo q2.own e.th else q1.tk)=_
   rw[q1r.2.2.1,h.tkp]
   by_cases ho:p.orders=[]
   ·rw[if_pos ho,if_pos rfl]
    have hl0:r.L.length=r0.L.length:=by rw[h.L,ho];simp
    rw[<-hl0,<-hlen]
    simp[List.getD]
   ·have hpos:=List.length_pos_iff.2 ho
    have hl0:r0.L.length<r.L.length:=by rw[h.L];simp;omega
    have h1:=h.vi.pos r0.L.length hl0
    rw[if_neg ho,if_neg om]
    have h3:r0.L.length<tk.length:=by omega
    simp[List.getD,List.getElem?_append_left h3]
  ·show VI _ _ ((come r x).L++[_]) _ (come r x).objs _
   rw[hcL.1]
   have hvi:=qCT h.vi x
   refine hvi.op (o:=⟨k,e.th,0,(zL r.objs x:Nat)⟩) (own:=q2.own) (own0:=own0) (x:=x) ht (fun s v=>?_) (fun s s0 s8=>?_) q2B (fun h6=>by simp at h6;omega) (fun h5=>by simp at h5;omega) (fun _=>⟨by rw[q6B],qcj r x⟩) (fun u u0 u8=>?_) (fun c=>?_)
   ·show v<=zo (if k=3\/k=4 then zk p.own (qL T p x)else p.own) s↔_
    rw[clth]
    have hacq:q5I ⟨k,e.th,0,(zL r.objs x:Nat)⟩=true↔k=3\/k=4:=by simp[q5I]
    rw[hacq]
    have h6:¬ k=6:=by omega
    by_cases ha:k=3\/k=4
    ·rw[if_pos ha,q2F hp8 (h.vi.co x).1]
     constructor
     ·rintro(h | h)
      ·exact .inl h
      ·exact .inr (.inl ⟨ha,h⟩)
     ·rintro(h | ⟨_,h⟩ | ⟨h,_⟩)
      ·exact .inl h
      ·exact .inr h
      ·exact absurd h h6
    ·rw[if_neg ha]
     constructor
     ·exact fun h=>.inl h
     ·rintro(h | ⟨h,_⟩ | ⟨h,_⟩)
      ·exact h
      ·exact absurd h ha
      ·exact absurd h h6
   ·rw[q2own s,q1own]
    by_cases hs:s=e.th
    ·subst hs;rw[if_pos rfl,if_pos rfl]
    ·have h1:¬ s.toNat=e.th.toNat:=by omega
     rw[if_neg h1]
     show _=if s=e.th then _ else _
     rw[if_neg hs]
   ·show clP T e (zK T e k p x) u=if u=e.th then q2.own else if k=5/\u=0 then _ else _
    have h5:¬ (k=5/\u=0):=by omega
    rw[if_neg h5]
    unfold clP
    by_cases hu:u=e.th
    ·rw[if_pos hu,if_pos hu];exact f1.1
    ·rw[if_neg hu,if_neg hu,if_neg hu]
   ·rw[f2 c]
    have hrel:jG ⟨k,e.th,0,(zL r.objs x:Nat)⟩=true↔k=2\/k=4:=by simp[jG]
    simp only[hrel]
  ·rw[hT]
   have h1:q2.objs=p.objs:=q1r.1
   split
   ·show((put q2.objs x _).map (·.1)).Nodup
    rw[h1]
    exact jW h.ndo _ _
   ·rw[h1];exact h.ndo
  ·rw[f1.2.1,q2or]
   intro o ho
   rcases List.mem_append.1 ho with ho | ho
   ·exact h.ths o ho
   ·simp at ho;rw[ho]
def wl:List Int->Ob->List Ob
 | [],_=>[]
 | a::r,last=>if((true,jE (a.tdiv 4)):Ob)=last then wl r last else(true,jE (a.tdiv 4))::wl r (true,jE (a.tdiv 4))
theorem q9C:∀ (bs:List Int) (l0:List Ob),bs.foldl (fun l a=>if l.getLast?=some ((true,jE (a.tdiv 4)):Ob)then l else l++[(true,jE (a.tdiv 4))]) l0=l0++wl bs (l0.getLast?.getD (false,0))
 | [],l0=>by simp[wl]
 | a::r,l0=>by
  rw[List.foldl_cons]
  by_cases hx:l0.getLast?=some ((true,jE (a.tdiv 4)):Ob)
  ·rw[if_pos hx,q9C r l0,wl,hx]
   simp
  ·rw[if_neg hx,q9C r (l0++[(true,jE (a.tdiv 4))]),wl]
   have hne:¬ ((true,jE (a.tdiv 4)):Ob)=l0.getLast?.getD (false,0):=by
    cases hl:l0.getLast? with
    | none=>simp
    | some y=>
     intro he
     rw[hl]at hx
     exact hx (by rw[he];rfl)
   rw[if_neg hne,List.getLast?_append]
   simp
theorem q4x(e:Ev):vJ e=wl (bytes e.a e.n) (false,0):=by
 unfold vJ bytes
 have h:=q9C ((List.range e.n.toNat).map fun i:Nat=>jE (e.a+jE (i:Int))) []
 rw[List.foldl_map,List.nil_append]at h
 exact h
theorem Yo(T:Th)(e:Ev):∀ (bs:List Int) (last:Ob) (p:Pl),atomicL T e bs last p=(wl bs last).foldl (fun p x=>zK T e 4 p x) p
 | [],_,_=>rfl
 | a::r,last,p=>by
  unfold atomicL wl
  dsimp only
  split
  ·exact Yo T e r last p
  ·rw[List.foldl_cons,Yo T e r _ _];rfl
theorem qev{T:Th}{p:Pl}{x:Ob}(h:p.bad=true):(number T p x).2.bad=true:=by
 unfold number
 split
 ·exact h
 ·split
  ·exact h
  ·simp[h]
theorem qhl{T:Th}{e:Ev}{k:Int}{p:Pl}{x:Ob}(h:p.bad=true):(zK T e k p x).bad=true:=by
 have:=qev (T:=T) (x:=x) h
 unfold zK
 simp only
 split<;>split<;>exact this
theorem qby{T:Th}{e:Ev}{k:Int}:∀ (ws:List Ob) (p:Pl),p.bad=true->(ws.foldl (fun p x=>zK T e k p x) p).bad=true
 | [],_,h=>h
 | x::t,p,h=>by
  rw[List.foldl_cons]
  exact qby t _ (qhl h)
theorem VU(T:Th)(e:Ev)(k:Int)(p:Pl)(x:Ob):(zK T e k p x).fork=p.fork/\(zK T e k p x).ends=p.ends:=by
 have:=je T p x
 unfold zK
 simp only
 split<;>split<;>exact⟨this.1,this.2⟩
theorem q1W(T:Th)(e:Ev)(k:Int):∀ (ws:List Ob) (p:Pl),(ws.foldl (fun p x=>zK T e k p x) p).fork=p.fork/\(ws.foldl (fun p x=>zK T e k p x) p).ends=p.ends
 | [],_=>⟨rfl,rfl⟩
 | x::t,p=>by
  rw[List.foldl_cons]
  have h1:=q1W T e k t (zK T e k p x)
  have h2:=VU T e k p x
  exact⟨h1.1.trans h2.1,h1.2.trans h2.2⟩
theorem q14{T:Th}{e:Ev}{i:Int}{r0:RR}(ht:0<=e.th/\e.th<8)(hbe:zb T.begun e.th=true)(hen:zb T.ended e.th=false):∀ (ws:List Ob) (r:RR) (p:Pl) (tk:List Int) (B:Int),PR T e i r0 p r tk B->0<=B->B+ws.length<4611686018427387904->
  (zF e i ws r=none/\(ws.foldl (fun p x=>zK T e 4 p x) p).bad=true)\/∃ r',zF e i ws r=some r'/\∃ ext,PR T e i r0 (ws.foldl (fun p x=>zK T e 4 p x) p) r' (tk++ext) (B+ws.length)
 | [],r,p,tk,B,h,h0,hB=>.inr ⟨r,rfl,[],by simpa using h⟩
 | x::t,r,p,tk,B,h,h0,hB=>by
  simp only[List.length_cons]at hB
  rw[List.foldl_cons]
  rcases q5h (x:=x) h ht (.inr (.inr rfl)) hbe hen om h0 h.vi.len with⟨h1,h2⟩ | ⟨r',h1,v,h2⟩
  ·refine .inl ⟨?_,qby t _ h2⟩
   unfold zF
   rw[h1]
  ·rcases q14 ht hbe hen t r' _ _ (B+1) h2 om om with⟨h3,h4⟩ | ⟨r2,h3,ext,h4⟩
   ·refine .inl ⟨?_,h4⟩
    unfold zF
    rw[h1]
    exact h3
   ·refine .inr ⟨r2,?_,v::ext,?_⟩
    ·unfold zF
     rw[h1]
     exact h3
    ·have e1:tk++v::ext=(tk++[v])++ext:=by simp
     have e2:B+((x::t).length:Nat)=B+1+(t.length:Nat):=by simp only[List.length_cons];omega
     rw[e1,e2]
     exact h4
structure SR (T:Th) (r:RR) (tk:List Int) (B:Int):Prop where
 begun:r.begun=T.begun
 ended:r.ended=T.ended
 names:T.names=jJ 0 r.objs
 nd:r.objs.Nodup
 few:r.objs.length<=65536
 vi:VI (getC T.clocks) (fun k=>(qr T.objs k).getD qW) r.L tk r.objs B
 cl8:T.clocks.length=8
 bl:T.begun.length=8
 el:T.ended.length=8
 pos:0<=B
theorem SR.pl{T:Th}{r:RR}{tk:List Int}{B:Int}(h:SR T r tk B)(e:Ev)(i:Int):PR T e i r (yL T e) r tk B:=by
 refine⟨by simp[yL],by simp[yL],h.begun,h.ended,by simpa [yL]using h.names,h.nd,h.few,rfl,by simp[yL],h.vi.congr (fun u _ _=>?_) (fun k=>rfl) (Int.le_refl B),by simp[yL],by simp[yL]⟩
 unfold clP
 split
 ·rename_i hu;rw[hu];rfl
 ·rfl
theorem QN(T:Th)(e:Ev)(p:Pl):(qG T e p).begun=(if p.fork>=0 then T.begun.set p.fork.toNat true else T.begun)/\(qG T e p).ended=(if p.ends>=0 then T.ended.set p.ends.toNat true else T.ended)/\
  (qG T e p).names=zf T.names p.names/\(qG T e p).objs=zf T.objs p.objs:=by
 unfold qG
 simp only
 split<;>split<;>split<;>exact⟨rfl,rfl,rfl,rfl⟩
structure EvR (T:Th) (e:Ev) (i:Int) (r0:RR) (tk0:List Int) (p:Pl) (r:RR) (tk:List Int) (B:Int):Prop where
 sr:SR (qG T e p) r tk B
 L:r.L=r0.L++p.orders
 of:r.of=r0.of++List.replicate p.orders.length i
 ne:p.orders≠[]
 ths:∀ o∈p.orders,o.th=e.th
 tkp:p.tk=tk.getD r0.L.length 0
 ext:∃ ext,tk=tk0++ext
 own:∀ a,a<r.L.length->(tk.getD a 0<=zo p.own (vG r.L a).th↔Kn r.L a (Jw e.th))
 th:0<=e.th/\e.th<8
theorem PR.finish{T:Th}{e:Ev}{i:Int}{r0 r:RR}{p:Pl}{tk0 tk:List Int}{B B':Int}(h:PR T e i r0 p r tk B)(h0:SR T r0 tk0 B')(ht:0<=e.th/\e.th<8)(hf:p.fork=-1)(he:p.ends=-1)(hne:p.orders≠[])(hB:B<=B'+16)(hext:∃ ext,tk=tk0++ext) :
  EvR T e i r0 tk0 p r tk (B'+16):=by
 obtain⟨f1,f2,f3,f4⟩:=QN T e p
 rw[hf,if_neg om]at f1
 rw[he,if_neg om]at f2
 have hcl:∀ u,0<=u->u<8->getC (qG T e p).clocks u=clP T e p u:=fun u u0 u8=>by
  rw[zz,if_neg om,zP (by rw[h0.cl8];omega)]
  unfold clP
  by_cases hu:u=e.th
  ·rw[if_pos hu,if_pos (by rw[hu])]
  ·rw[if_neg hu,if_neg om]
 have hvi:VI (getC (qG T e p).clocks) (fun k=>(qr (qG T e p).objs k).getD qW) r.L tk r.objs (B'+16):=h.vi.congr hcl (fun k=>q0X h.ndo k) hB
 refine⟨⟨h.begun.trans f1.symm,h.ended.trans f2.symm,?_,h.nd,h.few,hvi,?_,by rw[f1];exact h0.bl,by rw[f2];exact h0.el,by have:=h0.pos;omega⟩,h.L,h.of,hne,h.ths,?_,hext,fun a ha=>?_,ht⟩
 ·rw[f3,q3G,h.names]
  rw[h.names,q3A]
  exact h.nd
 ·rw[zz,if_neg om,List.length_set];exact h0.cl8
 ·rw[h.tkp,if_neg hne]
 ·have:=h.vi.T e.th ht.1 ht.2 a ha
  unfold clP at this
  rw[if_pos rfl]at this
  exact this
theorem qdh{T:Th}{e:Ev}{i:Int}{r0:RR}{tk:List Int}{B:Int}(h:SR T r0 tk B)(hB:B<4611686018427387888)(ht:0<=e.th/\e.th<8){o:vH}{p:Pl}{own0:vj}(ho:o.th=e.th)(hk:o.kind=1\/o.kind=5\/o.kind=6)
  (h0B:CB own0 B) (hown0:∀ s v,v<=zo own0 s↔v<=zo (getC T.clocks e.th) s\/(o.kind=6/\v<=zo (getC T.clocks o.other) s))
  (hj:o.kind=6->0<=o.other/\o.other<8) (hf:o.kind=5->0<=o.other/\o.other<8/\o.other≠o.th)
  (pown:p.own=own0.set e.th.toNat (yk (zo own0 e.th+1))) (por:p.orders=[o]) (pob:p.objs=[]) (pna:p.names=[]) (ptk:p.tk=zo p.own e.th) (pf:p.fork=if o.kind=5 then o.other else -1) (pe:p.ends=if o.kind=6 then o.other else -1) :
  EvR T e i r0 tk p { r0 with L:=r0.L++[o],of:=r0.of++[i],begun:=if o.kind=5 then r0.begun.set o.other.toNat true else r0.begun,ended:=if o.kind=6 then r0.ended.set o.other.toNat true else r0.ended } (tk++[zo p.own e.th]) (B+16):=by
 obtain⟨f1,f2,f3,f4⟩:=QN T e p
 have h8:own0.length=8:=h0B.1
 have ha0:=h0B.2 e.th
 have hown:∀ s,zo p.own s=if s.toNat=e.th.toNat then zo own0 e.th+1 else zo own0 s:=fun s=>by
  rw[pown,qfa (by rw[h8];omega),zV om om]
 have hownB:CB p.own (B+1):=by
  refine⟨by rw[pown,List.length_set];exact h8,fun s=>?_⟩
  rw[hown s]
  have:=h0B.2 s
  split<;>omega
 have hfork:p.fork>=0↔o.kind=5:=by
  rw[pf]
  constructor
  ·intro hh
   by_cases h5:o.kind=5
   ·exact h5
   ·rw[if_neg h5]at hh;omega
  ·intro h5
   rw[if_pos h5]
   exact(hf h5).1
 have hends:p.ends>=0↔o.kind=6:=by
  rw[pe]
  constructor
  ·intro hh
   by_cases h6:o.kind=6
   ·exact h6
   ·rw[if_neg h6]at hh;omega
  ·intro h6
   rw[if_pos h6]
   exact(hj h6).1
 have hi:e.th.toNat<T.clocks.length:=by rw[h.cl8];omega
 have hvi:VI (getC (qG T e p).clocks) (fun k=>(qr (qG T e p).objs k).getD qW) (r0.L++[o]) (tk++[zo p.own o.th]) r0.objs (B+1):=by
  refine h.vi.op (own:=p.own) (own0:=own0) (x:=(false,0)) (by rw[ho];exact ht) (fun s v=>?_) (fun s s0 s8=>?_) hownB hj hf (fun hh=>?_) (fun u u0 u8=>?_) (fun k=>?_)
  ·rw[hown0 s v,ho]
   have:q5I o=false:=by unfold q5I;rw[Bool.or_eq_false_iff,beq_eq_false_iff_ne,beq_eq_false_iff_ne];omega
   rw[this]
   simp
  ·rw[hown s,ho]
   by_cases hs:s=e.th
   ·rw[if_pos hs,if_pos (by rw[hs])]
   ·rw[if_neg hs,if_neg om]
  ·have h1:q5I o=false:=by unfold q5I;rw[Bool.or_eq_false_iff,beq_eq_false_iff_ne,beq_eq_false_iff_ne];omega
   have h2:jG o=false:=by unfold jG;rw[Bool.or_eq_false_iff,beq_eq_false_iff_ne,beq_eq_false_iff_ne];omega
   rw[h1,h2]at hh
   rcases hh with hh | hh<;>cases hh
  ·rw[zz,ho]
   by_cases h5:o.kind=5
   ·obtain⟨g0,g8,gne⟩:=hf h5
    rw[ho]at gne
    have hpf:p.fork=o.other:=by rw[pf,if_pos h5]
    have g1:∀ v,getC (T.clocks.set e.th.toNat p.own) v=if v.toNat=e.th.toNat then p.own else getC T.clocks v:=fun v=>zP hi _ v
    rw[if_pos (hfork.2 h5),hpf,zP (l:=T.clocks.set e.th.toNat p.own) (i:=o.other.toNat) (by rw[List.length_set,h.cl8];omega) _ u,g1 u,g1 o.other]
    have n1:¬ o.other.toNat=e.th.toNat:=by omega
    rw[if_neg n1]
    by_cases hu:u=e.th
    ·subst hu
     have n2:¬ e.th.toNat=o.other.toNat:=by omega
     rw[if_neg n2,if_pos rfl,if_pos rfl]
    ·rw[if_neg hu]
     by_cases hu2:u=o.other
     ·subst hu2
      rw[if_pos rfl,if_pos ⟨h5,rfl⟩]
     ·have n2:¬ u.toNat=o.other.toNat:=by omega
      have n3:¬ u.toNat=e.th.toNat:=by omega
      rw[if_neg n2,if_neg n3,if_neg (fun hh=>hu2 hh.2)]
   ·rw[if_neg (fun hh=>h5 (hfork.1 hh)),zP hi]
    by_cases hu:u=e.th
    ·rw[if_pos hu,if_pos (by rw[hu])]
    ·rw[if_neg hu,if_neg om,if_neg (fun hh=>h5 hh.1)]
  ·have h2:jG o=false:=by unfold jG;rw[Bool.or_eq_false_iff,beq_eq_false_iff_ne,beq_eq_false_iff_ne];omega
   rw[h2,f4,pob]
   simp[zf]
 rw[ho]at hvi
 have hvi2:=hvi.congr (fun _ _ _=>rfl) (fun _=>rfl) (by omega:B+1<=B+16)
 have hb5:(if p.fork>=0 then T.begun.set p.fork.toNat true else T.begun)=if o.kind=5 then T.begun.set o.other.toNat true else T.begun:=by
  by_cases h5:o.kind=5
  ·rw[if_pos (hfork.2 h5),if_pos h5,pf,if_pos h5]
  ·rw[if_neg (fun hh=>h5 (hfork.1 hh)),if_neg h5]
 have hb6:(if p.ends>=0 then T.ended.set p.ends.toNat true else T.ended)=if o.kind=6 then T.ended.set o.other.toNat true else T.ended:=by
  by_cases h6:o.kind=6
  ·rw[if_pos (hends.2 h6),if_pos h6,pe,if_pos h6]
  ·rw[if_neg (fun hh=>h6 (hends.1 hh)),if_neg h6]
 refine⟨⟨?_,?_,?_,h.nd,h.few,hvi2,?_,?_,?_,by have:=h.pos;omega⟩,?_,?_,by rw[por];simp,fun o' ho'=>?_,?_,⟨_,rfl⟩,fun a ha=>?_,ht⟩
 ·rw[f1,hb5];show(if o.kind=5 then _ else _)=_;rw[h.begun]
 ·rw[f2,hb6];show(if o.kind=6 then _ else _)=_;rw[h.ended]
 ·rw[f3,pna];exact h.names
 ·rw[zz];split<;>simp[h.cl8]
 ·rw[f1];split<;>simp[h.bl]
 ·rw[f2];split<;>simp[h.el]
 ·rw[por]
 ·rw[por];rfl
 ·rw[por]at ho';simp at ho';rw[ho'];exact ho
 ·rw[ptk,<-h.vi.len]
  simp[List.getD]
 ·have:=hvi.T e.th ht.1 ht.2 a ha
  have hc:getC (qG T e p).clocks e.th=p.own:=by
   rw[zz]
   by_cases h5:o.kind=5
   ·obtain⟨g0,g8,gne⟩:=hf h5
    rw[ho]at gne
    have hpf:p.fork=o.other:=by rw[pf,if_pos h5]
    have n2:¬ e.th.toNat=o.other.toNat:=by omega
    rw[if_pos (hfork.2 h5),hpf,zP (l:=T.clocks.set e.th.toNat p.own) (i:=o.other.toNat) (by rw[List.length_set,h.cl8];omega) _ e.th,if_neg n2,zP hi,if_pos rfl]
   ·rw[if_neg (fun hh=>h5 (hfork.1 hh)),zP hi,if_pos rfl]
  rw[hc]at this
  exact this
theorem q0J{r:RR}{o:vH}{i:Int}(h:zb r.begun o.th=false\/zb r.ended o.th=true):vE r o i=none:=by
 unfold vE yg
 rcases h with h | h
 ·rw[h];simp
 ·rw[h];simp
theorem q0e{r:RR}{k:Int}{e:Ev}{x:Ob}{i:Int}(h:zb r.begun e.th=false\/zb r.ended e.th=true):ya r k e x i=none:=by
 unfold ya
 split
 ·rfl
 ·have hc:(come r x).begun=r.begun/\(come r x).ended=r.ended:=by unfold come;split<;>exact⟨rfl,rfl⟩
  exact q0J (by rw[hc.1,hc.2];exact h)
theorem qcu{e:Ev}(h:1<=e.n):vJ e≠[]:=by
 rw[q4x]
 unfold bytes
 obtain⟨m,hm⟩:∃ m,e.n.toNat=m+1:=⟨e.n.toNat-1,by omega⟩
 rw[hm,List.range_succ_eq_map]
 simp[wl]
theorem Yx{e:Ev}{i:Int}:∀ {l:List Ob} {r r':RR},zF e i l r=some r'->r'.L.length=r.L.length+l.length
 | [],r,r',h=>by cases h;rfl
 | x::t,r,r',h=>by
  unfold zF at h
  split at h
  ·cases h
  ·rename_i r2 h2
   have h3:=Yx h
   have h4:r2.L.length=r.L.length+1:=by
    unfold ya at h2
    split at h2
    ·cases h2
    ·unfold vE at h2
     split at h2
     ·cases h2
     ·cases h2
      have:(come r x).L=r.L:=by unfold come;split<;>rfl
      simp[this]
   rw[h3,h4,List.length_cons];omega
theorem VF(T:Th)(e:Ev):zw T e=(!vL e||!zb T.begun e.th||zb T.ended e.th):=by
 have hacc:(zl e).2.2=acs e/\(zl e).2.1=decide (e.kind=4):=by
  unfold zl acs ld sto
  by_cases h2:e.kind=2\/e.kind=23
  ·rw[if_pos h2]
   rcases h2 with h2 | h2<;>simp[h2]
  ·rw[if_neg h2]
   by_cases h3:e.kind=3\/e.kind=22
   ·rw[if_pos h3]
    rcases h3 with h3 | h3<;>simp[h3]
   ·rw[if_neg h3]
    by_cases h4:e.kind=4
    ·rw[if_pos h4];simp[h4]
    ·rw[if_neg h4]
     simp only[not_or]at h2 h3
     simp[h2,h3,h4]
 unfold zw vL
 rw[hacc.1,hacc.2]
 by_cases h1:e.kind<1\/e.kind > 24\/e.th<0\/e.th>=8
 ·rw[if_pos h1]
  rcases h1 with h | h | h | h<;>simp[h]
 ·rw[if_neg h1]
  have a1:decide (e.kind<1)=false:=by simp;omega
  have a2:decide (e.kind > 24)=false:=by simp;omega
  have a3:decide (e.th<0)=false:=by simp;omega
  have a4:decide (e.th>=8)=false:=by simp;omega
  rw[a1,a2,a3,a4]
  by_cases h4:e.kind=4
  ·rw[if_pos h4,decide_eq_true h4]
   have ha:acs e=true:=by unfold acs sto;simp[h4]
   rw[ha]
   by_cases n1:e.n<1
   ·have:decide (e.n>=1)=false:=by simp;omega
    rw[this,decide_eq_true n1];simp
   ·by_cases n2:e.n > 16
    ·have:decide (e.n<=16)=false:=by simp;omega
     rw[this,decide_eq_true n2];simp
    ·have b1:decide (e.n>=1)=true:=by simp;omega
     have b2:decide (e.n<=16)=true:=by simp;omega
     have b3:decide (e.n<1)=false:=by simp;omega
     have b4:decide (e.n > 16)=false:=by simp;omega
     have b5:decide (e.n<0)=false:=by simp;omega
     have b6:decide (e.n > 65536)=false:=by simp;omega
     rw[b1,b2,b3,b4,b5,b6]
     cases zb T.begun e.th<;>cases zb T.ended e.th<;>rfl
  ·rw[if_neg h4,decide_eq_false h4]
   cases ha:acs e
   ·cases zb T.begun e.th<;>cases zb T.ended e.th<;>rfl
   ·by_cases n1:e.n<0
    ·have:decide (e.n>=0)=false:=by simp;omega
     rw[this,decide_eq_true n1];simp
    ·by_cases n2:e.n > 65536
     ·have:decide (e.n<=65536)=false:=by simp;omega
      rw[this,decide_eq_true n2];simp
     ·have b1:decide (e.n>=0)=true:=by simp;omega
      have b2:decide (e.n<=65536)=true:=by simp;omega
      have b5:decide (e.n<0)=false:=by simp;omega
      have b6:decide (e.n > 65536)=false:=by simp;omega
      rw[b1,b2,b5,b6]
      cases zb T.begun e.th<;>cases zb T.ended e.th<;>rfl
theorem qyP{e:Ev}(h:vL e=true):(e.kind=4->1<=e.n/\e.n<=16)/\1<=e.kind/\e.kind<=24:=by
 unfold vL at h
 split at h
 ·cases h
 ·rename_i hk
  refine⟨fun h4=>?_,by omega,by omega⟩
  rw[if_pos h4]at h
  simpa using h
theorem Jt{T:Th}{r0:RR}{tk:List Int}{B:Int}(h:SR T r0 tk B)(hB:B<4611686018427387000)(e:Ev)(i:Int) :
  (plan T e=none/\jt r0 e i=none)\/∃ p r' tk',plan T e=some p/\jt r0 e i=some r'/\EvR T e i r0 tk p r' tk' (B+16):=by
 have hpos:=h.pos
 have href:=VF T e
 cases hs:vL e
 ·left
  refine⟨?_,by unfold jt;rw[if_pos hs]⟩
  unfold plan
  rw[href,hs]
  simp
 ·have hsf:¬ vL e=false:=by simp[hs]
  obtain⟨h4n,hk1,hk24⟩:=qyP hs
  have ht:0<=e.th/\e.th<8:=⟨(Jf hs).1,(Jf hs).2.1⟩
  by_cases hlive:zb T.begun e.th=true/\zb T.ended e.th=false
  ·obtain⟨hbe,hen⟩:=hlive
   have hr:zw T e=false:=by rw[href,hs,hbe,hen];rfl
   have hplan:plan T e=if(act T e (yL T e)).bad then none else some (act T e (yL T e)):=by
    unfold plan
    rw[hr]
    simp
   rw[hplan]
   have hpl:=h.pl e i
   have pf:(yL T e).fork=-1:=rfl
   have pe:(yL T e).ends=-1:=rfl
   unfold jt
   rw[if_neg hsf]
   have one:∀ (k:Int) (x:Ob),(k=2\/k=3\/k=4)->act T e (yL T e)=zK T e k (yL T e) x->
     (((if(act T e (yL T e)).bad then none else some (act T e (yL T e)))=none/\ya r0 k e x i=none)\/∃ p r' tk',(if(act T e (yL T e)).bad then none else some (act T e (yL T e)))=some p/\ya r0 k e x i=some r'/\EvR T e i r0 tk p r' tk' (B+16)):=by
    intro k x hk ha
    rw[ha]
    rcases q5h (x:=x) hpl ht hk hbe hen om hpos h.vi.len with⟨h1,h2⟩ | ⟨r',h1,v,h2⟩
    ·left
     rw[if_pos h2]
     exact⟨rfl,h1⟩
    ·right
     have hb:¬ (zK T e k (yL T e) x).bad=true:=by rw[h2.bad];decide
     rw[if_neg hb]
     refine⟨_,r',_,rfl,h1,h2.finish h ht ((VU T e k _ x).1.trans pf) ((VU T e k _ x).2.trans pe) ?_ om ⟨[v],rfl⟩⟩
     intro hne
     have h3:=h2.L
     rw[hne,List.append_nil]at h3
     have h4:r'.L.length=r0.L.length+1:=by
      have:=Yx (e:=e) (i:=i) (l:=[x]) (r:=r0) (r':=r')
      unfold ya at h1
      split at h1
      ·cases h1
      ·unfold vE at h1
       split at h1
       ·cases h1
       ·cases h1
        have:(come r0 x).L=r0.L:=by unfold come;split<;>rfl
        simp[this]
     rw[h3]at h4;omega
   by_cases k4:e.kind=4
   ·rw[if_pos k4]
    have ha:act T e (yL T e)=(vJ e).foldl (fun p x=>zK T e 4 p x) (yL T e):=by
     unfold act
     rw[if_pos k4,q4x]
     exact Yo T e _ _ _
    rw[ha]
    have hwl:(vJ e).length<=16:=by
     have:=Yf e e.n.toNat
     have:=h4n k4
     unfold vJ;omega
    rcases q14 ht hbe hen (vJ e) r0 (yL T e) tk B hpl hpos om with⟨h1,h2⟩ | ⟨r',h1,ext,h2⟩
    ·left
     rw[if_pos h2]
     exact⟨rfl,h1⟩
    ·right
     have hb:¬ ((vJ e).foldl (fun p x=>zK T e 4 p x) (yL T e)).bad=true:=by rw[h2.bad];decide
     rw[if_neg hb]
     refine⟨_,r',_,rfl,h1,h2.finish h ht ((q1W T e 4 (vJ e) _).1.trans pf) ((q1W T e 4 (vJ e) _).2.trans pe) ?_ om ⟨ext,rfl⟩⟩
     intro hne
     have h3:=h2.L
     rw[hne,List.append_nil]at h3
     have h4:=Yx h1
     have h5:=List.length_pos_iff.2 (qcu (h4n k4).1)
     rw[h3]at h4;omega
   ·rw[if_neg k4]
    by_cases k14:e.kind=14
    ·rw[if_pos k14]
     refine one 3 (false,e.a) om ?_
     unfold act
     rw[if_neg k4,if_neg om,if_neg om,if_pos k14]
     rfl
    ·rw[if_neg k14]
     by_cases k15:e.kind=15
     ·rw[if_pos k15]
      refine one 2 (false,e.a) om ?_
      unfold act
      rw[if_neg k4,if_neg om,if_neg om,if_neg k14,if_pos k15]
      rfl
     ·rw[if_neg k15]
      have hcb:=h.vi.cb e.th ht.1 ht.2
      have rbe:zb r0.begun e.th=true:=by rw[h.begun];exact hbe
      have ren:zb r0.ended e.th=false:=by rw[h.ended];exact hen
      by_cases k11:e.kind=11
      ·rw[if_pos k11]
       have ha:act T e (yL T e)=jk T e (yL T e):=by unfold act;rw[if_neg k4,if_pos k11]
       rw[ha]
       by_cases hbad:(!zx e||zb T.begun e.n)=true
       ·left
        have hb:(jk T e (yL T e)).bad=true:=by unfold jk;rw[if_pos hbad]
        rw[if_pos hb]
        refine⟨rfl,?_⟩
        have:yg r0 ⟨5,e.th,e.n,0⟩=true:=by
         unfold yg
         rw[h.begun]
         unfold zx at hbad
         by_cases hn0:e.n<0
         ·simp[hn0]
         ·by_cases hn8:e.n>=8
          ·simp[hn8]
          ·have a1:decide (e.n>=0)=true:=by simp;omega
           have a2:decide (e.n<8)=true:=by simp;omega
           rw[a1,a2]at hbad
           simp at hbad
           simp[hbad]
        unfold vE
        rw[if_pos this]
       ·right
        have hb0:(!zx e||zb T.begun e.n)=false:=by simpa using hbad
        rw[Bool.or_eq_false_iff]at hb0
        obtain⟨ho,hbn⟩:=hb0
        have ho:zx e=true:=by simpa using ho
        have hn:0<=e.n/\e.n<8:=by unfold zx at ho;simpa using ho
        have hne:e.n≠e.th:=fun he=>by rw[he,hbe]at hbn;cases hbn
        have hsp:jk T e (yL T e)={ tick e (yL T e) ⟨5,0,e.n,0⟩with fork:=e.n,rel:=true }:=by
         unfold jk
         rw[if_neg hbad]
        have hb:¬ (jk T e (yL T e)).bad=true:=by rw[hsp];exact Bool.false_ne_true
        rw[if_neg hb]
        have hbar:yg r0 ⟨5,e.th,e.n,0⟩=false:=by
         unfold yg
         have a1:decide (e.n<0)=false:=by simp;omega
         have a2:decide (e.n>=8)=false:=by simp;omega
         simp only
         rw[rbe,ren,a1,a2,h.begun,hbn];rfl
        have hrp:vE r0 ⟨5,e.th,e.n,0⟩ i=some { r0 with L:=r0.L++[⟨5,e.th,e.n,0⟩],of:=r0.of++[i],begun:=if(5:Int)=5 then r0.begun.set e.n.toNat true else r0.begun,ended:=if(5:Int)=6 then r0.ended.set e.n.toNat true else r0.ended }:=by
         unfold vE
         rw[hbar]
         rfl
        refine⟨_,_,_,rfl,hrp,qdh h om ht (o:=⟨5,e.th,e.n,0⟩) (own0:=getC T.clocks e.th) rfl (.inr (.inl rfl)) hcb (fun s v=>?_) (fun h6=>?_) (fun _=>⟨hn.1,hn.2,hne⟩) ?_ ?_ ?_ ?_ ?_ ?_ ?_⟩
        ·constructor
         ·exact fun hh=>.inl hh
         ·rintro(hh | ⟨hh,_⟩)
          ·exact hh
          ·cases hh
        ·cases h6
        all_goals rw[hsp];rfl
      ·rw[if_neg k11]
       by_cases k13:e.kind=13
       ·rw[if_pos k13]
        have ha:act T e (yL T e)=join T e (yL T e):=by unfold act;rw[if_neg k4,if_neg k11,if_pos k13]
        rw[ha]
        by_cases hbad:(!zx e||!zb T.begun e.n||zb T.ended e.n||e.n==e.th)=true
        ·left
         have hb:(join T e (yL T e)).bad=true:=by unfold join;rw[if_pos hbad]
         rw[if_pos hb]
         refine⟨rfl,?_⟩
         have:yg r0 ⟨6,e.th,e.n,0⟩=true:=by
          unfold yg
          rw[h.begun,h.ended]
          unfold zx at hbad
          by_cases hn0:e.n<0
          ·simp[hn0]
          ·by_cases hn8:e.n>=8
           ·simp[hn8]
           ·have a1:decide (e.n>=0)=true:=by simp;omega
            have a2:decide (e.n<8)=true:=by simp;omega
            rw[a1,a2]at hbad
            simp only[Bool.and_self,Bool.not_true,Bool.false_or]at hbad
            simp only
            rw[show((6:Int)==5)=false from rfl,show((6:Int)==6)=true from rfl]
            simp only[Bool.false_or,Bool.true_and,Bool.false_and]
            rw[hbad]
            simp
         unfold vE
         rw[if_pos this]
        ·right
         have hb0:(!zx e||!zb T.begun e.n||zb T.ended e.n||e.n==e.th)=false:=by simpa using hbad
         rw[Bool.or_eq_false_iff,Bool.or_eq_false_iff,Bool.or_eq_false_iff]at hb0
         obtain⟨⟨⟨ho,hbn⟩,hen'⟩,hne⟩:=hb0
         have ho:zx e=true:=by simpa using ho
         have hn:0<=e.n/\e.n<8:=by unfold zx at ho;simpa using ho
         have hjn:join T e (yL T e)={ tick e { yL T e with own:=zk (yL T e).own (getC T.clocks e.n) } ⟨6,0,e.n,0⟩with ends:=e.n }:=by
          unfold join
          rw[if_neg hbad]
         have hb:¬ (join T e (yL T e)).bad=true:=by rw[hjn];exact Bool.false_ne_true
         rw[if_neg hb]
         have hbar:yg r0 ⟨6,e.th,e.n,0⟩=false:=by
          unfold yg
          have a1:decide (e.n<0)=false:=by simp;omega
          have a2:decide (e.n>=8)=false:=by simp;omega
          simp only
          rw[rbe,ren,a1,a2,h.begun,h.ended,hbn,hen',hne];rfl
         have hrp:vE r0 ⟨6,e.th,e.n,0⟩ i=some { r0 with L:=r0.L++[⟨6,e.th,e.n,0⟩],of:=r0.of++[i],begun:=if(6:Int)=5 then r0.begun.set e.n.toNat true else r0.begun,ended:=if(6:Int)=6 then r0.ended.set e.n.toNat true else r0.ended }:=by
          unfold vE
          rw[hbar]
          rfl
         have hcn:=h.vi.cb e.n hn.1 hn.2
         refine⟨_,_,_,rfl,hrp,qdh h om ht (o:=⟨6,e.th,e.n,0⟩) (own0:=zk (getC T.clocks e.th) (getC T.clocks e.n)) rfl (.inr (.inr rfl)) (hcb.join hcn) (fun s v=>?_) (fun _=>hn) (fun h5=>?_) ?_ ?_ ?_ ?_ ?_ ?_ ?_⟩
         ·rw[q2F hcb.1 hcn.1]
          constructor
          ·rintro(hh | hh)
           ·exact .inl hh
           ·exact .inr ⟨rfl,hh⟩
          ·rintro(hh | ⟨_,hh⟩)
           ·exact .inl hh
           ·exact .inr hh
         ·cases h5
         all_goals rw[hjn];rfl
       ·rw[if_neg k13]
        right
        have ha:act T e (yL T e)=step e (yL T e):=by unfold act;rw[if_neg k4,if_neg k11,if_neg k13,if_neg k14,if_neg k15]
        rw[ha]
        have hb:¬ (step e (yL T e)).bad=true:=Bool.false_ne_true
        rw[if_neg hb]
        have hbar:yg r0 ⟨1,e.th,0,0⟩=false:=by
         unfold yg
         simp only
         rw[rbe,ren];rfl
        have hrp:vE r0 ⟨1,e.th,0,0⟩ i=some { r0 with L:=r0.L++[⟨1,e.th,0,0⟩],of:=r0.of++[i],begun:=if(1:Int)=5 then r0.begun.set (0:Int).toNat true else r0.begun,ended:=if(1:Int)=6 then r0.ended.set (0:Int).toNat true else r0.ended }:=by
         unfold vE
         rw[hbar]
         rfl
        refine⟨_,_,_,rfl,hrp,qdh h om ht (o:=⟨1,e.th,0,0⟩) (own0:=getC T.clocks e.th) rfl (.inl rfl) hcb (fun s v=>?_) (fun h6=>?_) (fun h5=>?_) ?_ ?_ ?_ ?_ ?_ ?_ ?_⟩
        ·constructor
         ·exact fun hh=>.inl hh
         ·rintro(hh | ⟨hh,_⟩)
          ·exact hh
          ·cases hh
        ·cases h6
        ·cases h5
        all_goals rfl
  ·left
   have hdead:zb T.begun e.th=false\/zb T.ended e.th=true:=by
    cases h1:zb T.begun e.th
    ·exact .inl rfl
    ·cases h2:zb T.ended e.th
     ·exact absurd ⟨h1,h2⟩ hlive
     ·exact .inr rfl
   have hr:zw T e=true:=by
    rw[href,hs]
    rcases hdead with hd | hd<;>rw[hd]<;>simp
   refine⟨by unfold plan;rw[if_pos hr],?_⟩
   rw[<-h.begun,<-h.ended]at hdead
   unfold jt
   rw[if_neg hsf]
   by_cases k4:e.kind=4
   ·rw[if_pos k4]
    obtain⟨x,t,hw⟩:=List.exists_cons_of_ne_nil (qcu (h4n k4).1)
    rw[hw]
    unfold zF
    rw[q0e hdead]
   ·rw[if_neg k4]
    split
    ·exact q0e hdead
    ·split
     ·exact q0e hdead
     ·split
      ·exact q0J hdead
      ·split
       ·exact q0J hdead
       ·exact q0J hdead
def EvF(th:Nat->Int)(r:RR)(tk:List Int)(ev:List q5D):Prop:=∀ k,k<ev.length->∃ s f,s<f/\f<=r.L.length/\(∀ a,a<r.L.length->(r.of.getD a 0=(k:Int)↔s<=a/\a<f))/\(∀ a,a<r.L.length->f<=a->(k:Int)<r.of.getD a 0)/\
 (∀ a,s<=a->a<f->(vG r.L a).th=th k)/\(ev.getD k ⟨0,[]⟩).first=tk.getD s 0/\
 (∀ a,a<f->(tk.getD a 0<=zo (ev.getD k ⟨0,[]⟩).last (vG r.L a).th↔∃ b,b<f/\(a=b\/HB r.L a b)/\Jw (th k) (vG r.L b)=true))
theorem q9g{α:Type}{l m:List α}{a:Nat}{d:α}(h:a<l.length):(l++m).getD a d=l.getD a d:=by
 simp[List.getD,List.getElem?_append_left h]
theorem qeB{l:List Int}{n a:Nat}{i:Int}(h:l.length<=a)(h2:a<l.length+n):(l++List.replicate n i).getD a 0=i:=by
 simp only[List.getD,List.getElem?_append_right h,List.getElem?_replicate]
 rw[if_pos om]
 rfl
theorem EvF.step{T:Th}{th:Nat->Int}{e:Ev}{i:Nat}{r0 r:RR}{tk0 tk:List Int}{p:Pl}{B:Int}{ev:List q5D}(h:EvF th r0 tk0 ev)(hev:ev.length=i)(hr:EvR T e (i:Nat) r0 tk0 p r tk B)
  (hol:r0.of.length=r0.L.length) (hof:∀ x∈r0.of,0<=x/\x<(i:Int)) (ht0:tk0.length=r0.L.length) (hth:th i=e.th):EvF th r tk (ev++[⟨p.tk,p.own⟩]):=by
 have hLl:r.L.length=r0.L.length+p.orders.length:=by rw[hr.L];simp
 have hpos:0<p.orders.length:=List.length_pos_iff.2 hr.ne
 have ofl:∀ a,a<r0.L.length->r.of.getD a 0=r0.of.getD a 0:=fun a ha=>by rw[hr.of];exact q9g om
 have ofr:∀ a,r0.L.length<=a->a<r.L.length->r.of.getD a 0=(i:Int):=fun a ha hb=>by rw[hr.of];exact qeB om om
 have opl:∀ a,a<r0.L.length->vG r.L a=vG r0.L a:=fun a ha=>by rw[hr.L];exact vO ha
 obtain⟨ext,hext⟩:=hr.ext
 have tkl:∀ a,a<r0.L.length->tk.getD a 0=tk0.getD a 0:=fun a ha=>by rw[hext];exact q9g om
 have hbl:∀ a b,b<r0.L.length->(HB r.L a b↔HB r0.L a b):=fun a b hb=>by
  rw[hr.L]
  exact⟨fun h=>h.of_app hb,fun h=>h.app⟩
 intro k hk
 rw[List.length_append,List.length_singleton]at hk
 by_cases hki:k<i
 ·obtain⟨s,f,h1,h2,h3,h3',h4,h5,h6⟩:=h k om
  refine⟨s,f,h1,by omega,fun a ha=>?_,fun a ha hf=>?_,fun a ha hb=>?_,?_,fun a ha=>?_⟩
  ·by_cases hal:a<r0.L.length
   ·rw[ofl a hal];exact h3 a hal
   ·rw[ofr a om ha]
    constructor
    ·intro he;omega
    ·intro he;omega
  ·by_cases hal:a<r0.L.length
   ·rw[ofl a hal];exact h3' a hal hf
   ·rw[ofr a om ha];omega
  ·rw[opl a om];exact h4 a ha hb
  ·rw[q9g om,tkl s om];exact h5
  ·rw[q9g om,tkl a om,opl a om,h6 a ha]
   constructor
   ·rintro⟨b,hb,hab,he⟩
    exact⟨b,hb,hab.imp id fun hh=>(hbl a b om).2 hh,by rw[opl b om];exact he⟩
   ·rintro⟨b,hb,hab,he⟩
    exact⟨b,hb,hab.imp id fun hh=>(hbl a b om).1 hh,by rw[opl b om]at he;exact he⟩
 ·have hke:k=i:=by omega
  subst hke
  have hg:(ev++[(⟨p.tk,p.own⟩:q5D)]).getD k ⟨0,[]⟩=⟨p.tk,p.own⟩:=by
   rw[<-hev]
   simp[List.getD]
  refine⟨r0.L.length,r.L.length,by omega,by omega,fun a ha=>?_,fun a ha hf=>by omega,fun a ha hb=>?_,?_,fun a ha=>?_⟩
  ·by_cases hal:a<r0.L.length
   ·rw[ofl a hal]
    have:r0.of.getD a 0∈r0.of:=by
     simp only[List.getD,List.getElem?_eq_getElem (by omega:a<r0.of.length)]
     exact List.getElem_mem _
    have:=hof _ this
    constructor
    ·intro he;omega
    ·intro he;omega
   ·rw[ofr a om ha]
    simp only[true_iff]
    omega
  ·have hm:vG r.L a∈p.orders:=by
    unfold vG
    rw[hr.L]
    simp only[List.getD,List.getElem?_append_right ha]
    rw[List.getElem?_eq_getElem om]
    exact List.getElem_mem _
   rw[hr.ths _ hm,hth]
  ·rw[hg];exact hr.tkp
  ·rw[hg,hr.own a ha,hth]
   exact Iff.rfl
theorem SR0:SR zi rr0 [] 0:=by
 refine⟨rfl,rfl,rfl,List.nodup_nil,by decide,?_,rfl,rfl,rfl,Int.le_refl 0⟩
 have hz:∀ u:Int,0<=u->u<8->getC zi.clocks u=qW:=fun u h0 h8=>by
  show(List.replicate 8 qW).getD u.toNat qW=qW
  simp only[List.getD,List.getElem?_replicate]
  split<;>rfl
 have ho:∀ k:Ob,(qr zi.objs k).getD qW=qW:=fun k=>rfl
 refine⟨rfl,fun a ha=>absurd ha (Nat.not_lt_zero a),fun a ha=>absurd ha (Nat.not_lt_zero a),fun a ha=>absurd ha (Nat.not_lt_zero a),fun u _ _ a ha=>absurd ha (Nat.not_lt_zero a),fun k a ha=>absurd ha (Nat.not_lt_zero a),fun u t u0 u8 t0 t8=>?_,fun k t t0 t8=>?_,fun u u0 u8=>?_,fun k=>?_⟩
 ·rw[hz u u0 u8,hz t t0 t8];exact Int.le_refl _
 ·rw[hz t t0 t8];exact Int.le_refl _
 ·rw[hz u u0 u8];exact CB.zero (Int.le_refl 0)
 ·exact CB.zero (Int.le_refl 0)
theorem qcn(th:Nat->Int):∀ (l:List Ev) (i:Nat) (T:Th) (h:q1M) (r:RR) (tk:List Int) (B:Int),SR T r tk B->h.orders=r.L->h.of=r.of->h.events.length=i->r.of.length=r.L.length->(∀ x∈r.of,0<=x/\x<(i:Int))->
  EvF th r tk h.events->(∀ m,m<l.length->th (i+m)=(l.getD m default).th)->B+16*l.length<4611686018427387000->
  (QQ l i T h=none/\yq l i r=none)\/∃ h' r' tk',QQ l i T h=some h'/\yq l i r=some r'/\h'.orders=r'.L/\h'.of=r'.of/\EvF th r' tk' h'.events/\h'.events.length=i+l.length
 | [],i,T,h,r,tk,B,hs,ho,hf,he,hol,hof,hev,hth,hB=>.inr ⟨h,r,tk,rfl,rfl,ho,hf,hev,by simpa using he⟩
 | e::t,i,T,h,r,tk,B,hs,ho,hf,he,hol,hof,hev,hth,hB=>by
  simp only[List.length_cons]at hB
  rcases Jt hs om e (i:Nat)with⟨h1,h2⟩ | ⟨p,r',tk',h1,h2,h3⟩
  ·left
   constructor
   ·unfold QQ;rw[h1]
   ·unfold yq;rw[h2]
  ·have hth0:th i=e.th:=by have:=hth 0 (by simp);simpa using this
   have hev':=hev.step he h3 hol hof hs.vi.len hth0
   have key:=qcn th t (i+1) (qG T e p) ⟨h.orders++p.orders,h.of++List.replicate p.orders.length ((i:Nat):Int),h.events++[⟨p.tk,p.own⟩]⟩ r' tk' (B+16) h3.sr (by rw[h3.L];simp[ho]) (by rw[h3.of];simp[hf]) (by simp[he])
    (by rw[h3.L,h3.of];simp[hol]) (fun x hx=>?_) hev' (fun m hm=>?_) om
   ·unfold QQ yq
    rw[h1,h2]
    rcases key with⟨k1,k2⟩ | ⟨h',r2,tk2,k1,k2,k3,k4,k5,k6⟩
    ·exact .inl ⟨k1,k2⟩
    ·exact .inr ⟨h',r2,tk2,k1,k2,k3,k4,k5,by rw[k6,List.length_cons];omega⟩
   ·rw[h3.of]at hx
    rcases List.mem_append.1 hx with hx | hx
    ·have:=hof x hx;omega
    ·have:=List.eq_of_mem_replicate hx;omega
   ·have:=hth (m+1) (by simp;omega)
    rw[show i+1+m=i+(m+1)by omega,this]
    simp
theorem Vj(l:List Ev):(∃ x,run l=.inr x/\QA l=.inr x/\(x=2\/x=300))\/∃ h r tk,run l=.inl h/\QA l=.inl r/\h.orders=r.L/\h.of=r.of/\EvF (fun k=>(l.getD k default).th) r tk h.events/\h.events.length=l.length:=by
 unfold run QA
 by_cases hl:l.length > 20000
 ·rw[if_pos hl,if_pos hl]
  exact .inl ⟨2,rfl,rfl,.inl rfl⟩
 ·rw[if_neg hl,if_neg hl]
  rcases qcn (fun k=>(l.getD k default).th) l 0 zi ⟨[],[],[]⟩ rr0 [] 0 SR0 rfl rfl rfl rfl (by simp[rr0]) (fun k hk=>absurd hk (Nat.not_lt_zero k)) (fun m _=>by simp) om with⟨h1,h2⟩ | ⟨h',r',tk',h1,h2,h3,h4,h5,h6⟩
  ·left
   have h1:QQ l 0 zi ⟨[],[],[]⟩=none:=h1
   have h2:yq l 0 rr0=none:=h2
   rw[h1,h2]
   exact⟨300,rfl,rfl,.inr rfl⟩
  ·right
   have h1:QQ l 0 zi ⟨[],[],[]⟩=some h':=h1
   have h2:yq l 0 rr0=some r':=h2
   rw[h1,h2]
   exact⟨h',r',tk',rfl,rfl,h3,h4,h5,by simpa using h6⟩
theorem qnt{th:Nat->Int}{r:RR}{tk:List Int}{ev:List q5D}(h:EvF th r tk ev)(hol:r.of.length=r.L.length)(hof:∀ x∈r.of,0<=x/\x<(ev.length:Int)){i j:Nat}(hij:i<j)(hj:j<ev.length) :
  decide (zo (ev.getD j ⟨0,[]⟩).last (th i)>=(ev.getD i ⟨0,[]⟩).first)=(vn r (i:Nat) ev.length).getD j false:=by
 rw[Bool.eq_iff_iff,qcs hol hof hj,decide_eq_true_iff]
 obtain⟨s,f,s1,s2,s3,s3',s4,s5,s6⟩:=h i om
 obtain⟨s',f',t1,t2,t3,t3',t4,t5,t6⟩:=h j hj
 have hmem:∀ a,a<r.L.length->r.of.getD a 0∈r.of:=fun a ha=>by
  simp only[List.getD,List.getElem?_eq_getElem (by omega:a<r.of.length)]
  exact List.getElem_mem _
 have hs:r.of.getD s 0=(i:Int):=(s3 s om).2 ⟨Nat.le_refl s,s1⟩
 have hs':r.of.getD s' 0=(j:Int):=(t3 s' om).2 ⟨Nat.le_refl s',t1⟩
 have thS:(vG r.L s).th=th i:=s4 s (Nat.le_refl s) s1
 have hd:∀ a b,a<b->b<r.L.length->(vG r.L a).th=(vG r.L b).th->HB r.L a b:=fun a b hab hb ht=>HB.one hab hb (by rw[QF];left;unfold Jw;rw[ht];simp)
 rw[s5,ge_iff_le,<-thS]
 constructor
 ·intro hle
  by_cases hsf:s<f'
  ·obtain⟨b,hb,hab,he⟩:=(t6 s hsf).1 hle
   by_cases hbj:s'<=b
   ·refine⟨s,b,by omega,by omega,hs,(t3 b om).2 ⟨hbj,hb⟩,hij,?_⟩
    rcases hab with rfl | hab
    ·have:=(t3 s om).2 ⟨hbj,hb⟩
     omega
    ·exact hab
   ·refine⟨s,s',by omega,by omega,hs,hs',hij,?_⟩
    have hdir:yt (vG r.L b) (vG r.L s')=true:=by
     rw[QF,t4 s' (Nat.le_refl s') t1]
     exact .inl he
    rcases hab with rfl | hab
    ·exact .one om om hdir
    ·exact .step hab om om hdir
  ·-- the operations of the later event come first: cannot be
   exfalso
   have:=t3' s om om
   omega
 ·rintro⟨d,c,hd1,hc1,hd2,hc2,_,hdc⟩
  have hdr:=(s3 d hd1).1 hd2
  have hcr:=(t3 c hc1).1 hc2
  have hlt:=hdc.lt
  refine(t6 s om).2 ⟨c,hcr.2,.inr ?_,?_⟩
  ·by_cases hsd:s=d
   ·rw[hsd];exact hdc
   ·exact(hd s d om hd1 (by rw[thS,s4 d hdr.1 hdr.2])).trans hdc
  ·unfold Jw
   rw[t4 c hcr.1 hcr.2]
   simp
end Go.Fx.Mo
namespace Go.Fx.Mo
section assoc
variable {K V:Type} [DecidableEq K]
theorem q7P(m:List (K × V))(k:K)(v:V):(put m k v).length<=m.length+1:=by
 unfold put
 split<;>simp
end assoc
def q8p(T:Th)(e:Ev):Bool:=if e.kind=11 then !zx e||zb T.begun e.n else if e.kind=13 then !zx e||!zb T.begun e.n||zb T.ended e.n||e.n==e.th else false
theorem Jl{T:Th}{e:Ev}{p:Pl}(h:plan T e=some p):q8p T e=false:=by
 obtain⟨_,rfl,hb⟩:=Yc h
 unfold q8p
 split
 ·rename_i hk
  unfold act at hb
  rw[if_neg om,if_pos hk]at hb
  unfold jk at hb
  split at hb
  ·simp at hb
  ·rename_i hc;simpa using hc
 ·split
  ·rename_i hk
   unfold act at hb
   rw[if_neg om,if_neg om,if_pos hk]at hb
   unfold join at hb
   split at hb
   ·simp at hb
   ·rename_i hc;simpa using hc
  ·rfl
theorem VL{T:Th}{e:Ev}(hb:q8p T e=false):(act T e (yL T e)).fork=(if e.kind=11 then e.n else -1)/\(act T e (yL T e)).ends=(if e.kind=13 then e.n else -1):=by
 unfold act
 split
 ·rename_i hk
  rw[if_neg om,if_neg om]
  exact Qx T e _ _ (yL T e)
 ·split
  ·rename_i hk
   unfold q8p at hb
   rw[if_pos hk]at hb
   unfold jk
   rw[if_neg (by rw[hb];decide)]
   refine⟨rfl,?_⟩
   rw[if_neg om]
   rfl
  ·split
   ·rename_i hk
    unfold q8p at hb
    rw[if_neg om,if_pos hk]at hb
    unfold join
    rw[if_neg (by rw[hb];decide)]
    exact⟨rfl,rfl⟩
   ·split
    ·exact(je T (yL T e) (false,e.a)).trans ((Yq T _ _).trans (ZM e _ _))
    ·split
     ·exact(je T (yL T e) (false,e.a)).trans ((ZM e _ _).trans (YF T _ _))
     ·exact⟨rfl,rfl⟩
theorem JK(T:Th)(e:Ev)(p:Pl):(qG T e p).ended=if p.ends>=0 then T.ended.set p.ends.toNat true else T.ended:=by
 unfold qG;simp only;split<;>split<;>split<;>rfl
theorem qaQ{a:Qk}{tk rel:Int}{ts:List (Int × Bool)}:∀ {bs:List Int} {cs:List (Int × vl)},(yy a tk rel ts bs cs).length<=cs.length+bs.length
 | [],cs=>by simp[yy]
 | b::r,cs=>by
  unfold yy
  simp only[List.length_cons]
  refine Nat.le_trans qaQ ?_
  have h1:=q7P cs b yI
  have h2:=q7P cs b (((qr cs b).getD yI).remember a tk rel)
  split
  ·split
   ·omega
   ·omega
  ·omega
def Qb(e:Ev):Nat:=if(zl e).2.2 then e.n.toNat else 0
theorem q5C{l:List Bool}{i:Nat}{t:Int}(h:zb l t=true):zb (l.set i true) t=true:=by
 unfold zb at h ⊢
 rw[List.getD_eq_getElem?_getD]at h ⊢
 rw[List.getElem?_set]
 split
 ·split
  ·rfl
  ·rw[List.getElem?_eq_none om]at h;exact h
 ·exact h
def Fv(T:Th)(t x:Int):Prop:=(∃ u,0<=u/\u<8/\u≠t/\x=zo (getC T.clocks u) t)\/∃ k,x=zo ((qr T.objs k).getD qW) t
def Fw(T:Th)(e:Ev)(t x:Int):Prop:=Fv T t x\/(e.kind=13/\t=e.n/\x=zo (getC T.clocks t) t)
structure PF (T:Th) (e:Ev) (p:Pl):Prop where
 own:∀ t,0<=t->t<8->t≠e.th->Fw T e t (zo p.own t)
 ob:∀ k t,0<=t->t<8->Fw T e t (zo (qL T p k) t)\/(t=e.th/\p.rel=true/\p.tk≠0/\p.tk<=zo (qL T p k) t)
 tk:p.tk=0\/(zo (getC T.clocks e.th) e.th<p.tk/\p.tk<=zo p.own e.th)
 own0:zo (getC T.clocks e.th) e.th<=zo p.own e.th
 rel0:p.rel=false->p.objs=[]
theorem PF.same{T:Th}{e:Ev}{p q:Pl}(h:PF T e p)(h1:q.own=p.own)(h2:q.objs=p.objs)(h3:q.tk=p.tk)(h4:q.rel=p.rel):PF T e q:=
 ⟨by rw[h1];exact h.own,fun k t h0 h8=>by have:=h.ob k t h0 h8;unfold qL at this ⊢;rw[h2,h3,h4];exact this,by rw[h1,h3];exact h.tk,by rw[h1];exact h.own0,by rw[h4,h2];exact h.rel0⟩
theorem qeG(T:Th)(p:Pl)(x:Ob):(number T p x).2.rel=p.rel:=by
 unfold number
 split
 ·rfl
 ·split<;>rfl
theorem PF.number{T:Th}{e:Ev}{p:Pl}(h:PF T e p)(x:Ob):PF T e (number T p x).2:=
 have n:=Zt T p x
 h.same n.1 n.2.1 n.2.2 (qeG T p x)
theorem q3e{c d:vj}(hc:c.length=8)(hd:d.length=8){Q:Int->Prop}{t:Int}(h1:Q (zo c t))(h2:Q (zo d t)):Q (zo (zk c d) t):=by
 rw[Qj hc hd]
 split
 ·exact h2
 ·exact h1
theorem PF.acquire{T:Th}{e:Ev}{p0 p:Pl}{B:Int}(hT:ThB T B)(hp:PM T e p0 p B)(h:PF T e p)(x:Ob):PF T e (acquire T p x):=by
 have hc:=YC hT hp.objs x
 refine⟨fun t h0 h8 hne=>?_,h.ob,?_,Int.le_trans h.own0 (jX hp.own.1 hc.1 e.th),h.rel0⟩
 ·refine q3e hp.own.1 hc.1 (h.own t h0 h8 hne) ?_
  rcases h.ob x t h0 h8 with h1 | h1
  ·exact h1
  ·exact absurd h1.1 hne
 ·rcases h.tk with h1 | h1
  ·exact .inl h1
  ·exact .inr ⟨h1.1,Int.le_trans h1.2 (jX hp.own.1 hc.1 e.th)⟩
theorem PF.tick{T:Th}{e:Ev}{p0 p:Pl}{B:Int}(hp:PM T e p0 p B)(h:PF T e p)(ht:0<=e.th/\e.th<8)(hB:B<4611686018427387904)(o:vH):PF T e (tick e p o)/\(tick e p o).tk≠0:=by
 have h1:=hp.own.2 e.th
 have h2:=ZZ (o:=o) hp.own ht hB e.th
 rw[if_pos rfl]at h2
 have htk:(Mo.tick e p o).tk=if p.tk=0 then zo (Mo.tick e p o).own e.th else p.tk:=rfl
 have hown0:=h.own0
 have htk2:=h.tk
 refine⟨⟨fun t h0 h8 hne=>?_,fun k t h0 h8=>?_,?_,?_,h.rel0⟩,?_⟩
 ·rw[ZZ hp.own ht hB,if_neg om]
  exact h.own t h0 h8 hne
 ·rcases h.ob k t h0 h8 with h3 | ⟨h3,h4,h5,h6⟩
  ·exact .inl h3
  ·refine .inr ⟨h3,h4,?_⟩
   rw[htk,if_neg h5]
   exact⟨h5,h6⟩
 ·right
  rw[htk,h2]
  split<;>omega
 ·rw[h2];omega
 ·rw[htk,h2]
  split<;>omega
theorem PF.release{T:Th}{e:Ev}{p0 p:Pl}{B:Int}(hT:ThB T B)(hp:PM T e p0 p B)(h:PF T e p)(htk:p.tk≠0)(x:Ob):PF T e (release T p x):=by
 have hc:=YC hT hp.objs x
 refine⟨h.own,fun k t h0 h8=>?_,h.tk,h.own0,fun hr=>by cases hr⟩
 rw[ZE]
 have tr:∀ k,Fw T e t (zo (qL T p k) t)\/(t=e.th/\true=true/\p.tk≠0/\p.tk<=zo (qL T p k) t):=fun k=>by
  rcases h.ob k t h0 h8 with h3 | ⟨h3,h4,h5,h6⟩
  ·exact .inl h3
  ·exact .inr ⟨h3,rfl,h5,h6⟩
 show Fw T e t (zo (if k=x then zk (qL T p x) p.own else qL T p k) t)\/(t=e.th/\true=true/\p.tk≠0/\p.tk<=zo (if k=x then zk (qL T p x) p.own else qL T p k) t)
 split
 ·refine q3e hc.1 hp.own.1 (Q:=fun v=>Fw T e t v\/(t=e.th/\true=true/\p.tk≠0/\p.tk<=v)) (tr x) ?_
  by_cases hte:t=e.th
  ·right
   refine⟨hte,rfl,htk,?_⟩
   rw[hte]
   rcases h.tk with h1 | h1
   ·exact absurd h1 htk
   ·exact h1.2
  ·exact .inl (h.own t h0 h8 hte)
 ·exact tr k
theorem PF.atomicL{T:Th}{e:Ev}{p0:Pl}(ht:0<=e.th/\e.th<8):∀ (l:List Int) (x:Ob) (p:Pl) (B:Int),ThB T B->PM T e p0 p B->PF T e p->B+l.length<4611686018427387904->PF T e (atomicL T e l x p)
 | [],_,p,B,_,_,h,_=>h
 | a::r,last,p,B,hT,hp,h,hB=>by
  simp only[List.length_cons]at hB
  unfold Mo.atomicL
  simp only
  split
  ·exact PF.atomicL ht r last p B hT hp h om
  ·have p1:=hp.number (true,jE (a.tdiv 4))
   have p2:=p1.acquire hT (true,jE (a.tdiv 4))
   have f2:=(h.number (true,jE (a.tdiv 4))).acquire hT p1 (true,jE (a.tdiv 4))
   have p3:=p2.tick ht om ⟨4,0,0,(Mo.number T p (true,jE (a.tdiv 4))).1⟩
   have f3:=f2.tick p2 ht om ⟨4,0,0,(Mo.number T p (true,jE (a.tdiv 4))).1⟩
   have p4:=p3.release (hT.mono om) (true,jE (a.tdiv 4))
   have f4:=f3.1.release (hT.mono om) p3 f3.2 (true,jE (a.tdiv 4))
   exact PF.atomicL ht r _ _ (B+1) (hT.mono om) p4 f4 om
theorem qFr{T:Th}{e:Ev}(ht:0<=e.th/\e.th<8):PF T e (yL T e):=
 ⟨fun t h0 h8 hne=>.inl (.inl ⟨e.th,ht.1,ht.2,Ne.symm hne,rfl⟩),fun k t h0 h8=>.inl (.inl (.inr ⟨k,rfl⟩)),.inl rfl,Int.le_refl _,fun _=>rfl⟩
theorem qkS{T:Th}{e:Ev}{p:Pl}{B:Int}(h:plan T e=some p)(hT:ThB T B)(hB:B+16<4611686018427387904):PF T e p/\(p.fork>=0->p.rel=true):=by
 have hb:=Jl h
 obtain⟨hr,rfl,hbad⟩:=Yc h
 have ht:=vW hr
 have hp:=qxr (e:=e) hT
 have hf:=qFr (T:=T) ht
 obtain⟨hfk,-⟩:=VL hb
 unfold act at hfk ⊢
 by_cases k4:e.kind=4
 ·rw[if_pos k4]at hfk ⊢
  rw[if_neg om]at hfk
  have h16:=q4P hr k4
  have hl:(bytes e.a e.n).length=e.n.toNat:=by simp[bytes]
  have:=PF.atomicL ht (bytes e.a e.n) (false,0) _ B hT hp hf (by rw[hl];omega)
  have hfk':(q5e T e (yL T e)).fork<0:=by rw[hfk];decide
  exact⟨this,fun hh=>by omega⟩
 ·rw[if_neg k4]at hfk ⊢
  by_cases k11:e.kind=11
  ·rw[if_pos k11]
   unfold q8p at hb
   rw[if_pos k11]at hb
   unfold jk
   rw[if_neg (by rw[hb];decide)]
   have f1:=hf.tick hp ht om ⟨5,0,e.n,0⟩
   refine⟨⟨f1.1.own,fun k t h0 h8=>?_,f1.1.tk,f1.1.own0,fun hh=>by cases hh⟩,fun _=>rfl⟩
   exact .inl (.inl (.inr ⟨k,rfl⟩))
  ·rw[if_neg k11]at hfk ⊢
   by_cases k13:e.kind=13
   ·rw[if_pos k13]at hfk ⊢
    rw[if_neg k11]at hfk
    unfold q8p at hb
    rw[if_neg k11,if_pos k13]at hb
    have hbn:e.n≠e.th:=by
     rw[Bool.or_eq_false_iff]at hb
     simpa using hb.2
    have hn:0<=e.n/\e.n<8:=by
     simp only[Bool.or_eq_false_iff]at hb
     have:=hb.1.1.1
     unfold zx at this
     simpa using this
    unfold join at hfk ⊢
    have hb':¬ (!zx e||!zb T.begun e.n||zb T.ended e.n||e.n==e.th)=true:=by rw[hb];decide
    rw[if_neg hb']at hfk ⊢
    have hc:=hT.getC e.n
    have p1:PM T e (yL T e) { yL T e with own:=zk (yL T e).own (getC T.clocks e.n) } B:=
     ⟨hp.own.join hc,hp.objs,hp.nd,fun t=>Int.le_trans (hp.grow t) (jX hp.own.1 hc.1 t),hp.ob,hp.tk.1,Int.le_trans hp.tk.2 (jX hp.own.1 hc.1 e.th)⟩
    have f1:PF T e { yL T e with own:=zk (yL T e).own (getC T.clocks e.n) }:=by
     refine⟨fun t h0 h8 hne=>q3e hp.own.1 hc.1 (hf.own t h0 h8 hne) ?_,hf.ob,.inl rfl,Int.le_trans hf.own0 (jX hp.own.1 hc.1 e.th),fun _=>rfl⟩
     by_cases htn:t=e.n
     ·exact .inr ⟨k13,htn,by rw[htn]⟩
     ·exact .inl (.inl ⟨e.n,hn.1,hn.2,Ne.symm htn,rfl⟩)
    have f2:=f1.tick p1 ht om ⟨6,0,e.n,0⟩
    refine⟨f2.1.same rfl rfl rfl rfl,fun hh=>?_⟩
    rw[hfk]at hh
    omega
   ·rw[if_neg k13]at hfk ⊢
    by_cases k14:e.kind=14
    ·rw[if_pos k14]at hfk ⊢
     rw[if_neg k11]at hfk
     have p1:=hp.number (false,e.a)
     have p2:=p1.acquire hT (false,e.a)
     have f2:=(hf.number (false,e.a)).acquire hT p1 (false,e.a)
     have f3:=f2.tick p2 ht om ⟨3,0,0,(number T (yL T e) (false,e.a)).1⟩
     exact⟨f3.1,fun hh=>by rw[hfk]at hh;omega⟩
    ·rw[if_neg k14]at hfk ⊢
     by_cases k15:e.kind=15
     ·rw[if_pos k15]at hfk ⊢
      rw[if_neg k11]at hfk
      have p1:=hp.number (false,e.a)
      have p3:=p1.tick ht om ⟨2,0,0,(number T (yL T e) (false,e.a)).1⟩
      have f3:=(hf.number (false,e.a)).tick p1 ht om ⟨2,0,0,(number T (yL T e) (false,e.a)).1⟩
      have f4:=f3.1.release (hT.mono om) p3 f3.2 (false,e.a)
      exact⟨f4,fun hh=>by rw[hfk]at hh;omega⟩
     ·rw[if_neg k15]at hfk ⊢
      rw[if_neg k11]at hfk
      have f3:=hf.tick hp ht om ⟨1,0,0,0⟩
      exact⟨f3.1,fun hh=>by rw[hfk]at hh;omega⟩
theorem qem{T:Th}{e:Ev}{p:Pl}{B:Int}(h:plan T e=some p)(hT:ThB T B)(hB:B+16<4611686018427387904)(htk:p.tk≠0){t x:Int}(h0:0<=t)(h8:t<8)(hx:Fv (qG T e p) t x) :
  Fw T e t x\/(t=e.th/\p.rel=true/\p.tk<=x):=by
 obtain⟨hf,hfr⟩:=qkS h hT hB
 have hpm:=YA h hT hB
 have hr:=zO h
 have ht:=vW hr
 have hp8:=QK h
 rcases hx with⟨u,u0,u8,hut,rfl⟩ | ⟨k,rfl⟩
 ·have own:t≠e.th->Fw T e t (zo p.own t):=fun hne=>hf.own t h0 h8 hne
  have old:∀ v,0<=v->v<8->v≠t->Fw T e t (zo (getC T.clocks v) t):=fun v v0 v8 hv=>.inl (.inl ⟨v,v0,v8,hv,rfl⟩)
  have hi:e.th.toNat<T.clocks.length:=by rw[hT.clocks];omega
  have g1:∀ v,getC (T.clocks.set e.th.toNat p.own) v=if v.toNat=e.th.toNat then p.own else getC T.clocks v:=fun v=>zP hi _ v
  have base:Fw T e t (zo (getC (T.clocks.set e.th.toNat p.own) u) t):=by
   rw[g1]
   split
   ·rename_i hue
    exact own om
   ·exact old u u0 u8 hut
  rw[zz]
  by_cases hfk:p.fork>=0
  ·rw[if_pos hfk,zP (by rw[List.length_set,hT.clocks];omega)]
   split
   ·rename_i huf
    have hl1:(getC (T.clocks.set e.th.toNat p.own) p.fork).length=8:=by
     rw[g1]
     split
     ·exact hpm.own.1
     ·exact(hT.getC p.fork).1
    have e1:getC (T.clocks.set e.th.toNat p.own) p.fork=getC (T.clocks.set e.th.toNat p.own) u:=by unfold getC;rw[huf]
    refine q3e hl1 hpm.own.1 (Q:=fun v=>Fw T e t v\/(t=e.th/\p.rel=true/\p.tk<=v)) (by rw[e1];exact .inl base) ?_
    by_cases hte:t=e.th
    ·right
     refine⟨hte,hfr hfk,?_⟩
     rw[hte]
     exact hpm.tk.2
    ·exact .inl (own hte)
   ·exact .inl base
  ·rw[if_neg hfk]
   exact .inl base
 ·rw[q0X hpm.nd]
  rcases hf.ob k t h0 h8 with h1 | ⟨h1,h2,h3,h4⟩
  ·exact .inl h1
  ·exact .inr ⟨h1,h2,h4⟩
theorem q10(T:Th)(e:Ev)(p:Pl):(qG T e p).rels=if p.rel then T.rels.set e.th.toNat (yk (zo T.rels e.th+1))else T.rels:=by
 unfold qG;simp only;split<;>split<;>split<;>rfl
def qX(l:List Ev)(n:Nat):Ev:=l.getD n default
def Zh(l:List Ev):Nat->Th
 | 0=>zi
 | n+1=>match plan (Zh l n) (qX l n)with
  | none=>Zh l n
  | some p=>qG (Zh l n) (qX l n) p
def pN(l:List Ev)(n:Nat):Pl:=(plan (Zh l n) (qX l n)).getD default
def Ok(l:List Ev)(N:Nat):Prop:=∀ n,n<N->plan (Zh l n) (qX l n)=some (pN l n)
abbrev vM(l:List Ev)(n:Nat)(t:Int):Int:=zo (Zh l n).rels t
theorem Ok.at{l:List Ev}{N n:Nat}(h:Ok l N)(hn:n<N):Zh l (n+1)=qG (Zh l n) (qX l n) (pN l n):=by
 rw[Zh,h n hn]
theorem YQ{l:List Ev}{N:Nat}(h:Ok l N)(hN:N<=20000):∀ n,n<=N->(∃ r tk,SR (Zh l n) r tk (16*n))/\ThB (Zh l n) (16*n)/\(Zh l n).rels.length=8
 | 0,_=>⟨⟨rr0,[],SR0⟩,⟨rfl,fun c hc=>by rw[List.eq_of_mem_replicate hc];exact CB.zero (Int.le_refl 0),fun q hq=>(by cases hq),Int.le_refl 0⟩,rfl⟩
 | n+1,hn=>by
  obtain⟨⟨r,tk,hs⟩,hT,hr⟩:=YQ h hN n om
  have hp:=h n om
  rw[h.at (by omega:n<N)]
  have e16:(16*((n+1:Nat):Int))=16*(n:Int)+16:=by omega
  rw[e16]
  refine⟨?_,qd9 hp hT om,?_⟩
  ·rcases Jt hs om (qX l n) 0 with⟨h1,_⟩ | ⟨p,r',tk',h1,_,h3⟩
   ·rw[hp]at h1;cases h1
   ·rw[hp]at h1
    cases h1
    exact⟨r',tk',h3.sr⟩
  ·rw[q10]
   split
   ·simp[hr]
   ·exact hr
theorem Ok.tk{l:List Ev}{N n:Nat}(h:Ok l N)(hN:N<=20000)(hn:n<N):1<=(pN l n).tk:=by
 obtain⟨⟨r,tk,hs⟩,_,_⟩:=YQ h hN n om
 rcases Jt hs om (qX l n) 0 with⟨h1,_⟩ | ⟨p,r',tk',h1,_,h3⟩
 ·rw[h n hn]at h1;cases h1
 ·rw[h n hn]at h1
  cases h1
  rw[h3.tkp]
  refine h3.sr.vi.pos _ ?_
  have:=List.length_pos_iff.2 h3.ne
  rw[h3.L,List.length_append]
  omega
theorem Ok.th{l:List Ev}{N n:Nat}(h:Ok l N)(hn:n<N):0<=(qX l n).th/\(qX l n).th<8:=vW (zO (h n hn))
theorem qA0{c:List Int}{i:Nat}(hi:i<c.length)(x t:Int):zo (c.set i x) t=if t.toNat=i then x else zo c t:=qfa hi x t
theorem q5o{l:List Ev}{N n:Nat}(h:Ok l N)(hN:N<=20000)(hn:n<N)(t:Int)(hb:0<=vM l n t/\vM l n t<=n) :
  vM l (n+1) t=if(pN l n).rel=true/\t.toNat=(qX l n).th.toNat then vM l n t+1 else vM l n t:=by
 obtain⟨_,_,hr⟩:=YQ h hN n om
 have ht:=h.th hn
 unfold vM
 rw[h.at hn,q10]
 by_cases hrel:(pN l n).rel=true
 ·rw[if_pos hrel,qA0 (by rw[hr];omega)]
  by_cases he:t.toNat=(qX l n).th.toNat
  ·rw[if_pos he,if_pos ⟨hrel,he⟩]
   have e1:zo (Zh l n).rels (qX l n).th=zo (Zh l n).rels t:=qjd he.symm
   rw[e1]
   unfold vM at hb
   rw[zV om om]
  ·rw[if_neg he,if_neg (fun hh=>he hh.2)]
 ·rw[if_neg hrel,if_neg (fun hh=>hrel hh.1)]
theorem VZ{l:List Ev}{N:Nat}(h:Ok l N)(hN:N<=20000)(t:Int):∀ n,n<=N->0<=vM l n t/\vM l n t<=n
 | 0,_=>by
  have:vM l 0 t=0:=by
   show(List.replicate 8 (0:Int)).getD t.toNat 0=0
   simp only[List.getD,List.getElem?_replicate]
   split<;>rfl
  rw[this]
  decide
 | n+1,hn=>by
  have ih:=VZ h hN t n om
  rw[q5o h hN om t ih]
  split<;>omega
theorem qc0{l:List Ev}{N:Nat}(h:Ok l N)(hN:N<=20000)(t:Int){k:Nat}:∀ {n},k<=n->n<=N->vM l k t<=vM l n t
 | 0,hk,_=>by rw[show k=0 by omega];exact Int.le_refl _
 | n+1,hk,hn=>by
  by_cases he:k=n+1
  ·rw[he];exact Int.le_refl _
  ·have ih:=qc0 h hN t (k:=k) (n:=n) om om
   rw[q5o (n:=n) h hN om t (VZ h hN t n om)]
   split<;>omega
abbrev q73(l:List Ev)(n:Nat)(t:Int):Int:=zo (getC (Zh l n).clocks t) t
theorem qyw{l:List Ev}{N n:Nat}(h:Ok l N)(hN:N<=20000)(hn:n<N)(t:Int):q73 l n t<=q73 l (n+1) t:=by
 obtain⟨_,hT,_⟩:=YQ h hN n om
 unfold q73
 rw[h.at hn]
 exact q9w (h n hn) hT om t t
theorem qcP{l:List Ev}{N:Nat}(h:Ok l N)(hN:N<=20000)(t:Int){k:Nat}:∀ {n},k<=n->n<=N->q73 l k t<=q73 l n t
 | 0,hk,_=>by rw[show k=0 by omega];exact Int.le_refl _
 | n+1,hk,hn=>by
  by_cases he:k=n+1
  ·rw[he];exact Int.le_refl _
  ·exact Int.le_trans (qcP h hN t (n:=n) om om) (qyw h hN om t)
theorem qtE{l:List Ev}{N k n:Nat}(h:Ok l N)(hN:N<=20000)(hk:k<n)(hn:n<=N):(pN l k).tk<=q73 l n (qX l k).th:=by
 obtain⟨_,hT,_⟩:=YQ h hN k om
 refine Int.le_trans ?_ (qcP h hN _ (k:=k+1) (n:=n) om hn)
 unfold q73
 rw[h.at (by omega:k<N)]
 exact Int.le_trans (YA (h k om) hT om).tk.2 (qcd (h k om) hT om _)
theorem qtV{l:List Ev}{N k:Nat}(h:Ok l N)(hN:N<=20000)(hk:k<N):q73 l k (qX l k).th<(pN l k).tk:=by
 obtain⟨_,hT,_⟩:=YQ h hN k om
 have h1:=h.tk hN hk
 rcases(qkS (h k hk) hT om).1.tk with h2 | h2
 ·omega
 ·exact h2.1
theorem qHs{l:List Ev}{N n:Nat}(h:Ok l N)(hN:N<=20000)(hn:n<=N){t x:Int}(h0:0<=t)(h8:t<8)(hx:Fv (Zh l n) t x):x<=q73 l n t:=by
 obtain⟨⟨r,tk,hs⟩,_,_⟩:=YQ h hN n hn
 rcases hx with⟨u,u0,u8,_,rfl⟩ | ⟨k,rfl⟩
 ·exact hs.vi.mT u t u0 u8 h0 h8
 ·exact hs.vi.mO k t h0 h8
theorem sep{l:List Ev}{N:Nat}(h:Ok l N)(hN:N<=20000):∀ n,n<=N->∀ k,k<n->∀ x,Fv (Zh l n) (qX l k).th x->
  (x<(pN l k).tk\/∀ k',k<=k'->k'<n->(qX l k').th=(qX l k).th->vM l k' (qX l k).th=vM l k (qX l k).th->(pN l k').tk<=x)/\
  (vM l k (qX l k).th=vM l n (qX l k).th->x<(pN l k).tk\/zb (Zh l n).ended (qX l k).th=true)
 | 0,_,k,hk,_,_=>absurd hk (Nat.not_lt_zero k)
 | n+1,hn,k,hk,x,hx=>by
  have ih:=sep h hN n om
  obtain⟨_,hT,_⟩:=YQ h hN n om
  have hp:=h n om
  have htk:=h.th (by omega:k<N)
  have htn:=h.th (by omega:n<N)
  have htk1:=h.tk hN (by omega:n<N)
  have hbk:=VZ h hN (qX l k).th n om
  have hst:=q5o h hN (by omega:n<N) (qX l k).th hbk
  have hlive:zb (Zh l n).ended (qX l n).th=false:=by
   have hr:=zO hp
   unfold zw at hr
   simp only[Bool.or_eq_false_iff]at hr
   exact hr.1.1.2
  have hmk:∀ m,k<=m->m<=N->vM l k (qX l k).th<=vM l m (qX l k).th:=fun m h1 h2=>qc0 h hN _ h1 h2
  rw[h.at (by omega:n<N)]at hx
  have hx:=qem hp hT om om htk.1 htk.2 hx
  rcases hx with(hx | ⟨h13,hte,hxc⟩) | ⟨hte,hrel,hle⟩
  ·-- known before
   by_cases hkn:k<n
   ·obtain⟨i1,i2⟩:=ih k hkn x hx
    constructor
    ·rcases i1 with i1 | i1
     ·exact .inl i1
     ·by_cases hcur:(qX l n).th=(qX l k).th/\vM l n (qX l k).th=vM l k (qX l k).th
      ·rcases i2 hcur.2.symm with i2 | i2
       ·exact .inl i2
       ·rw[<-hcur.1,hlive]at i2;cases i2
      ·right
       intro k' h1 h2 h3 h4
       by_cases hk':k'=n
       ·subst hk';exact absurd ⟨h3,h4⟩ hcur
       ·exact i1 k' h1 om h3 h4
    ·intro he
     have h1:=hmk n om om
     have h2:vM l k (qX l k).th=vM l n (qX l k).th:=by
      rw[hst]at he
      split at he<;>omega
     rcases i2 h2 with i2 | i2
     ·exact .inl i2
     ·right
      rw[h.at (by omega:n<N),JK]
      split
      ·exact q5C i2
      ·exact i2
   ·have hkn:k=n:=by omega
    subst hkn
    have h1:=qHs h hN (by omega:k<=N) htk.1 htk.2 hx
    have h2:=qtV h hN (by omega:k<N)
    exact⟨.inl om,fun _=>.inl om⟩
  ·-- it has ended
   have hb:=Jl hp
   have hne:(qX l n).n≠(qX l n).th:=by
    unfold q8p at hb
    rw[if_neg om,if_pos h13,Bool.or_eq_false_iff]at hb
    simpa using hb.2
   have hkn:k<n:=by
    by_cases he:k=n
    ·subst he;exact absurd hte.symm hne
    ·omega
   constructor
   ·right
    intro k' h1 h2 h3 h4
    have hk':k'<n:=by
     by_cases he:k'=n
     ·subst he;rw[h3]at hne;exact absurd hte.symm hne
     ·omega
    have:=qtE h hN hk' (by omega:n<=N)
    rw[h3]at this
    rw[hxc]
    exact this
   ·intro _
    right
    obtain⟨_,hpe,_⟩:=Yc hp
    have hends:=(VL hb).2
    rw[if_pos h13,<-hpe]at hends
    have hn0:0<=(qX l n).n/\(qX l n).n<8:=by omega
    rw[h.at (by omega:n<N),JK,hends,if_pos hn0.1,hte]
    obtain⟨⟨r,tk,hs⟩,_,_⟩:=YQ h hN n om
    unfold zb
    rw[List.getD_eq_getElem?_getD,List.getElem?_set_self (by rw[hs.el];omega)]
    rfl
  ·-- it has released
   have hlow:∀ k',k'<=n->(qX l k').th=(qX l k).th->(pN l k').tk<=x:=by
    intro k' h1 h2
    by_cases he:k'=n
    ·rw[he];exact hle
    ·have h3:=qtE h hN (by omega:k'<n) (by omega:n<=N)
     have h4:=qtV h hN (by omega:n<N)
     rw[<-hte,<-h2]at h4
     omega
   refine⟨.inr fun k' h1 h2 h3 h4=>hlow k' om h3,fun he=>?_⟩
   exfalso
   rw[hst,if_pos ⟨hrel,by rw[hte]⟩]at he
   have:=hmk n om om
   omega
theorem q8r{T:Th}{e:Ev}{p:Pl}{B:Int}(h:plan T e=some p)(hT:ThB T B)(hB:B+16<4611686018427387904)(t:Int):zo (getC (qG T e p).clocks e.th) t=zo p.own t:=by
 have hp:=YA h hT hB
 have ht:=vW (zO h)
 have hi:e.th.toNat<T.clocks.length:=by rw[hT.clocks];omega
 rw[zz]
 split
 ·rw[zP (by rw[List.length_set,hT.clocks];have:=(QK h).1;omega)]
  split
  ·rename_i hf
   have:getC (T.clocks.set e.th.toNat p.own) p.fork=p.own:=by rw[zP hi,if_pos hf.symm]
   rw[this,Qj hp.own.1 hp.own.1]
   split<;>rfl
  ·rw[zP hi,if_pos rfl]
 ·rw[zP hi,if_pos rfl]
theorem qCr{l:List Ev}{N:Nat}(h:Ok l N)(hN:N<=20000){k k' j:Nat}(hk:k<=k')(hk':k'<j)(hj:j<N)(ht:(qX l k').th=(qX l k).th)(hr:vM l k' (qX l k).th=vM l k (qX l k).th)(hne:(qX l j).th≠(qX l k).th) :
  zo (pN l j).own (qX l k).th<(pN l k).tk\/(pN l k').tk<=zo (pN l j).own (qX l k).th:=by
 obtain⟨_,hT,_⟩:=YQ h hN j om
 have htj:=h.th hj
 have hx:Fv (Zh l (j+1)) (qX l k).th (zo (pN l j).own (qX l k).th):=by
  left
  refine⟨(qX l j).th,htj.1,htj.2,hne,?_⟩
  rw[h.at hj,q8r (h j hj) hT om]
 rcases(sep h hN (j+1) om k om _ hx).1 with h1 | h1
 ·exact .inl h1
 ·exact .inr (h1 k' hk om ht hr)
theorem ZU{a:Qk}{tk rel:Int}{ts:List (Int × Bool)}:∀ {bs:List Int} {cs:List (Int × vl)},bs.Nodup->∀ b,qr (yy a tk rel ts bs cs) b =
  if b∈bs then some (if(qr ts b).getD false then(qr cs b).getD yI else((qr cs b).getD yI).remember a tk rel)else qr cs b
 | [],cs,_,b=>by simp[yy]
 | x::r,cs,hn,b=>by
  rw[List.nodup_cons]at hn
  have key:∀ cs',(∀ y,y≠x->qr cs' y=qr cs y)->qr cs' x=some (if(qr ts x).getD false then(qr cs x).getD yI else((qr cs x).getD yI).remember a tk rel)->
    qr (yy a tk rel ts r cs') b=if b∈x::r then some (if(qr ts b).getD false then(qr cs b).getD yI else((qr cs b).getD yI).remember a tk rel)else qr cs b:=by
   intro cs' h1 h2
   rw[ZU hn.2 b]
   by_cases hb:b=x
   ·subst hb
    rw[if_neg hn.1,if_pos (show b∈b::r by simp),h2]
   ·by_cases hr:b∈r
    ·rw[if_pos hr,if_pos (show b∈x::r by simp[hr]),h1 b hb]
    ·rw[if_neg hr,if_neg (show ¬ b∈x::r by simp[hr,hb]),h1 b hb]
  unfold yy
  refine key _ (fun y hy=>?_) ?_
  ·split
   ·split
    ·rw[vD,if_neg hy]
    ·rfl
   ·rw[vD,if_neg hy]
  ·by_cases ht:(qr ts x).getD false=true
   ·rw[if_pos ht,if_pos ht]
    cases hl:qr cs x with
    | none=>simp only[vD,if_pos];rfl
    | some c=>simp only[hl,Option.getD_some]
   ·rw[if_neg ht,if_neg ht,vD,if_pos rfl]
theorem q0i:∀ (out:List qQ) (cs:List (Int × vl)) (ts:List (Int × Bool)) (b:Int),(¬ b∈out.map (·.byte)->qr (yB out cs ts).1 b=qr cs b)/\(b∈out.map (·.byte)->(qr (yB out cs ts).1 b).isSome=true)
 | [],cs,ts,b=>by simp[yB]
 | x::r,cs,ts,b=>by
  have ih:=q0i r (put cs x.byte { (qr cs x.byte).getD yI with l:=[] }) (put ts x.byte true) b
  unfold yB
  constructor
  ·intro hb
   simp only[List.map_cons,List.mem_cons,not_or]at hb
   rw[ih.1 hb.2,vD,if_neg hb.1]
  ·intro hb
   by_cases hr:b∈r.map (·.byte)
   ·exact ih.2 hr
   ·rw[ih.1 hr]
    have:b=x.byte:=by
     rcases List.mem_cons.1 hb with h | h
     ·exact h
     ·exact absurd h hr
    rw[vD,if_pos this]
    rfl
def Vz(d:VO)(a:Qk)(own:vj)(b:Int):Option qQ:=if(qr d.told b).getD false then none else match qr d.cells b with
 | none=>none
 | some c=>(c.race a own).map fun x=>⟨b,x,a⟩
theorem q17{d:VO}{a:Qk}{own:vj}:∀ (bs:List Int) (out:List qQ) (n:Int),0<=n->(d.cells.length:Int)+n+bs.length<=20000->(∀ b,(qr d.told b).getD false=true->(qr d.cells b).isSome=true)->
  jq d a own bs out n=some (out++bs.filterMap (Vz d a own))
 | [],out,n,_,_,_=>by simp[jq]
 | b::r,out,n,h0,hn,ht=>by
  simp only[List.length_cons]at hn
  unfold jq
  rw[List.filterMap_cons]
  cases hc:qr d.cells b with
  | none=>
   have hf:¬ (qr d.told b).getD false=true:=fun h=>by have:=ht b h;rw[hc]at this;cases this
   have e1:yk (n+1)=n+1:=zV om om
   have e2:Vz d a own b=none:=by unfold Vz;rw[if_neg hf,hc]
   rw[e2]
   simp only
   rw[e1,zV om om,if_neg om]
   exact q17 r out (n+1) om om ht
  | some c=>
   simp only
   by_cases hf:(qr d.told b).getD false=true
   ·have e2:Vz d a own b=none:=by unfold Vz;rw[if_pos hf]
    rw[if_pos hf,e2]
    exact q17 r out n h0 om ht
   ·rw[if_neg hf]
    cases hr:c.race a own with
    | none=>
     have e2:Vz d a own b=none:=by unfold Vz;rw[if_neg hf,hc];simp[hr]
     rw[e2]
     exact q17 r out n h0 om ht
    | some x=>
     have e2:Vz d a own b=some ⟨b,x,a⟩:=by unfold Vz;rw[if_neg hf,hc];simp[hr]
     rw[e2]
     simp only
     rw[q17 r _ n h0 om ht]
     simp
theorem jw{α β:Type}{f g:α->Option β}:∀ {l:List α},(∀ x∈l,f x=g x)->l.filterMap f=l.filterMap g
 | [],_=>rfl
 | x::t,h=>by
  rw[List.filterMap_cons,List.filterMap_cons,h x (by simp),jw fun y hy=>h y (by simp[hy])]
theorem q7l(e:Ev):zl e=(sto e,e.kind==4,acs e):=by
 unfold zl acs ld sto
 by_cases h2:e.kind=2\/e.kind=23
 ·rw[if_pos h2]
  rcases h2 with h2 | h2<;>simp[h2]
 ·rw[if_neg h2]
  by_cases h3:e.kind=3\/e.kind=22
  ·rw[if_pos h3]
   rcases h3 with h3 | h3<;>simp[h3]
  ·rw[if_neg h3]
   by_cases h4:e.kind=4
   ·rw[if_pos h4];simp[h4]
   ·rw[if_neg h4]
    simp only[not_or]at h2 h3
    simp[h2,h3,h4]
theorem jD(x:Int):jE x=x % 4294967296:=by unfold jE;simp only[IntKind.wrap,IntKind.bits,IntKind.signed];simp
theorem qmz{e:Ev}{b:Int}(hn:e.n<=65536)(h0:0<=b)(hb:b<4294967296):has e b=true↔acs e=true/\b∈bytes e.a e.n:=by
 unfold has bytes
 rw[Bool.and_eq_true,decide_eq_true_iff]
 refine and_congr_right fun _=>?_
 have h1:0<=jE (b-e.a)/\jE (b-e.a)<4294967296:=by rw[jD];omega
 rw[zV om om,List.mem_map]
 constructor
 ·intro h
  refine⟨(jE (b-e.a)).toNat,by simp;omega,?_⟩
  have h2:(((jE (b-e.a)).toNat:Nat):Int)=jE (b-e.a):=by omega
  rw[h2,jD,jD,jD]
  omega
 ·rintro⟨i,hi,he⟩
  have hi:i<e.n.toNat:=by simpa using hi
  rw[jD,jD]at he
  rw[jD]
  omega
theorem q9W{d:VO}{e:Ev}{n:Nat}(h:d.many=n):jI d e=yi e n:=by
 unfold jI yi
 rw[q7l,h]
theorem qaq(a n:Int):∀ b∈bytes a n,0<=b/\b<4294967296:=by
 intro b hb
 obtain⟨i,_,rfl⟩:=List.mem_map.1 hb
 rw[jD]
 omega
def Rc(l:List Ev)(b:Int)(i j:Nat):Prop:=has (qX l i) b=true/\has (qX l j) b=true/\zE (yi (qX l i) i) (yi (qX l j) j)=true/\zo (pN l j).own (qX l i).th<(pN l i).tk
instance (l:List Ev) (b:Int) (i j:Nat):Decidable (Rc l b i j):=by unfold Rc;infer_instance
def prR(l:List Ev)(b:Int)(i j:Nat):Option qQ:=if Rc l b i j then some ⟨b,yi (qX l i) i,yi (qX l j) j⟩else none
def Yv(l:List Ev)(b:Int)(j:Nat):List qQ:=(List.range j).filterMap fun i=>prR l b i j
def QT(l:List Ev)(b:Int)(n:Nat):List qQ:=(List.range n).flatMap fun j=>Yv l b j
theorem jP(l:List Ev)(b:Int)(n:Nat):QT l b (n+1)=QT l b n++Yv l b n:=by
 unfold QT
 rw[List.range_succ,List.flatMap_append]
 simp
abbrev QP(l:List Ev)(k:Nat):q2D:=⟨yi (qX l k) k,(pN l k).tk⟩
structure CI (l:List Ev) (b:Int) (n:Nat) (c:vl):Prop where
 mem:∀ p∈c.l,∃ k,k<n/\has (qX l k) b=true/\p=QP l k
 ord:c.l.Pairwise fun p q=>p.acc.ev<q.acc.ev
 cov:∀ k,k<n->has (qX l k) b=true->∃ k',k'<=k/\QP l k'∈c.l/\(qX l k').th=(qX l k).th/\kind (yi (qX l k') k')=kind (yi (qX l k) k)/\vM l k' (qX l k').th=vM l k (qX l k').th
 last:∀ t kd:Nat,t<8->kd<3->c.last.getD (t*3+kd) 0=0\/∃ k',k'<n/\QP l k'∈c.l/\(qX l k').th=(t:Int)/\kind (yi (qX l k') k')=(kd:Int)/\c.last.getD (t*3+kd) 0=vM l k' (t:Int)+1
 len:c.last.length=24
theorem CI.zero(l:List Ev)(b:Int){n:Nat}(h:∀ k,k<n->has (qX l k) b=false):CI l b n yI:=by
 refine⟨by simp[yI],by simp[yI],fun k hk hh=>?_,fun t kd ht hkd=>?_,rfl⟩
 ·rw[h k hk]at hh;cases hh
 ·left
  show(List.replicate 24 (0:Int)).getD _ 0=0
  simp only[List.getD,List.getElem?_replicate]
  split<;>rfl
theorem CI.skip{l:List Ev}{b:Int}{n:Nat}{c:vl}(h:CI l b n c)(hn:has (qX l n) b=false):CI l b (n+1) c:=by
 refine⟨fun p hp=>?_,h.ord,fun k hk hh=>?_,fun t kd ht hkd=>?_,h.len⟩
 ·obtain⟨k,h1,h2⟩:=h.mem p hp
  exact⟨k,by omega,h2⟩
 ·by_cases hkn:k=n
  ·rw[hkn,hn]at hh;cases hh
  ·exact h.cov k om hh
 ·rcases h.last t kd ht hkd with h1 | ⟨k',h1,h2⟩
  ·exact .inl h1
  ·exact .inr ⟨k',by omega,h2⟩
theorem qcN{l:List Int}{i:Nat}{x:Int}(h:i<l.length):(l.set i x).getD i 0=x:=by
 simp[List.getD,h]
theorem qfO(a:Qk):0<=kind a/\kind a<3:=by unfold kind;split<;>(try split)<;>omega
theorem CI.rem{l:List Ev}{N:Nat}(hok:Ok l N)(hN:N<=20000){b:Int}{n:Nat}{c:vl}(h:CI l b n c)(hnN:n<N)(hn:has (qX l n) b=true):CI l b (n+1) (c.remember (yi (qX l n) n) (pN l n).tk (vM l n (qX l n).th)):=by
 have ht:=hok.th hnN
 have hk:=qfO (yi (qX l n) n)
 have hb:=VZ hok hN (qX l n).th n om
 have hth:(yi (qX l n) n).th=(qX l n).th:=rfl
 have et:(((qX l n).th.toNat:Nat):Int)=(qX l n).th:=by omega
 have ek:(((kind (yi (qX l n) n)).toNat:Nat):Int)=kind (yi (qX l n) n):=by omega
 unfold vl.remember
 simp only[hth]
 rw[zV om om]
 by_cases hl:c.last.getD ((qX l n).th.toNat*3+(kind (yi (qX l n) n)).toNat) 0=vM l n (qX l n).th+1
 ·rw[if_pos hl]
  refine⟨fun p hp=>?_,h.ord,fun k hkn hh=>?_,fun t kd ht hkd=>?_,h.len⟩
  ·obtain⟨k,h1,h2⟩:=h.mem p hp
   exact⟨k,by omega,h2⟩
  ·by_cases hke:k=n
   ·subst hke
    rcases h.last (qX l k).th.toNat (kind (yi (qX l k) k)).toNat om om with h1 | ⟨k',h1,h2,h3,h4,h5⟩
    ·rw[hl]at h1;omega
    ·rw[et]at h3 h5
     rw[ek]at h4
     rw[hl]at h5
     exact⟨k',by omega,h2,h3,h4,by rw[h3];omega⟩
   ·exact h.cov k om hh
  ·rcases h.last t kd ht hkd with h1 | ⟨k',h1,h2⟩
   ·exact .inl h1
   ·exact .inr ⟨k',by omega,h2⟩
 ·rw[if_neg hl]
  refine⟨fun p hp=>?_,?_,fun k hkn hh=>?_,fun t kd ht8 hkd=>?_,?_⟩
  ·rcases List.mem_append.1 hp with hp | hp
   ·obtain⟨k,h1,h2⟩:=h.mem p hp
    exact⟨k,by omega,h2⟩
   ·exact⟨n,by omega,hn,by simpa using hp⟩
  ·refine List.pairwise_append.2 ⟨h.ord,by simp,fun p hp q hq=>?_⟩
   obtain⟨k,h1,_,rfl⟩:=h.mem p hp
   have:q=QP l n:=by simpa using hq
   rw[this]
   show(k:Int)<(n:Int)
   omega
  ·by_cases hke:k=n
   ·subst hke
    exact⟨k,Nat.le_refl k,List.mem_append_right _ (by simp),rfl,rfl,rfl⟩
   ·obtain⟨k',h1,h2,h3⟩:=h.cov k om hh
    exact⟨k',h1,List.mem_append_left _ h2,h3⟩
  ·have hlen:=h.len
   show(c.last.set _ _).getD _ 0=0\/∃ k',_/\_/\_/\_/\(c.last.set _ _).getD _ 0=_
   by_cases he:t*3+kd=(qX l n).th.toNat*3+(kind (yi (qX l n) n)).toNat
   ·have h1:t=(qX l n).th.toNat:=by omega
    have h2:kd=(kind (yi (qX l n) n)).toNat:=by omega
    right
    refine⟨n,by omega,List.mem_append_right _ (by simp),by omega,by omega,?_⟩
    rw[he,qcN om,h1,et]
   ·have e1:(c.last.set ((qX l n).th.toNat*3+(kind (yi (qX l n) n)).toNat) (vM l n (qX l n).th+1)).getD (t*3+kd) 0=c.last.getD (t*3+kd) 0:=by
     simp only[List.getD,List.getElem?_set_ne (Ne.symm he)]
    rw[e1]
    rcases h.last t kd ht8 hkd with h1 | ⟨k',h1,h2,h3⟩
    ·exact .inl h1
    ·exact .inr ⟨k',by omega,List.mem_append_left _ h2,h3⟩
  ·show(c.last.set _ _).length=24
   rw[List.length_set];exact h.len
theorem qnM{e e':Ev}{i i':Int}(h:kind (yi e i)=kind (yi e' i')):sto e=sto e'/\(e.kind==4)=(e'.kind==4):=by
 have hs:∀ e:Ev,(e.kind==4)=true->sto e=true:=fun e h=>by unfold sto;simp[h]
 unfold kind yi at h
 simp only at h
 cases h4:(e.kind==4)<;>cases h4':(e'.kind==4)
 ·rw[h4,h4']at h
  simp only[Bool.false_eq_true,if_false]at h
  cases hs1:sto e<;>cases hs2:sto e'<;>rw[hs1,hs2]at h<;>simp at h ⊢
 ·rw[h4,h4']at h
  simp only[Bool.false_eq_true,if_false,if_true]at h
  split at h<;>omega
 ·rw[h4,h4']at h
  simp only[Bool.false_eq_true,if_false,if_true]at h
  split at h<;>omega
 ·exact⟨by rw[hs e h4,hs e' h4'],rfl⟩
theorem q9Y{i n:Nat}(h:i<n):List.range n=List.range i++i::List.range' (i+1) (n-(i+1)):=by
 rw[List.range_eq_range',List.range_eq_range',<-List.range'_succ]
 have:=@List.range'_append 0 i (n-(i+1)+1) 1
 rw[show i+(n-(i+1)+1)=n by omega]at this
 rw[<-this]
 simp
theorem qfn{l:List Ev}{N:Nat}(hok:Ok l N)(hN:N<=20000){b:Int}{n:Nat}{c:vl}(h:CI l b n c)(hnN:n<N)(hn:has (qX l n) b=true) :
  (c.race (yi (qX l n) n) (pN l n).own).map (fun x=>(⟨b,x,yi (qX l n) n⟩:qQ))=(Yv l b n).head?:=by
 have back:∀ i,i<n->Rc l b i n->∃ k',k'<=i/\QP l k'∈c.l/\Rc l b k' n:=by
  rintro i hi ⟨r1,r2,r3,r4⟩
  obtain⟨k',h1,h2,h3,h4,h5⟩:=h.cov i hi r1
  obtain⟨k2,q1,q2,q3⟩:=h.mem _ h2
  have hk2:k2=k':=by
   have:(QP l k').acc.ev=(QP l k2).acc.ev:=by rw[q3]
   have:(k':Int)=(k2:Int):=this
   omega
  subst hk2
  obtain⟨s1,s2⟩:=qnM h4
  refine⟨k2,h1,h2,q2,r2,?_,?_⟩
  ·unfold zE yi at r3 ⊢
   simp only at r3 ⊢
   rw[h3,s1,s2]
   exact r3
  ·have hne:(qX l n).th≠(qX l k2).th:=by
    unfold zE yi at r3
    simp only[Bool.and_eq_true,bne_iff_ne]at r3
    rw[h3]
    exact Ne.symm r3.1.1
   rcases qCr hok hN h1 hi hnN h3.symm h5.symm hne with h6 | h6
   ·exact h6
   ·rw[h3]at h6
    omega
 have good:∀ k,has (qX l k) b=true->(Rc l b k n↔(zE (QP l k).acc (yi (qX l n) n)&&decide (zo (pN l n).own (QP l k).acc.th<(QP l k).tick))=true):=by
  intro k hk
  rw[Bool.and_eq_true,decide_eq_true_iff]
  exact⟨fun hh=>⟨hh.2.2.1,hh.2.2.2⟩,fun hh=>⟨hk,hn,hh.1,hh.2⟩⟩
 unfold Yv vl.race
 rw[List.head?_filterMap]
 cases hf:c.l.find? fun p=>zE p.acc (yi (qX l n) n)&&decide (zo (pN l n).own p.acc.th<p.tick)with
 | none=>
  rw[List.find?_eq_none]at hf
  symm
  simp only[Option.map_none]
  rw[List.findSome?_eq_none_iff]
  intro i hi
  have hi:i<n:=by simpa using hi
  unfold prR
  rw[if_neg]
  intro hr
  obtain⟨k',h1,h2,h3⟩:=back i hi hr
  exact hf _ h2 ((good k' h3.1).1 h3)
 | some p=>
  obtain⟨hp,l1,l2,hl,has'⟩:=List.find?_eq_some_iff_append.1 hf
  obtain⟨i,hi,hib,rfl⟩:=h.mem p (by rw[hl];simp)
  have hr:Rc l b i n:=(good i hib).2 hp
  have hmin:∀ i',i'<i->¬ Rc l b i' n:=by
   intro i' hi' hr'
   obtain⟨k',h1,h2,h3⟩:=back i' om hr'
   have hord:=h.ord
   rw[hl]at h2 hord
   have hq:=(good k' h3.1).1 h3
   rcases List.mem_append.1 h2 with h2 | h2
   ·have:=has' _ h2
    rw[hq]at this
    cases this
   ·rcases List.mem_cons.1 h2 with h2 | h2
    ·have:(QP l k').acc.ev=(QP l i).acc.ev:=by rw[h2]
     have:(k':Int)=(i:Int):=this
     omega
    ·have:=(List.pairwise_cons.1 (List.pairwise_append.1 hord).2.1).1 _ h2
     have:(i:Int)<(k':Int):=this
     omega
  symm
  simp only[Option.map_some]
  rw[List.findSome?_eq_some_iff]
  refine⟨List.range i,i,(List.range' (i+1) (n-(i+1))),?_,?_,?_⟩
  ·exact q9Y hi
  ·unfold prR
   rw[if_pos hr]
  ·intro i' hi'
   have hi':i'<i:=by simpa using hi'
   unfold prR
   rw[if_neg (hmin i' hi')]
def Qz(l:List Ev):Nat->Nat
 | 0=>0
 | n+1=>Qz l n+Qb (qX l n)
def Ql(e:Ev):List Int:=if acs e then bytes e.a e.n else[]
structure DI (l:List Ev) (n:Nat) (d:VO):Prop where
 th:d.th=Zh l n
 many:d.many=n
 told:∀ b,0<=b->b<4294967296->((qr d.told b).getD false=true↔QT l b n≠[])
 key:∀ b,0<=b->b<4294967296->((qr d.cells b).isSome=true↔∃ k,k<n/\has (qX l k) b=true)
 cell:∀ b c,0<=b->b<4294967296->(qr d.told b).getD false=false->qr d.cells b=some c->CI l b n c
 kr:∀ b,(qr d.cells b).isSome=true->0<=b/\b<4294967296
 tr:∀ b,(qr d.told b).getD false=true->0<=b/\b<4294967296
 clen:d.cells.length<=Qz l n
 tlen:d.told.length<=Qz l n
theorem q8b{K V:Type} [DecidableEq K] {m:List (K × V)} {k:K} {v:V} (h:(qr m k).isSome=true):(put m k v).length=m.length:=by
 unfold put
 cases hl:qr m k with
 | none=>rw[hl]at h;cases h
 | some u=>simp
theorem q6x:∀ (out:List qQ) (cs:List (Int × vl)) (ts:List (Int × Bool)),(∀ x∈out,(qr cs x.byte).isSome=true)->(yB out cs ts).1.length=cs.length
 | [],cs,ts,_=>rfl
 | x::r,cs,ts,h=>by
  unfold yB
  rw[q6x r _ _ (fun y hy=>?_),q8b (h x (by simp))]
  rw[vD]
  split
  ·rfl
  ·exact h y (by simp[hy])
theorem q6l:∀ (out:List qQ) (cs:List (Int × vl)) (ts:List (Int × Bool)),(yB out cs ts).2.length<=ts.length+out.length
 | [],cs,ts=>by simp[yB]
 | x::r,cs,ts=>by
  unfold yB
  refine Nat.le_trans (q6l r _ _) ?_
  have h2:=q7P ts x.byte true
  simp only[List.length_cons]
  omega
theorem Ve{l:List Ev}{b:Int}{j:Nat}{r:qQ}(h:r∈Yv l b j):∃ i,i<j/\Rc l b i j/\r=⟨b,yi (qX l i) i,yi (qX l j) j⟩:=by
 unfold Yv at h
 obtain⟨i,hi,hr⟩:=List.mem_filterMap.1 h
 unfold prR at hr
 split at hr
 ·rename_i hrc
  cases hr
  exact⟨i,by simpa using hi,hrc,rfl⟩
 ·cases hr
theorem qad{l:List Ev}{b:Int}{j:Nat}(h:∀ i,i<j->¬ Rc l b i j):Yv l b j=[]:=by
 rw[List.eq_nil_iff_forall_not_mem]
 intro r hr
 obtain⟨i,hi,hrc,_⟩:=Ve hr
 exact h i hi hrc
def q4t(l:List Ev)(n:Nat)(b:Int):Option qQ:=if QT l b n=[]then(Yv l b n).head? else none
theorem q1H{l:List Ev}{n:Nat}{b:Int}{r:qQ}(h:q4t l n b=some r):r.byte=b/\QT l b n=[]/\Yv l b n≠[]:=by
 unfold q4t at h
 split at h
 ·rename_i hr
  have hm:=List.mem_of_mem_head? h
  obtain⟨i,_,_,rfl⟩:=Ve hm
  exact⟨rfl,hr,fun hn=>by rw[hn]at hm;cases hm⟩
 ·cases h
theorem qjW{l:List Ev}{N n:Nat}(hok:Ok l N)(hn:n<N)(ha:acs (qX l n)=true):0<=(qX l n).n/\(qX l n).n<=65536:=by
 refine Jm (zO (hok n hn)) ?_
 rw[q7l];exact ha
theorem YG{l:List Ev}{N n:Nat}(hok:Ok l N)(hn:n<N){b:Int}(h0:0<=b)(hb:b<4294967296):b∈Ql (qX l n)↔has (qX l n) b=true:=by
 unfold Ql
 cases ha:acs (qX l n)
 ·simp[has,ha]
 ·rw[qmz (qjW hok hn ha).2 h0 hb,ha]
  simp
theorem ZW{e:Ev}:∀ b∈Ql e,0<=b/\b<4294967296:=by
 intro b hb
 unfold Ql at hb
 split at hb
 ·exact qaq _ _ b hb
 ·cases hb
theorem q6v{l:List Ev}{N n:Nat}(hok:Ok l N)(hn:n<N):(Ql (qX l n)).Nodup:=by
 unfold Ql
 split
 ·rename_i ha
  exact q2f (qjW hok hn ha).2
 ·exact List.nodup_nil
theorem q91(e:Ev):(Ql e).length=Qb e:=by
 unfold Ql Qb
 rw[q7l]
 dsimp only
 split<;>simp[bytes]
theorem DI.step{l:List Ev}{N n:Nat}{d:VO}(hok:Ok l N)(hN:N<=20000)(h:DI l n d)(hn:n<N)(htot:Qz l (n+1)<=1000) :
  ∃ d',feed d (qX l n)=(d',.inl ((Ql (qX l n)).filterMap (q4t l n)))/\DI l (n+1) d':=by
 have hp:=hok n hn
 have hbl:=q91 (qX l n)
 have hcl:=h.clen
 have htl:=h.tlen
 simp only[Qz]at htot
 have hbs:(if(zl (qX l n)).2.2 then bytes (qX l n).a (qX l n).n else[])=Ql (qX l n):=by rw[q7l];rfl
 have htc:∀ b,(qr d.told b).getD false=true->(qr d.cells b).isSome=true:=by
  intro b hb
  obtain⟨h0,h1⟩:=h.tr b hb
  rw[h.key b h0 h1]
  have h2:=(h.told b h0 h1).1 hb
  obtain⟨r,hr⟩:=List.exists_mem_of_ne_nil _ h2
  unfold QT at hr
  obtain⟨j,hj,hrj⟩:=List.mem_flatMap.1 hr
  obtain⟨i,hi,hrc,_⟩:=Ve hrj
  have hj:j<n:=by simpa using hj
  exact⟨i,by omega,hrc.1⟩
 have hscan:=q17 (d:=d) (a:=jI d (qX l n)) (own:=(pN l n).own) (Ql (qX l n)) [] 0 (Int.le_refl 0) om htc
 rw[List.nil_append]at hscan
 have hrow0:∀ b,has (qX l n) b=false->Yv l b n=[]:=fun b hb=>qad fun i _ hrc=>by rw[hrc.2.1]at hb;cases hb
 have hout:(Ql (qX l n)).filterMap (Vz d (jI d (qX l n)) (pN l n).own)=(Ql (qX l n)).filterMap (q4t l n):=by
  refine jw fun b hb=>?_
  obtain⟨h0,h1⟩:=ZW b hb
  have hh:=(YG hok hn h0 h1).1 hb
  unfold Vz q4t
  have ht:=h.told b h0 h1
  by_cases hto:(qr d.told b).getD false=true
  ·rw[if_pos hto,if_neg (ht.1 hto)]
  ·have hr0:QT l b n=[]:=by
    by_cases hr0:QT l b n=[]
    ·exact hr0
    ·exact absurd (ht.2 hr0) hto
   rw[if_neg hto,if_pos hr0,q9W h.many]
   cases hc:qr d.cells b with
   | none=>
    have hk:=h.key b h0 h1
    rw[hc]at hk
    have:Yv l b n=[]:=qad fun i hi hrc=>by
     have:=hk.2 ⟨i,hi,hrc.1⟩
     cases this
    rw[this]
    rfl
   | some c=>
    exact qfn hok hN (h.cell b c h0 h1 (by simpa using hto) hc) hn hh
 rw[hout]at hscan
 generalize hoe:(Ql (qX l n)).filterMap (q4t l n)=out at hscan hout
 have hol:out.length<=(Ql (qX l n)).length:=by rw[<-hoe];exact List.length_filterMap_le _ _
 have hmem:∀ b,0<=b->b<4294967296->(b∈out.map (·.byte)↔QT l b n=[]/\Yv l b n≠[]):=by
  intro b h0 h1
  constructor
  ·intro hb
   obtain⟨r,hr,rfl⟩:=List.mem_map.1 hb
   rw[<-hoe]at hr
   obtain⟨b',hb',hr⟩:=List.mem_filterMap.1 hr
   obtain⟨q1,q2,q3⟩:=q1H hr
   rw[q1]
   exact⟨q2,q3⟩
  ·rintro⟨q1,q2⟩
   obtain⟨r,hr⟩:=List.exists_mem_of_ne_nil _ q2
   have hh:has (qX l n) b=true:=by
    obtain⟨i,_,hrc,_⟩:=Ve hr
    exact hrc.2.1
   cases hrow:Yv l b n with
   | nil=>exact absurd hrow q2
   | cons x t=>
    have hnew:q4t l n b=some x:=by unfold q4t;rw[if_pos q1,hrow];rfl
    refine List.mem_map.2 ⟨x,?_,(q1H hnew).1⟩
    rw[<-hoe]
    exact List.mem_filterMap.2 ⟨b,(YG hok hn h0 h1).2 hh,hnew⟩
 have hmr:∀ b,b∈out.map (·.byte)->b∈Ql (qX l n):=by
  intro b hb
  obtain⟨r,hr,rfl⟩:=List.mem_map.1 hb
  rw[<-hoe]at hr
  obtain⟨b',hb',hr⟩:=List.mem_filterMap.1 hr
  have:=(q1H hr).1
  rw[this]
  exact hb'
 refine⟨⟨qG (Zh l n) (qX l n) (pN l n),yk (d.many+1),(yB out (yy (jI d (qX l n)) (pN l n).tk (zo (Zh l n).rels (qX l n).th) d.told (Ql (qX l n)) d.cells) d.told).1,(yB out (yy (jI d (qX l n)) (pN l n).tk (zo (Zh l n).rels (qX l n).th) d.told (Ql (qX l n)) d.cells) d.told).2⟩,?_,?_⟩
 ·unfold feed
  have hmn:=h.many
  rw[if_neg om,h.th,hp]
  simp only
  rw[hbs,hscan]
  simp only
  rw[if_neg (by rw[zV om om];omega)]
 have hkl:=ZU (a:=jI d (qX l n)) (tk:=(pN l n).tk) (rel:=zo (Zh l n).rels (qX l n).th) (ts:=d.told) (bs:=Ql (qX l n)) (cs:=d.cells) (q6v hok hn)
 generalize hke:yy (jI d (qX l n)) (pN l n).tk (zo (Zh l n).rels (qX l n).th) d.told (Ql (qX l n)) d.cells=kc at hkl
 have hkc:kc.length<=d.cells.length+(Ql (qX l n)).length:=by rw[<-hke];exact qaQ
 have htold:∀ b,(qr (yB out kc d.told).2 b).getD false=((qr d.told b).getD false||out.any fun r=>r.byte==b):=q1U out kc d.told
 have hany:∀ b,(out.any fun r=>r.byte==b)=true↔b∈out.map (·.byte):=by
  intro b
  rw[List.any_eq_true,List.mem_map]
  simp
 have hsome:∀ b,(qr (yB out kc d.told).1 b).isSome=true↔b∈Ql (qX l n)\/(qr d.cells b).isSome=true:=by
  intro b
  obtain⟨t1,t2⟩:=q0i out kc d.told b
  by_cases hbo:b∈out.map (·.byte)
  ·simp[t2 hbo,hmr b hbo]
  ·rw[t1 hbo,hkl b]
   by_cases hbb:b∈Ql (qX l n)
   ·rw[if_pos hbb];simp[hbb]
   ·rw[if_neg hbb];simp[hbb]
 refine⟨?_,?_,fun b h0 h1=>?_,fun b h0 h1=>?_,fun b c h0 h1 ht hc=>?_,fun b hb=>?_,fun b hb=>?_,?_,?_⟩
 ·show qG (Zh l n) (qX l n) (pN l n)=Zh l (n+1)
  rw[hok.at hn]
 ·show yk (d.many+1)=((n+1:Nat):Int)
  rw[h.many,zV om om]
  rfl
 ·show(qr (yB out kc d.told).2 b).getD false=true↔_
  rw[htold,Bool.or_eq_true,hany,hmem b h0 h1,h.told b h0 h1,jP]
  constructor
  ·rintro(hq | ⟨_,hq⟩)<;>simp[hq]
  ·intro hq
   by_cases hr:QT l b n=[]
   ·right
    rw[hr,List.nil_append]at hq
    exact⟨hr,hq⟩
   ·exact .inl hr
 ·show(qr (yB out kc d.told).1 b).isSome=true↔_
  rw[hsome,YG hok hn h0 h1,h.key b h0 h1]
  constructor
  ·rintro(hq | ⟨k,hk,hq⟩)
   ·exact⟨n,by omega,hq⟩
   ·exact⟨k,by omega,hq⟩
  ·rintro⟨k,hk,hq⟩
   by_cases hkn:k=n
   ·subst hkn;exact .inl hq
   ·exact .inr ⟨k,by omega,hq⟩
 ·have ht:(qr (yB out kc d.told).2 b).getD false=false:=ht
  have hc:qr (yB out kc d.told).1 b=some c:=hc
  rw[htold,Bool.or_eq_false_iff]at ht
  have hbo:¬ b∈out.map (·.byte):=fun hb=>by rw[(hany b).2 hb]at ht;cases ht.2
  rw[(q0i out kc d.told b).1 hbo,hkl b]at hc
  by_cases hbb:b∈Ql (qX l n)
  ·have hh:=(YG hok hn h0 h1).1 hbb
   rw[if_pos hbb,ht.1]at hc
   simp only[Bool.false_eq_true,if_false,Option.some.injEq]at hc
   rw[<-hc,q9W h.many]
   cases hco:qr d.cells b with
   | none=>
    have hk:=h.key b h0 h1
    rw[hco]at hk
    refine CI.rem hok hN (CI.zero l b fun k hk'=>?_) hn hh
    cases hhk:has (qX l k) b with
    | false=>rfl
    | true=>have:=hk.2 ⟨k,hk',hhk⟩;cases this
   | some c0=>exact CI.rem hok hN (h.cell b c0 h0 h1 ht.1 hco) hn hh
  ·rw[if_neg hbb]at hc
   refine(h.cell b c h0 h1 ht.1 hc).skip ?_
   cases hh:has (qX l n) b with
   | false=>rfl
   | true=>exact absurd ((YG hok hn h0 h1).2 hh) hbb
 ·rcases(hsome b).1 hb with hb | hb
  ·exact ZW b hb
  ·exact h.kr b hb
 ·have hb:(qr (yB out kc d.told).2 b).getD false=true:=hb
  rw[htold,Bool.or_eq_true,hany]at hb
  rcases hb with hb | hb
  ·exact h.tr b hb
  ·exact ZW b (hmr b hb)
 ·show(yB out kc d.told).1.length<=Qz l n+Qb (qX l n)
  rw[q6x out kc d.told (fun x hx=>by
   rw[hkl x.byte,if_pos (hmr _ (List.mem_map.2 ⟨x,hx,rfl⟩))];rfl)]
  omega
 ·show(yB out kc d.told).2.length<=Qz l n+Qb (qX l n)
  have:=q6l out kc d.told
  omega
theorem DI.zero(l:List Ev):DI l 0 Za:=by
 refine⟨rfl,rfl,fun b _ _=>?_,fun b _ _=>?_,fun b c _ _ _ hc=>?_,fun b hb=>?_,fun b hb=>?_,Nat.le_refl 0,Nat.le_refl 0⟩
 ·simp[Za,qr,QT]
 ·simp[Za,qr]
 ·simp[Za,qr]at hc
 ·simp[Za,qr]at hb
 ·simp[Za,qr]at hb
end Go.Fx.Mo
namespace Go.Fx.Mo
abbrev Tab:=List (List Bool)
def q3o(t:Tab)(i j:Nat):Bool:=(t.getD i []).getD j false
def pr(l:List Ev)(t:Tab)(b:Int)(i j:Nat):Option qQ:=
 if has (l.getD i default) b=true/\has (l.getD j default) b=true/\q3o t i j=false/\zE (yi (l.getD i default) i) (yi (l.getD j default) j)=true
 then some ⟨b,yi (l.getD i default) i,yi (l.getD j default) j⟩else none
def rIn(l:List Ev)(t:Tab)(b:Int)(j:Nat):Nat->Nat->List qQ->List qQ
 | 0,_,o=>o
 | m+1,i,o=>rIn l t b j m (i+1) (o++(pr l t b i j).toList)
def q7f(l:List Ev)(t:Tab)(b:Int):Nat->Nat->List qQ->List qQ
 | 0,_,o=>o
 | m+1,j,o=>q7f l t b m (j+1) (rIn l t b j j 0 o)
def yS(l:List Ev)(t:Tab)(b:Int):List qQ:=q7f l t b l.length 0 []
end Go.Fx.Mo
namespace Go.Fx.Tryz
open Go Go.Fx Go.Fx.Mo
open Go.Proofs
variable {w0 w:World} {H Y:qP} {K:KT}
set_option maxRecDepth 20000
theorem qE2(w:World):(Instr.buildSlice 39 0 ([]:List (Nat × Value)).toArray).run P w=.ok (.slice (some ⟨w.heap.size,0,none⟩) 0 0) (w.alloc (.cells #[] 108 (0,0))):=kr
def NS(w0 w:World)(H Z:qP):Prop:=St w0 w (Z++H)/\zr w0 Z
abbrev qgF:List Value:=[qj 0,qj 0,.int .u32 0,.bool false,.bool false]
theorem NS.newC{Z:qP}{Q:Nat->World->Prop}(h:NS w0 w H Z)(hK:∀ n w',NS w0 w' H ((n,Cs qgF 97)::Z)->Q n w'):qt (qn P 97) 97 w Q:=by
 rw[z45]
 refine h.1.newC fun n w' hn h'=>hK n w' ⟨h',?_⟩
 intro y hy
 rcases List.mem_cons.1 hy with rfl | hy
 ·exact hn
 ·exact h.2 y hy
theorem NS.acc{Z:qP}{e:Ev}{i:Int}{Q:KT}(h:NS w0 w H Z)(hK:∀ w',NS w0 w' H Z->Q (.agg (qO (yi e i)).toArray) w'):qa P 62 [.agg (qE e).toArray,.int .i64 i] w Q:=
 qI0 h.1 e i fun w' h'=>hK w' ⟨h',h.2⟩
section
variable {l:List Ev} {t:Tab} {b:Int} {lv tv:Value} {la ta:Option Addr} {lc tc:Nat} {oa:Option Addr} {oc:Nat} {Lo:qP} {out:List Mo.qQ} {i j:Nat}
def qJS(w:World)(tv:Value)(n:Nat)(t:Tab):Prop:=
 (∃ a c,tv=.slice a n c)/\∀ i,i<n->∃ a c g,tv=.slice (some a) n c/\w.cell? (a.add (i*1))=some (.slice (some ⟨g,0,none⟩) n n)/\∀ j,j<n->w.cell? (Addr.mk g j none)=some (.bool (q3o t i j))
theorem qg1{nA nB:Nat}{x y:Qk}{Y4 Y7:YT}(h:St w0 w ((nB,Cs (qO y) 97)::(nA,Cs (qO x) 97)::(Lo++H)))(hA:w0.heap.size<=nA)(hB:w0.heap.size<=nB)
  (hS:zC 11 108 (.slice oa out.length oc) out.length (qA out) Lo) (hN:zr w0 Lo) (hb:out.length<1000000000)
  (hK:∀ w' a c L,zC 11 108 (.slice a (out++(if Mo.zE x y=true then some (⟨b,x,y⟩:Mo.qQ)else none).toList).length c) (out++(if Mo.zE x y=true then some (⟨b,x,y⟩:Mo.qQ)else none).toList).length (qA (out++(if Mo.zE x y=true then some (⟨b,x,y⟩:Mo.qQ)else none).toList)) L->zr w0 L->St w0 w' (L++H)->
   YO none 0 0 a (out++(if Mo.zE x y=true then some (⟨b,x,y⟩:Mo.qQ)else none).toList).length c b la l.length lc ta l.length tc (j:Nat) (i:Nat) w' K Y4 Y7) :
  zm none 0 0 b la l.length lc ta l.length tc (j:Nat) (i:Nat) (Addr.mk nB 0 none) (Addr.mk nA 0 none) oa out.length oc w K Y4 Y7:=by
 rw[qg5]
 refine h.ldA (k:=1) (i:=0) rfl (by simp[yz]) (h.ldA (k:=0) (i:=0) rfl (by simp[yz]) ?_)
 rw[show((qO x).drop 0).take 5=qO x from rfl,show((qO y).drop 0).take 5=qO y from rfl]
 refine qyC h x y fun w1 h1=>⟨_,rfl,?_⟩
 cases hc:Mo.zE x y
 ·rw[qd]
  rw[hc]at hK
  simp only[Bool.false_eq_true,if_false,Option.toList_none,List.append_nil]at hK
  exact hK w1 oa oc Lo hS hN ((h1.tail hB).tail hA)
 ·rw[qm]
  rw[hc]at hK
  simp only[if_true,Option.toList_some]at hK
  refine h1.ldA (k:=1) (i:=0) rfl (by simp[yz]) (h1.ldA (k:=0) (i:=0) rfl (by simp[yz]) ?_)
  rw[show((qO x).drop 0).take 5=qO x from rfl,show((qO y).drop 0).take 5=qO y from rfl]
  refine⟨_,fun wq=>qkT b x y wq,⟨rfl,trivial⟩,?_⟩
  refine h1.newC fun n126 w2 hn h2=>?_
  have h2:St w0 w2 (((n126,Cs (qz ⟨b,x,y⟩) 108)::(nB,Cs (qO y) 97)::[(nA,Cs (qO x) 97)])++(Lo++H)):=by
   have e:(([Value.agg (qz ⟨b,x,y⟩).toArray].map fun(v:Value)=>v.cells.toList).flatten)=qz ⟨b,x,y⟩:=by simp[Value.cells]
   rw[<-e];exact h2
  obtain⟨g,cap,w3,L',hru,hS',g3,hN'⟩:=St.append (P:=P) 39 39 108 Tryz.t108 (.agg #[.int .u32 0,qj 0,qj 0,.int .u32 0,.bool false,.bool false,qj 0,qj 0,.int .u32 0,.bool false,.bool false]) 11 56 Tryz.underlying39 q8j rfl rfl rfl rfl om h2 hS hN (j:=0) rfl (yO _) (by simpa using vY _) (by simp[maxLen];omega) om
  refine⟨_,_,_,w3,hru,?_⟩
  have e2:out.length+1=(out++[(⟨b,x,y⟩:Mo.qQ)]).length:=by simp
  rw[e2]at hS' ⊢
  refine hK w3 _ _ L' ?_ hN' (((g3.tail hn).tail hB).tail hA)
  rw[show qA (out++[(⟨b,x,y⟩:Mo.qQ)])=qA out++qz ⟨b,x,y⟩by simp[qA]]
  exact hS'
end
end Go.Fx.Tryz
namespace Go.Fx.Tryz
open Go Go.Fx Go.Fx.Mo
open Go.Proofs
variable {w0 w:World} {H Y:qP} {K:KT}
set_option maxRecDepth 20000
section
variable {l:List Ev} {t:Tab} {b:Int} {la ta:Option Addr} {lc tc:Nat} {oa:Option Addr} {oc:Nat} {Lo:qP} {out:List Mo.qQ} {i j:Nat}
set_option maxHeartbeats 4000000 in
theorem qei{x y:Qk}{Y4 Y7:YT}(h:St w0 w (Lo++H))(hrow:∀ w',St w0 w' H->Qt w' 6 (.slice la l.length lc) l.length (zq l))(hi:i<l.length)(hj:j<l.length)
  (hx:x=yi l[i] i) (hy:y=yi l[j] j)
  (hS:zC 11 108 (.slice oa out.length oc) out.length (qA out) Lo) (hN:zr w0 Lo) (hb:out.length<1000000000)
  (hK:∀ w' a c L,zC 11 108 (.slice a (out++(if Mo.zE x y=true then some (⟨b,x,y⟩:Mo.qQ)else none).toList).length c) (out++(if Mo.zE x y=true then some (⟨b,x,y⟩:Mo.qQ)else none).toList).length (qA (out++(if Mo.zE x y=true then some (⟨b,x,y⟩:Mo.qQ)else none).toList)) L->zr w0 L->St w0 w' (L++H)->
   YO none 0 0 a (out++(if Mo.zE x y=true then some (⟨b,x,y⟩:Mo.qQ)else none).toList).length c b la l.length lc ta l.length tc (j:Nat) (i:Nat) w' K Y4 Y7) :
  q9a none 0 0 b la l.length lc ta l.length tc (j:Nat) (i:Nat) oa out.length oc w K Y4 Y7:=by
 rw[qdE]
 have hd:=h.drew
 obtain⟨a,c,hac,hld⟩:=(hrow _ (hd.sub hN)).ldA hi
 obtain⟨hsa,-⟩:la=some a/\lc=c:=by simpa using hac
 subst hsa
 refine⟨by omega,by omega,by omega,by omega,?_⟩
 rw[Int.toNat_natCast,Int.toNat_natCast]
 refine hld _ ?_
 rw[QM hi]
 have h0:NS w0 w.drew (Lo++H) []:=⟨hd,zr.nil w0⟩
 have ldj:∀ {w':World} {Z:qP} {Q:Array Value->Prop},NS w0 w' (Lo++H) Z->Q (qE l[j]).toArray->qf 6 (a.add (j*6)) w' Q:=fun {w' Z Q} h' hq=>by
  obtain⟨a',c',hac',hld'⟩:=(hrow _ ((h'.1.sub h'.2).sub hN)).ldA hj
  obtain⟨rfl,-⟩:a=a'/\lc=c':=by simpa using hac'
  refine hld' _ ?_
  rw[QM hj]
  exact hq
 have fin1:∀ {w':World} {nA nB:Nat},NS w0 w' (Lo++H) ((nB,Cs qgF 97)::(nA,Cs qgF 97)::[])->qN 5 (Addr.mk nA 0 none) (qO (yi l[i] i)).toArray w' (fun w2=>qN 5 (Addr.mk nB 0 none) (qO (yi l[j] j)).toArray w2 (fun w3=>zm none 0 0 b (some a) l.length lc ta l.length tc (j:Nat) (i:Nat) (Addr.mk nB 0 none) (Addr.mk nA 0 none) oa out.length oc w3 K Y4 Y7)):=by
  intro w' nA nB h'
  refine h'.1.stA (k:=1) rfl rfl (by simp) (jN _) fun w2 h2=>h2.stA (k:=0) rfl rfl (by simp) (jN _) fun w3 h3=>?_
  have h3:St w0 w3 ((nB,Cs (qO (yi l[j] j)) 97)::(nA,Cs (qO (yi l[i] i)) 97)::(Lo++H)):=h3
  rw[<-hx,<-hy]at h3
  exact qg1 h3 (h'.2 (nA,Cs qgF 97) (.tail _ (.head _))) (h'.2 (nB,Cs qgF 97) (.head _)) hS hN hb hK
 have fin2:∀ {w':World} {nA nB:Nat},NS w0 w' (Lo++H) ((nA,Cs qgF 97)::(nB,Cs qgF 97)::[])->qN 5 (Addr.mk nA 0 none) (qO (yi l[i] i)).toArray w' (fun w2=>qN 5 (Addr.mk nB 0 none) (qO (yi l[j] j)).toArray w2 (fun w3=>zm none 0 0 b (some a) l.length lc ta l.length tc (j:Nat) (i:Nat) (Addr.mk nB 0 none) (Addr.mk nA 0 none) oa out.length oc w3 K Y4 Y7)):=by
  intro w' nA nB h'
  refine fin1 ⟨h'.1.perm (List.Perm.swap ..),fun y hy=>h'.2 y ?_⟩
  simp at hy ⊢
  rcases hy with rfl | rfl<;>simp
 clear hK hd h hx hy
 repeat' first
  | exact fin1 (by assumption)
  | exact fin2 (by assumption)
  | refine NS.acc (by assumption) fun w' h'=>⟨_,rfl,?_⟩
  | refine ldj (by assumption) ?_
  | refine NS.newC (by assumption) fun n w' h'=>?_
  | refine⟨?_,?_⟩
end
theorem qnd{l:List Ev}{t:Tab}{b:Int}{lv tv:Value}(h:St w0 w H)(hrow:∀ w',St w0 w' H->Qt w' 6 lv l.length (zq l))(htab:∀ w',St w0 w' H->qJS w' tv l.length t)(hl:l.length<=20000)
  (hK:∀ w' a c Lo,zC 11 108 (.slice a (yS l t b).length c) (yS l t b).length (qA (yS l t b)) Lo->zr w0 Lo->(yS l t b).length<=400000000->St w0 w' (Lo++H)->K (.slice a (yS l t b).length c) w') :
  qa P 52 [lv,tv,.int .u32 b] w K:=by
 obtain⟨la,lc,hlv⟩:=(hrow w h).form
 obtain⟨⟨ta,tc,htv⟩,-⟩:=htab w h
 rw[hlv,htv]
 refine qGQ _ _ _ _ _ _ _ _ _ ?_
 rw[qFT,qoL,qlM]
 refine⟨_,_,_,_,qE2 w,?_⟩
 have h2:=h.alloc (.cells #[] 108 (0,0))
 have hn:=h.le
 generalize w.heap.size=n at h2 hn
 have h2:St w0 (w.alloc (.cells #[] 108 (0,0))) ([(n,Cs [] 108)]++H):=h2
 rw[qmZ,qn6]
 refine⟨fun m ee w=>∃ (j:Nat) (out:List Mo.qQ) (oa:Option Addr) (oc:Nat) (Lo:qP),j<=l.length/\m=l.length-j/\ee=ql.mk 72 [(6,qy),(7,.slice oa out.length oc),(8,qj (j:Nat)),(2,.int .u32 b),(0,.slice la l.length lc),(1,.slice ta l.length tc)] []/\
   q7f l t b (l.length-j) j out=yS l t b/\out.length<=20000*j/\zC 11 108 (.slice oa out.length oc) out.length (qA out) Lo/\zr w0 Lo/\St w0 w (Lo++H),
  ⟨l.length,0,[],_,_,_,by omega,rfl,rfl,rfl,by simp,Qg 11 108 n,by simpa [zr]using hn,h2⟩,?_⟩
 rintro m ee w4 ⟨j,out,oa,oc,Lo,hj,rfl,rfl,hfin,hob,hS,hN,hw⟩
 show qi9 ..
 rw[qdn]
 refine⟨l.length,fun wq _=>yb wq,?_⟩
 rw[qg]
 constructor
 ·intro hlt
  have hlt:j<l.length:=by simpa using hlt
  rw[qnZ,qlQ]
  rw[show l.length-j=(l.length-(j+1))+1 by omega,q7f]at hfin
  generalize hY:(fun e' w'=>∃ m,m<l.length-j/\∃ (j:Nat) (out:List Mo.qQ) (oa:Option Addr) (oc:Nat) (Lo:qP),j<=l.length/\m=l.length-j/\e'=ql.mk 72 [(6,qy),(7,.slice oa out.length oc),(8,qj (j:Nat)),(2,.int .u32 b),(0,.slice la l.length lc),(1,.slice ta l.length tc)] []/\
   q7f l t b (l.length-j) j out=yS l t b/\out.length<=20000*j/\zC 11 108 (.slice oa out.length oc) out.length (qA out) Lo/\zr w0 Lo/\St w0 w' (Lo++H))=Y
  refine⟨fun m ee w=>∃ (i:Nat) (o:List Mo.qQ) (oa:Option Addr) (oc:Nat) (Lo:qP),i<=j/\m=j-i/\ee=ql.mk 72 [(6,qy),(7,.slice oa o.length oc),(2,.int .u32 b),(0,.slice la l.length lc),(1,.slice ta l.length tc),(8,qj (j:Nat)),(9,qj (i:Nat))] []/\
    rIn l t b j (j-i) i o=rIn l t b j j 0 out/\o.length<=20000*j+i/\zC 11 108 (.slice oa o.length oc) o.length (qA o) Lo/\zr w0 Lo/\St w0 w (Lo++H),
   ⟨j,0,out,oa,oc,Lo,by omega,rfl,rfl,rfl,hob,hS,hN,hw⟩,?_⟩
  rintro m ee w5 ⟨i,o,oa,oc,Lo,hi,rfl,rfl,hin,hob,hS,hN,hw⟩
  show qkZ ..
  rw[qf2,qg]
  constructor
  ·intro hij
   have hij:i<j:=by simpa using hij
   have hil:i<l.length:=by omega
   rw[qng]
   rw[show j-i=(j-(i+1))+1 by omega,rIn]at hin
   generalize hY7:(fun e' w'=>∃ m,m<j-i/\∃ (i:Nat) (o:List Mo.qQ) (oa:Option Addr) (oc:Nat) (Lo:qP),i<=j/\m=j-i/\e'=ql.mk 72 [(6,qy),(7,.slice oa o.length oc),(2,.int .u32 b),(0,.slice la l.length lc),(1,.slice ta l.length tc),(8,qj (j:Nat)),(9,qj (i:Nat))] []/\
    rIn l t b j (j-i) i o=rIn l t b j j 0 out/\o.length<=20000*j+i/\zC 11 108 (.slice oa o.length oc) o.length (qA o) Lo/\zr w0 Lo/\St w0 w' (Lo++H))=Y7
   have next:∀ w6 (o':List Mo.qQ) a c L,o'=o++(pr l t b i j).toList->zC 11 108 (.slice a o'.length c) o'.length (qA o') L->zr w0 L->St w0 w6 (L++H)->YO none 0 0 a o'.length c b la l.length lc ta l.length tc (j:Nat) (i:Nat) w6 K Y Y7:=by
    intro w6 o' a c L ho hS' hN' h6
    rw[qed,<-hY7]
    refine⟨j-(i+1),by omega,i+1,o',a,c,L,by omega,rfl,?_,by rw[ho];exact hin,?_,hS',hN',h6⟩
    ·rw[qk om om];rfl
    ·rw[ho,List.length_append]
     cases pr l t b i j<;>simp<;>omega
   have gi:l.getD i default=l[i]:=by simp[List.getD,hil]
   have gj:l.getD j default=l[j]:=by simp[List.getD,hlt]
   have skip:∀ w6,St w0 w6 (Lo++H)->pr l t b i j=none->q4n true none 0 0 oa o.length oc b la l.length lc ta l.length tc (j:Nat) (i:Nat) w6 K Y Y7:=by
    intro w6 h6 hp
    rw[q6s,qm]
    exact next w6 o oa oc Lo (by rw[hp];simp) hS hN h6
   obtain⟨a,c,hac,hld⟩:=(hrow _ (hw.sub hN)).ldA hil
   rw[hlv]at hac
   obtain⟨hsa,-⟩:la=some a/\lc=c:=by simpa using hac
   subst hsa
   refine⟨by omega,by omega,hld _ ?_⟩
   rw[QM hil]
   refine qz0 hw l[i] b fun w6 h6=>⟨_,rfl,?_⟩
   cases hbi:has l[i] b
   ·rw[Bool.not_false,qm]
    exact skip w6 h6 (by unfold pr;rw[gi,hbi];simp)
   ·rw[Bool.not_true,qd]
    obtain⟨a',c',hac',hld'⟩:=(hrow _ (h6.sub hN)).ldA hlt
    rw[hlv]at hac'
    obtain⟨rfl,-⟩:a=a'/\lc=c':=by simpa using hac'
    refine⟨by omega,by omega,hld' _ ?_⟩
    rw[QM hlt]
    refine qz0 h6 l[j] b fun w7 h7=>⟨_,rfl,?_⟩
    cases hbj:has l[j] b
    ·rw[Bool.not_false,qm]
     exact skip w7 h7 (by unfold pr;rw[gj,hbj];simp)
    ·rw[Bool.not_true,qd]
     obtain⟨-,htr⟩:=htab _ (h7.sub hN)
     obtain⟨a2,c2,g,hac2,hcell,hcell2⟩:=htr i hil
     rw[htv]at hac2
     obtain⟨hsa2,-⟩:ta=some a2/\tc=c2:=by simpa using hac2
     subst hsa2
     refine⟨by omega,by omega,some ⟨g,0,none⟩,l.length,l.length,by rw[Int.toNat_natCast];exact hcell,by omega,by omega,q3o t i j,?_,?_⟩
     ·rw[qc,Nat.zero_add,Int.toNat_natCast,Nat.mul_one];exact hcell2 j hlt
     ·cases htt:q3o t i j
      ·rw[q6s,qd]
       have hp:pr l t b i j=(if Mo.zE (yi l[i] i) (yi l[j] j)=true then some (⟨b,yi l[i] i,yi l[j] j⟩:Mo.qQ)else none):=by
        unfold pr
        rw[gi,gj,hbi,hbj,htt]
        simp
       refine qei (hi:=hil) (hj:=hlt) h7 (fun w' h'=>by rw[<-hlv];exact hrow w' h') rfl rfl hS hN om fun w8 a3 c3 L3 hS3 hN3 h8=>?_
       rw[<-hp]at hS3 ⊢
       exact next w8 _ a3 c3 L3 rfl hS3 hN3 h8
      ·exact skip w7 h7 (by unfold pr;rw[htt];simp)
  ·intro hge
   have hge:j<=i:=by simpa using hge
   have:i=j:=by omega
   subst this
   rw[Nat.sub_self,rIn]at hin
   rw[qeK,<-hY]
   refine⟨l.length-(i+1),by omega,i+1,o,oa,oc,Lo,by omega,rfl,?_,by rw[hin];exact hfin,by omega,hS,hN,hw⟩
   rw[qk om om];rfl
 ·intro hge
  have hge:l.length<=j:=by simpa using hge
  have:j=l.length:=by omega
  subst this
  rw[Nat.sub_self,q7f]at hfin
  rw[qew]
  subst hfin
  exact hK w4 oa oc Lo hS hN om hw
end Go.Fx.Tryz
namespace Go.Fx.Mo
structure Jv (r:RR) (n:Nat):Prop where
 len:r.of.length=r.L.length
 mem:∀ x∈r.of,0<=x/\x<n
 bl:r.begun.length=8
 el:r.ended.length=8
theorem q3d{r r':RR}{o:vH}{i:Nat}(h:vE r o i=some r')(hr:Jv r (i+1)):Jv r' (i+1):=by
 unfold vE at h
 split at h
 ·cases h
 ·cases h
  refine⟨by simp[hr.len],fun x hx=>?_,?_,?_⟩
  ·rcases List.mem_append.1 hx with hx | hx
   ·exact hr.mem x hx
   ·have:x=(i:Int):=by simpa using hx
    omega
  ·show(if _ then _ else _:List Bool).length=8
   split
   ·simp[hr.bl]
   ·exact hr.bl
  ·show(if _ then _ else _:List Bool).length=8
   split
   ·simp[hr.el]
   ·exact hr.el
theorem qCL{r:RR}{x:Ob}{n:Nat}(hr:Jv r n):Jv (come r x) n:=by
 unfold come
 split
 ·exact⟨hr.len,hr.mem,hr.bl,hr.el⟩
 ·exact hr
theorem q1v{r r':RR}{k:Int}{e:Ev}{x:Ob}{i:Nat}(h:ya r k e x i=some r')(hr:Jv r (i+1)):Jv r' (i+1):=by
 unfold ya at h
 split at h
 ·cases h
 ·exact q3d h (qCL hr)
theorem q2q{e:Ev}{i:Nat}:∀ {l:List Ob} {r r':RR},zF e i l r=some r'->Jv r (i+1)->Jv r' (i+1)
 | [],r,r',h,hr=>by cases h;exact hr
 | x::t,r,r',h,hr=>by
  unfold zF at h
  split at h
  ·cases h
  ·rename_i r2 h2
   exact q2q h (q1v h2 hr)
theorem qv2{r r':RR}{e:Ev}{i:Nat}(h:jt r e i=some r')(hr:Jv r (i+1)):Jv r' (i+1):=by
 unfold jt at h
 repeat' split at h
 ·cases h
 ·exact q2q h hr
 ·exact q1v h hr
 ·exact q1v h hr
 ·exact q3d h hr
 ·exact q3d h hr
 ·exact q3d h hr
theorem Jv.more{r:RR}{n m:Nat}(h:Jv r n)(hm:n<=m):Jv r m:=⟨h.len,fun x hx=>by have:=h.mem x hx;omega,h.bl,h.el⟩
theorem q68:∀ {l:List Ev} {i:Nat} {r r':RR},yq l i r=some r'->Jv r i->Jv r' (i+l.length)
 | [],i,r,r',h,hr=>by cases h;exact hr
 | e::t,i,r,r',h,hr=>by
  unfold yq at h
  split at h
  ·cases h
  ·rename_i r2 h2
   have:=q68 (i:=i+1) h (qv2 h2 (hr.more om))
   rw[List.length_cons,show i+(t.length+1)=i+1+t.length by omega]
   exact this
theorem qjT{l:List Ev}{r:RR}(h:QA l=.inl r):Jv r l.length:=by
 unfold QA at h
 split at h
 ·cases h
 ·split at h
  ·cases h
  ·rename_i r2 h2
   cases h
   have:=q68 (i:=0) h2 ⟨rfl,by simp[rr0],rfl,rfl⟩
   simpa using this
def YS(r:RR)(n:Nat):Tab:=(List.range n).map fun i:Nat=>vn r (i:Nat) n
theorem q9L{r:RR}{n i j:Nat}(hi:i<n):q3o (YS r n) i j=(vn r (i:Nat) n).getD j false:=by
 unfold q3o YS
 simp[List.getD,hi]
end Go.Fx.Mo
namespace Go.Fx.Tryz
open Go Go.Fx Go.Fx.Mo
open Go.Proofs
variable {w0 w:World} {H Y:qP} {K:KT}
set_option maxRecDepth 20000
theorem qLn(w:World):(Instr.buildSlice 130 0 ([]:List (Nat × Value)).toArray).run P w=.ok (.slice (some ⟨w.heap.size,0,none⟩) 0 0) (w.alloc (.cells #[] 150 (0,0))):=kr
theorem qEC:P.info? 150=some Tryz.t150:=kr
def Yl(ps:List (Nat × List Bool)):List (Nat × Obj):=ps.map fun p=>(p.1,Cs (p.2.map .bool) 4)
def ql4(n:Nat)(ps:List (Nat × List Bool)):List Value:=ps.map fun p=>.slice (some ⟨p.1,0,none⟩) n n
theorem qsW{l:List Ev}{r:RR}{ov:Value}(h:St w0 w H)(hrow:∀ w',St w0 w' H->Qt w' 6 ov l.length (zq l))(hr:QA l=.inl r)
  (hK:∀ w' a c Lo,zr w0 Lo->(∀ w2,(∀ x∈Lo,w2.heap[x.1]?=some x.2)->qJS w2 (.slice a l.length c) l.length (YS r l.length))->St w0 w' (Lo++H)->K (.slice a l.length c) w'):qa P 51 [ov] w K:=by
 obtain⟨sa,sc,hov⟩:=(hrow w h).form
 rw[hov]
 refine qEE _ _ _ _ _ ?_
 rw[qEw,qm3,qqg,<-hov]
 refine q22 h hrow (fun x hx=>by rw[hr]at hx;cases hx) fun r' hr' hl20 hbd w1 cs g1=>⟨_,rfl,?_⟩
 rw[hr]at hr'
 cases hr'
 have hofk:=qjT hr
 obtain⟨lv,vv,xv,LL,LO,LX,rfl,hri,hs⟩:=g1
 have h0:=jT 0
 have hc:jL (qS r 0 lv vv xv):=⟨jg hri.bl hri.el,jl (zW hri.sl) (zW hri.so) (zW hri.sx)⟩
 rw[JG]
 refine hs.newC fun n7 w2 hn7 h2=>h2.stA (k:=0) rfl (by simp[hc.len]) (by simp[hc.len,h0.len]) hc.one fun w3 h3=>?_
 have h3:St w0 w3 ((n7,Cs (qI (zU 0) 0 (qS r 0 lv vv xv)) 64)::(LL++(LO++(LX++H)))):=h3
 rw[qB (by rw[hc.len,h0.len])]at h3
 rw[qq6]
 refine⟨_,_,_,_,qLn w3,?_⟩
 have h4:=h3.alloc (.cells #[] 150 (0,0))
 have hn:=h3.le
 generalize w3.heap.size=n at h4 hn
 have h4:St w0 (w3.alloc (.cells #[] 150 (0,0))) ([(n,Cs [] 150)]++(Yl []++((n7,Cs (qS r 0 lv vv xv) 64)::(LL++(LO++(LX++H)))))):=h4
 rw[qpm,qqk]
 refine⟨fun m ee w=>∃ (i:Nat) (ps:List (Nat × List Bool)) (a:Option Addr) (c:Nat) (LT:qP),i<=l.length/\m=l.length-i/\ee=ql.mk 24 [(5,qj (i:Nat)),(0,.slice sa l.length sc),(3,(Value.pointer (some (Addr.mk n7 0 none)))),(4,.slice a i c),(2,qy)] []/\
   ps.map (·.2)=(List.range i).map (fun i:Nat=>vn r (i:Nat) l.length)/\zC 1 150 (.slice a i c) i (ql4 l.length ps) LT/\zr w0 LT/\zr w0 (Yl ps)/\St w0 w (LT++(Yl ps++((n7,Cs (qS r 0 lv vv xv) 64)::(LL++(LO++(LX++H)))))),
  ⟨l.length,0,[],_,_,_,by omega,rfl,rfl,rfl,Qg 1 150 n,by simpa [zr]using hn,zr.nil w0,h4⟩,?_⟩
 rintro m ee w4 ⟨i,ps,a,c,LT,hi,rfl,rfl,hps,hS,hN,hNF,hw⟩
 show qkw ..
 rw[qdI]
 refine⟨l.length,fun wq _=>yb wq,?_⟩
 rw[qg]
 have hpl:ps.length=i:=by
  have:=congrArg List.length hps
  simpa using this
 constructor
 ·intro hlt
  have hlt:i<l.length:=by simpa using hlt
  rw[qqp]
  have hw2:=hw.perm (H':=(n7,Cs (qS r 0 lv vv xv) 64)::(LT++(Yl ps++(LL++(LO++(LX++H)))))) (qK fun f=>by
   simp only[List.map_append,List.map_cons,List.sum_append,List.sum_cons];omega)
  refine Jz hw2 (k:=0) rfl hc ?_
  refine⟨l.length,fun wq _=>yb wq,?_⟩
  refine qpl (i:=i) (many:=l.length) hw (fun w' h'=>hri.sl.row fun y hy=>h'.has _ _ (by simp[hy])) (fun w' h'=>hri.so.row fun y hy=>h'.has _ _ (by simp[hy])) hofk.len (by have:=hbd.l;omega) hofk.mem om hri.bl hri.el fun w5 g hg h5=>⟨_,_,_,rfl,⟨rfl,trivial⟩,?_⟩
  refine h5.newC fun n55 w6 hn55 h6=>?_
  have h6:St w0 w6 (((n55,Cs [.slice (some ⟨g,0,none⟩) l.length l.length] 150)::[(g,Cs ((vn r (i:Nat) l.length).map .bool) 4)])++(LT++(Yl ps++((n7,Cs (qS r 0 lv vv xv) 64)::(LL++(LO++(LX++H))))))):=h6
  obtain⟨g',cap,w7,L',hru,hS',g7,hN'⟩:=St.append (P:=P) 130 130 150 Tryz.t150 qy 1 24 Tryz.underlying130 qEC rfl rfl rfl rfl om h6 hS hN (j:=0) rfl rfl (by simp[Value.oneCell']) (by simp[maxLen];omega) om
  refine⟨_,_,_,w7,hru,?_⟩
  rw[qmW]
  have g8:St w0 w7 ((g,Cs ((vn r (i:Nat) l.length).map .bool) 4)::(L'++(Yl ps++((n7,Cs (qS r 0 lv vv xv) 64)::(LL++(LO++(LX++H))))))):=St.tail (b:=n55) g7 hn55
  refine⟨l.length-(i+1),by omega,i+1,ps++[(g,vn r (i:Nat) l.length)],some ⟨g',0,none⟩,cap,L',by omega,rfl,?_,?_,?_,hN',?_,?_⟩
  ·rw[qk om om];rfl
  ·rw[List.map_append,hps,List.range_succ,List.map_append];rfl
  ·unfold ql4
   rw[List.map_append]
   exact hS'
  ·unfold Yl
   rw[List.map_append]
   intro y hy
   rcases List.mem_append.1 hy with h | h
   ·exact hNF y h
   ·simp at h;rw[h];exact hg
  ·have e:Yl (ps++[(g,vn r (i:Nat) l.length)])=Yl ps++[(g,Cs ((vn r (i:Nat) l.length).map .bool) 4)]:=by simp[Yl]
   rw[e]
   refine g8.perm (qK fun f=>?_)
   simp only[List.map_append,List.map_cons,List.map_nil,List.sum_append,List.sum_cons,List.sum_nil];omega
 ·intro hge
  have hge:l.length<=i:=by simpa using hge
  have:i=l.length:=by omega
  subst this
  rw[qpg]
  refine hK w4 a c (LT++Yl ps) (fun y hy=>?_) (fun w2 hw2=>⟨⟨_,_,rfl⟩,fun i hi=>?_⟩) ?_
  ·rcases List.mem_append.1 hy with h | h
   ·exact hN y h
   ·exact hNF y h
  ·have hrw:Qt w2 1 (.slice a l.length c) l.length (ql4 l.length ps):=hS.row fun y hy=>hw2 y (List.mem_append_left _ hy)
   obtain⟨a',c',hac,hcell⟩:=qxn hrw hi
   obtain⟨rfl,rfl⟩:a=some a'/\c=c':=by simpa using hac
   have hip:i<ps.length:=by omega
   refine⟨a',c,ps[i].1,rfl,?_,fun j hj=>?_⟩
   ·rw[hcell]
    simp[ql4,hip]
   ·have hmem:(ps[i].1,Cs (ps[i].2.map .bool) 4)∈Yl ps:=List.mem_map.2 ⟨ps[i],List.getElem_mem hip,rfl⟩
    rw[qv (hw2 _ (List.mem_append_right _ hmem))]
    have e:ps[i].2=vn r (i:Nat) l.length:=by
     have h1:(ps.map (·.2))[i]?=some ps[i].2:=by simp[hip]
     rw[hps]at h1
     simp[hi]at h1
     exact h1.symm
    rw[e,q8n (by rw[qfr];exact hj),q9L hi]
  ·have h9:=hw.perm (H':=(n7,Cs (qS r 0 lv vv xv) 64)::(LL++(LO++(LX++((LT++Yl ps)++H))))) (qK fun f=>by
    simp only[List.map_append,List.map_cons,List.sum_append,List.sum_cons];omega)
   exact(((h9.tail hn7).sub hri.nl).sub hri.no).sub hri.nx
end Go.Fx.Tryz
namespace Go.Fx.Mo
theorem q6w(l:List Ev):∀ (m n:Nat) (h h':q1M),n+m=l.length->h.events.length=n->QQ (l.drop n) (n:Nat) (Zh l n) h=some h'->
  (∀ k,n<=k->k<l.length->plan (Zh l k) (qX l k)=some (pN l k))/\∃ ext,h'.events=h.events++ext/\∀ k,n<=k->k<l.length->h'.events.getD k ⟨0,[]⟩=⟨(pN l k).tk,(pN l k).own⟩
 | 0,n,h,h',hn,he,hr=>by
  rw[List.drop_eq_nil_of_le om]at hr
  cases hr
  exact⟨fun k h1 h2=>by omega,[],by simp,fun k h1 h2=>by omega⟩
 | m+1,n,h,h',hn,he,hr=>by
  have hd:l.drop n=qX l n::l.drop (n+1):=by
   rw[List.drop_eq_getElem_cons om]
   unfold qX
   simp[List.getD,show n<l.length by omega]
  rw[hd]at hr
  unfold QQ at hr
  split at hr
  ·cases hr
  ·rename_i p hp
   have hpn:pN l n=p:=by unfold pN;rw[hp];rfl
   have hst:Zh l (n+1)=qG (Zh l n) (qX l n) p:=by rw[Zh,hp]
   rw[<-hst]at hr
   obtain⟨k1,ext,k2,k3⟩:=q6w l m (n+1) _ h' om (by simp[he]) hr
   refine⟨fun k h1 h2=>?_,⟨p.tk,p.own⟩::ext,by rw[k2];simp,fun k h1 h2=>?_⟩
   ·by_cases hk:k=n
    ·rw[hk,hpn];exact hp
    ·exact k1 k om h2
   ·by_cases hk:k=n
    ·rw[hk,k2,hpn]
     have:h.events++[(⟨p.tk,p.own⟩:q5D)]++ext=h.events++(⟨p.tk,p.own⟩::ext):=by simp
     rw[this]
     simp[List.getD,he]
    ·exact k3 k om h2
theorem qf1{l:List Ev}{h:q1M}(hr:run l=.inl h):Ok l l.length/\l.length<=20000/\∀ k,k<l.length->h.events.getD k ⟨0,[]⟩=⟨(pN l k).tk,(pN l k).own⟩:=by
 unfold run at hr
 split at hr
 ·cases hr
 ·rename_i hl
  split at hr
  ·rename_i h2 h3
   cases hr
   obtain⟨k1,ext,_,k3⟩:=q6w l l.length 0 ⟨[],[],[]⟩ h om rfl (by rw[List.drop_zero];exact h3)
   exact⟨fun k hk=>k1 k om hk,by omega,fun k hk=>k3 k om hk⟩
  ·cases hr
theorem qKX{l:List Ev}{h:q1M}{r:RR}(hr:run l=.inl h)(hrr:QA l=.inl r)(b:Int){i j:Nat}(hij:i<j)(hj:j<l.length):pr l (YS r l.length) b i j=prR l b i j:=by
 obtain⟨hok,hl,hev⟩:=qf1 hr
 rcases Vj l with⟨x,h1,_⟩ | ⟨h',r',tk,h1,h2,h3,h4,h5,h6⟩
 ·rw[hr]at h1;cases h1
 ·rw[hr]at h1
  rw[hrr]at h2
  cases h1;cases h2
  have hof:=qjT hrr
  have hb:=qnt h5 hof.len (by rw[h6];exact hof.mem) hij (by rw[h6];exact hj)
  rw[h6,hev i om,hev j hj]at hb
  have hd:(decide (zo (pN l j).own (qX l i).th>=(pN l i).tk)=false↔zo (pN l j).own (qX l i).th<(pN l i).tk):=by
   rw[decide_eq_false_iff_not]
   omega
  have ht:q3o (YS r l.length) i j=decide (zo (pN l j).own (qX l i).th>=(pN l i).tk):=by
   rw[q9L om,<-hb]
   rfl
  unfold prR
  by_cases hc:Rc l b i j
  ·rw[if_pos hc]
   unfold pr
   rw[ht]
   obtain⟨h1,h2,h3,h4⟩:=hc
   exact if_pos ⟨h1,h2,hd.2 h4,h3⟩
  ·rw[if_neg hc]
   unfold pr
   rw[ht]
   exact if_neg (fun hh=>hc ⟨hh.1,hh.2.1,hh.2.2.2,hd.1 hh.2.2.1⟩)
theorem qwd{l:List Ev}{t:Tab}{b:Int}{j:Nat}:∀ (m i:Nat) (o:List qQ),(∀ k,i<=k->k<i+m->pr l t b k j=prR l b k j)->rIn l t b j m i o=o++(List.range' i m).filterMap fun i=>prR l b i j
 | 0,i,o,_=>by simp[rIn]
 | m+1,i,o,h=>by
  unfold rIn
  rw[qwd m (i+1) _ (fun k h1 h2=>h k om om),h i om om,List.range'_succ,List.filterMap_cons]
  cases prR l b i j<;>simp
theorem qla{l:List Ev}{t:Tab}{b:Int}:∀ (m j:Nat) (o:List qQ),(∀ i k,i<k->k<j+m->pr l t b i k=prR l b i k)->q7f l t b m j o=o++(List.range' j m).flatMap (Yv l b)
 | 0,j,o,_=>by simp[q7f]
 | m+1,j,o,h=>by
  unfold q7f
  rw[qla m (j+1) _ (fun i k h1 h2=>h i k h1 om),qwd j 0 o (fun k _ h2=>h k j om om),List.range'_succ,List.flatMap_cons]
  unfold Yv
  rw[List.range_eq_range']
  simp
theorem qmP{l:List Ev}{h:q1M}{r:RR}(hr:run l=.inl h)(hrr:QA l=.inl r)(b:Int):yS l (YS r l.length) b=QT l b l.length:=by
 unfold yS QT
 rw[qla l.length 0 [] (fun i k h1 h2=>qKX hr hrr b h1 om),List.range_eq_range']
 simp
end Go.Fx.Mo
namespace Go.Fx.Tryz
set_option maxRecDepth 100000
open Go Go.Fx Go.Proofs
def Vc:=qx Tryz.f79
def qMt:=Tryz.f79.results.toList
abbrev yR K:=qH P qMt K
def f79 a b c d w K:=CS P Vc none [4] [4] (yR K) (zh 81 [(VS a b c),(Value.agg d)]) w
def qqD a b c d w K:=SC Vc 1 [4] [4] (yR K) 81 [(0,VS a b c),(1,Value.agg d)] w
abbrev qIP K:=kq Vc 1 [4] [4] (yR K)
def qy4 a b c d e f g h w K:=SC Vc 3 [4] [4] (yR K) 81 [(4,VS a b c),(3,VQ d),(0,VS e f g),(1,Value.agg h)] w
abbrev qxO K:=kq Vc 3 [4] [4] (yR K)
abbrev qFo K:=kq Vc 6 [0,3,4] [4] (qxO K)
def qsB a b c d f g h w K:=SG Vc 7 [4] [4] (yR K) 81 [(0,VS a b c),(3,VQ d),(4,VS f g h)] w
abbrev qGe K:=kq Vc 7 [4] [4] (yR K)
def qqO a b c d e f g h i j k l m w K:=SC Vc 15 [4] [4] (yR K) 81 [(5,VS a b c),(14,VS d e f),(0,VS g h i),(3,VQ j),(4,VS k l m)] w
abbrev qIH K:=kq Vc 15 [4] [4] (yR K)
def qqP a b c d e f g h i j k l m w K:=SC Vc 31 [4] [4] (yR K) 81 [(6,VB false),(5,VS a b c),(14,VS d e f),(0,VS g h i),(3,VQ j),(4,VS k l m)] w
abbrev q3K K:=kq Vc 31 [4] [4] (yR K)
abbrev qED K:=kq Vc 62 [3,5,6] [4] (q3K K)
def qv9 a b c d e f g h i j k l m n w K:=SC Vc 125 [3,5,6] [4] (q3K K) 81 [(7,VI a),(6,VB false),(5,VS b c d),(14,VS e f g),(0,VS h i j),(3,VQ k),(4,VS l m n)] w
abbrev qer K:=qq 0 (q3K K)
def qAa K Y6 e w:=zJ (fun e w=>CS P (cA Vc 500) none [7,0,5,3,6,4] [4,3,5,6] (qw [7,0,5,3,6,4] Y6 (qer K)) e w) e w
abbrev q19 K Y6:=qw [7,0,5,3,6,4] Y6 (qer K)
def qkl a b c d f g h i j k l m w K Y6:=SG Vc 500 [7,0,5,3,6,4] [4,3,5,6] (q19 K Y6) 81 [(7,VI a),(0,VS b c d),(5,VS f g h),(3,VQ i),(6,VB j),(4,VS k l m)] w
abbrev quh K Y6:=kq Vc 500 [7,0,5,3,6,4] [4,3,5,6] (q19 K Y6)
abbrev qBy K Y6:=kq Vc 1000 [0,3,6,4,7,5] [4,3,5,6] (quh K Y6)
def qvY a b c d f g h i j k l m w K Y6:=SG Vc 1001 [7,0,5,3,6,4] [4,3,5,6] (q19 K Y6) 81 [(0,VS a b c),(3,VQ d),(6,VB f),(4,VS g h i),(7,VI j),(5,VS k l m)] w
abbrev qjU K Y6:=kq Vc 1001 [7,0,5,3,6,4] [4,3,5,6] (q19 K Y6)
abbrev q2L K Y6:=qq 1 (qjU K Y6)
abbrev qCp K Y6:=kq Vc 4004 [0,5,3,6,4,7] [4,3,5,6,0,7] (q2L K Y6)
def qD a b c d f g h i j k l m w K Y6:=SG Vc 2003 [7,0,5,3,6,4] [4,3,5,6] (q19 K Y6) 81 [(0,VS a b c),(5,VS d f g),(3,VQ h),(6,VB i),(4,VS j k l),(7,VI m)] w
theorem qnh:qD a c d e f g h i j k l m w K Y6=(Y6 (ql.mk 81 [(7,(Value.int .i64 (IntKind.wrap .i64 (m+1)))),(0,(Value.slice a c d)),(5,(Value.slice e f g)),(3,(Value.pointer (some h))),(6,(Value.bool i)),(4,(Value.slice j k l))] []) w):=qV kr
def q8i a b c d f g h i j k l w K Y6:=SG Vc 128157 [0,5,3,6,4,7] [4,3,5,6,0,7] (q2L K Y6) 81 [(0,VS a b c),(3,VQ d),(4,VS f g h),(7,VI i),(5,VS j k l)] w
abbrev qCb K Y6:=kq Vc 128157 [0,5,3,6,4,7] [4,3,5,6,0,7] (q2L K Y6)
theorem qpG:q8i d e f g h i j c k l m w K Y6=(qi d (fun s=>0<=c/\c<(e:Nat)/\qf 2 (s.add (Int.toNat c*2)) w (fun n=>qJ 2 [(Value.agg n)]/\qt (([(Value.agg n)].map fun(v:Value)=>v.cells.toList).flatten.toArray) 148 w (fun t u=>∃ (o:OA) (p q:Nat),∃ r:World,(Builtin.append_ #[127,127] 127 #[(Value.slice k l m),(Value.slice (some (Addr.mk t 0 none)) 1 1)]).run P u=.ok (.slice o p q) r/\qD d e f o p q g true h i j c r K Y6)))):=qV (qT [0,3,6,4,7,5] (qCb K Y6) kr)
theorem qoG:qvY e f g c n h i j d k l m w K Y6=(qi e (fun d00=>0<=d/\d<(f:Nat)/\∃ N1:Int,w.drew.cell? ((d00.add (Int.toNat d*2)).add 1)=some (.int .i64 N1)/\∃ O1:Int,w.drew.cell? c=some (.int .i64 O1)/\qC (decide (N1<O1)) (qi e (fun e00=>0<=d/\d<(f:Nat)/\qf 2 (e00.add (Int.toNat d*2)) w.drew (fun Q1=>qJ 2 [(Value.agg Q1)]/\qt (([(Value.agg Q1)].map fun(v:Value)=>v.cells.toList).flatten.toArray) 148 w.drew (fun f00 g00=>∃ (R1:OA) (S1 T1:Nat),∃ U1:World,(Builtin.append_ #[127,127] 127 #[(Value.slice k l m),(Value.slice (some (Addr.mk f00 0 none)) 1 1)]).run P g00=.ok (.slice R1 S1 T1) U1/\qD e f g R1 S1 T1 c n h i j d U1 K Y6)))) (qi e (fun h00=>0<=d/\d<(f:Nat)/\∃ V1:Int,w.drew.drew.cell? (h00.add (Int.toNat d*2))=some (.int .i64 V1)/\∃ W1:Int,w.drew.drew.cell? (c.add 1)=some (.int .i64 W1)/\qC (decide (V1 > W1)) (qC (!n) (qf 2 c w.drew.drew (fun X1=>qJ 2 [(Value.agg X1)]/\qt (([(Value.agg X1)].map fun(v:Value)=>v.cells.toList).flatten.toArray) 148 w.drew.drew (fun i00 j00=>∃ (Y1:OA) (Z1 a2:Nat),∃ b2:World,(Builtin.append_ #[127,127] 127 #[(Value.slice k l m),(Value.slice (some (Addr.mk i00 0 none)) 1 1)]).run P j00=.ok (.slice Y1 Z1 a2) b2/\q8i e f g c h i j d Y1 Z1 a2 b2 K Y6))) (q8i e f g c h i j d k l m w.drew.drew K Y6)) (qi e (fun o=>0<=d/\d<(f:Nat)/\qi e (fun p=>0<=d/\d<(f:Nat)/\(∃ q:Int,w.drew.drew.drew.cell? c=some (.int .i64 q)/\(∃ u:Int,w.drew.drew.drew.cell? (o.add (Int.toNat d*2))=some (.int .i64 u)/\(MN P q u w.drew.drew.drew (fun c2 i0=>∃ d2:Int,i0.cell? (c.add 1)=some (.int .i64 d2)/\∃ e2:Int,i0.cell? ((p.add (Int.toNat d*2)).add 1)=some (.int .i64 e2)/\MX P d2 e2 i0 (fun f2 g2=>BV P 148 c2 f2 (fun h2=>qN 2 c h2 g2 (fun l00=>qD e f g k l m c n h i j d l00 K Y6)))))/\(∃ j0:Int,w.drew.drew.drew.cell? (c.add 1)=some (.int .i64 j0)/\(MN P q u w.drew.drew.drew (fun i2 N0=>∃ j2:Int,N0.cell? ((p.add (Int.toNat d*2)).add 1)=some (.int .i64 j2)/\MX P j0 j2 N0 (fun l2 m2=>BV P 148 i2 l2 (fun n2=>qN 2 c n2 m2 (fun m00=>qD e f g k l m c n h i j d m00 K Y6)))))/\(∃ O0:Int,w.drew.drew.drew.cell? ((p.add (Int.toNat d*2)).add 1)=some (.int .i64 O0)/\(MN P q u w.drew.drew.drew (fun o2 p2=>MX P j0 O0 p2 (fun q2 r2=>BV P 148 o2 q2 (fun s2=>qN 2 c s2 r2 (fun n00=>qD e f g k l m c n h i j d n00 K Y6)))))/\(MX P j0 O0 w.drew.drew.drew (fun t2 u2=>MN P q u u2 (fun v2 x2=>BV P 148 v2 t2 (fun y2=>qN 2 c y2 x2 (fun o00=>qD e f g k l m c n h i j d o00 K Y6)))))))/\(∃ l0:Int,w.drew.drew.drew.cell? ((p.add (Int.toNat d*2)).add 1)=some (.int .i64 l0)/\(MN P q u w.drew.drew.drew (fun z2 Q0=>∃ A2:Int,Q0.cell? (c.add 1)=some (.int .i64 A2)/\MX P A2 l0 Q0 (fun B2 C2=>BV P 148 z2 B2 (fun D2=>qN 2 c D2 C2 (fun p00=>qD e f g k l m c n h i j d p00 K Y6)))))/\(∃ R0:Int,w.drew.drew.drew.cell? (c.add 1)=some (.int .i64 R0)/\(MN P q u w.drew.drew.drew (fun E2 F2=>MX P R0 l0 F2 (fun G2 H2=>BV P 148 E2 G2 (fun I2=>qN 2 c I2 H2 (fun q00=>qD e f g k l m c n h i j d q00 K Y6)))))/\(MX P R0 l0 w.drew.drew.drew (fun J2 L2=>MN P q u L2 (fun M2 N2=>BV P 148 M2 J2 (fun O2=>qN 2 c O2 N2 (fun r00=>qD e f g k l m c n h i j d r00 K Y6))))))))/\(∃ a0:Int,w.drew.drew.drew.cell? (c.add 1)=some (.int .i64 a0)/\(∃ m0:Int,w.drew.drew.drew.cell? (o.add (Int.toNat d*2))=some (.int .i64 m0)/\(MN P q m0 w.drew.drew.drew (fun Q2 S0=>∃ R2:Int,S0.cell? ((p.add (Int.toNat d*2)).add 1)=some (.int .i64 R2)/\MX P a0 R2 S0 (fun S2 T2=>BV P 148 Q2 S2 (fun U2=>qN 2 c U2 T2 (fun s00=>qD e f g k l m c n h i j d s00 K Y6)))))/\(∃ T0:Int,w.drew.drew.drew.cell? ((p.add (Int.toNat d*2)).add 1)=some (.int .i64 T0)/\(MN P q m0 w.drew.drew.drew (fun V2 W2=>MX P a0 T0 W2 (fun X2 Y2=>BV P 148 V2 X2 (fun Z2=>qN 2 c Z2 Y2 (fun t00=>qD e f g k l m c n h i j d t00 K Y6)))))/\(MX P a0 T0 w.drew.drew.drew (fun a3 b3=>MN P q m0 b3 (fun c3 d3=>BV P 148 c3 a3 (fun e3=>qN 2 c e3 d3 (fun u00=>qD e f g k l m c n h i j d u00 K Y6)))))))/\(∃ n0:Int,w.drew.drew.drew.cell? ((p.add (Int.toNat d*2)).add 1)=some (.int .i64 n0)/\(∃ U0:Int,w.drew.drew.drew.cell? (o.add (Int.toNat d*2))=some (.int .i64 U0)/\(MN P q U0 w.drew.drew.drew (fun f3 g3=>MX P a0 n0 g3 (fun h3 i3=>BV P 148 f3 h3 (fun j3=>qN 2 c j3 i3 (fun v00=>qD e f g k l m c n h i j d v00 K Y6)))))/\(MX P a0 n0 w.drew.drew.drew (fun l3 m3=>MN P q U0 m3 (fun n3 o3=>BV P 148 n3 l3 (fun p3=>qN 2 c p3 o3 (fun x00=>qD e f g k l m c n h i j d x00 K Y6))))))/\(MX P a0 n0 w.drew.drew.drew (fun q3 V0=>∃ r3:Int,V0.cell? (o.add (Int.toNat d*2))=some (.int .i64 r3)/\MN P q r3 V0 (fun s3 t3=>BV P 148 s3 q3 (fun u3=>qN 2 c u3 t3 (fun y00=>qD e f g k l m c n h i j d y00 K Y6)))))))/\(∃ b0:Int,w.drew.drew.drew.cell? ((p.add (Int.toNat d*2)).add 1)=some (.int .i64 b0)/\(∃ o0:Int,w.drew.drew.drew.cell? (o.add (Int.toNat d*2))=some (.int .i64 o0)/\(MN P q o0 w.drew.drew.drew (fun v3 W0=>∃ x3:Int,W0.cell? (c.add 1)=some (.int .i64 x3)/\MX P x3 b0 W0 (fun y3 z3=>BV P 148 v3 y3 (fun A3=>qN 2 c A3 z3 (fun z00=>qD e f g k l m c n h i j d z00 K Y6)))))/\(∃ X0:Int,w.drew.drew.drew.cell? (c.add 1)=some (.int .i64 X0)/\(MN P q o0 w.drew.drew.drew (fun B3 C3=>MX P X0 b0 C3 (fun D3 E3=>BV P 148 B3 D3 (fun F3=>qN 2 c F3 E3 (fun A00=>qD e f g k l m c n h i j d A00 K Y6)))))/\(MX P X0 b0 w.drew.drew.drew (fun G3 H3=>MN P q o0 H3 (fun I3 J3=>BV P 148 I3 G3 (fun L3=>qN 2 c L3 J3 (fun B00=>qD e f g k l m c n h i j d B00 K Y6)))))))/\(∃ p0:Int,w.drew.drew.drew.cell? (c.add 1)=some (.int .i64 p0)/\(∃ Y0:Int,w.drew.drew.drew.cell? (o.add (Int.toNat d*2))=some (.int .i64 Y0)/\(MN P q Y0 w.drew.drew.drew (fun M3 N3=>MX P p0 b0 N3 (fun O3 Q3=>BV P 148 M3 O3 (fun R3=>qN 2 c R3 Q3 (fun C00=>qD e f g k l m c n h i j d C00 K Y6)))))/\(MX P p0 b0 w.drew.drew.drew (fun S3 T3=>MN P q Y0 T3 (fun U3 V3=>BV P 148 U3 S3 (fun W3=>qN 2 c W3 V3 (fun D00=>qD e f g k l m c n h i j d D00 K Y6))))))/\(MX P p0 b0 w.drew.drew.drew (fun X3 Z0=>∃ Y3:Int,Z0.cell? (o.add (Int.toNat d*2))=some (.int .i64 Y3)/\MN P q Y3 Z0 (fun Z3 a4=>BV P 148 Z3 X3 (fun b4=>qN 2 c b4 a4 (fun E00=>qD e f g k l m c n h i j d E00 K Y6))))))))/\(∃ r:Int,w.drew.drew.drew.cell? (o.add (Int.toNat d*2))=some (.int .i64 r)/\(∃ x:Int,w.drew.drew.drew.cell? c=some (.int .i64 x)/\(MN P x r w.drew.drew.drew (fun c4 q0=>∃ d4:Int,q0.cell? (c.add 1)=some (.int .i64 d4)/\∃ e4:Int,q0.cell? ((p.add (Int.toNat d*2)).add 1)=some (.int .i64 e4)/\MX P d4 e4 q0 (fun f4 g4=>BV P 148 c4 f4 (fun h4=>qN 2 c h4 g4 (fun F00=>qD e f g k l m c n h i j d F00 K Y6)))))/\(∃ r0:Int,w.drew.drew.drew.cell? (c.add 1)=some (.int .i64 r0)/\(MN P x r w.drew.drew.drew (fun i4 a1=>∃ j4:Int,a1.cell? ((p.add (Int.toNat d*2)).add 1)=some (.int .i64 j4)/\MX P r0 j4 a1 (fun l4 m4=>BV P 148 i4 l4 (fun n4=>qN 2 c n4 m4 (fun G00=>qD e f g k l m c n h i j d G00 K Y6)))))/\(∃ b1:Int,w.drew.drew.drew.cell? ((p.add (Int.toNat d*2)).add 1)=some (.int .i64 b1)/\(MN P x r w.drew.drew.drew (fun o4 p4=>MX P r0 b1 p4 (fun q4 r4=>BV P 148 o4 q4 (fun s4=>qN 2 c s4 r4 (fun H00=>qD e f g k l m c n h i j d H00 K Y6)))))/\(MX P r0 b1 w.drew.drew.drew (fun t4 u4=>MN P x r u4 (fun v4 x4=>BV P 148 v4 t4 (fun y4=>qN 2 c y4 x4 (fun I00=>qD e f g k l m c n h i j d I00 K Y6)))))))/\(∃ s0:Int,w.drew.drew.drew.cell? ((p.add (Int.toNat d*2)).add 1)=some (.int .i64 s0)/\(MN P x r w.drew.drew.drew (fun z4 c1=>∃ A4:Int,c1.cell? (c.add 1)=some (.int .i64 A4)/\MX P A4 s0 c1 (fun B4 C4=>BV P 148 z4 B4 (fun D4=>qN 2 c D4 C4 (fun J00=>qD e f g k l m c n h i j d J00 K Y6)))))/\(∃ d1:Int,w.drew.drew.drew.cell? (c.add 1)=some (.int .i64 d1)/\(MN P x r w.drew.drew.drew (fun E4 F4=>MX P d1 s0 F4 (fun G4 H4=>BV P 148 E4 G4 (fun I4=>qN 2 c I4 H4 (fun L00=>qD e f g k l m c n h i j d L00 K Y6)))))/\(MX P d1 s0 w.drew.drew.drew (fun J4 L4=>MN P x r L4 (fun M4 N4=>BV P 148 M4 J4 (fun O4=>qN 2 c O4 N4 (fun M00=>qD e f g k l m c n h i j d M00 K Y6))))))))/\(∃ c0:Int,w.drew.drew.drew.cell? (c.add 1)=some (.int .i64 c0)/\(∃ t0:Int,w.drew.drew.drew.cell? c=some (.int .i64 t0)/\(MN P t0 r w.drew.drew.drew (fun Q4 e1=>∃ R4:Int,e1.cell? ((p.add (Int.toNat d*2)).add 1)=some (.int .i64 R4)/\MX P c0 R4 e1 (fun S4 T4=>BV P 148 Q4 S4 (fun U4=>qN 2 c U4 T4 (fun N00=>qD e f g k l m c n h i j d N00 K Y6)))))/\(∃ f1:Int,w.drew.drew.drew.cell? ((p.add (Int.toNat d*2)).add 1)=some (.int .i64 f1)/\(MN P t0 r w.drew.drew.drew (fun V4 W4=>MX P c0 f1 W4 (fun X4 Y4=>BV P 148 V4 X4 (fun Z4=>qN 2 c Z4 Y4 (fun O00=>qD e f g k l m c n h i j d O00 K Y6)))))/\(MX P c0 f1 w.drew.drew.drew (fun a5 b5=>MN P t0 r b5 (fun c5 d5=>BV P 148 c5 a5 (fun e5=>qN 2 c e5 d5 (fun Q00=>qD e f g k l m c n h i j d Q00 K Y6)))))))/\(∃ u0:Int,w.drew.drew.drew.cell? ((p.add (Int.toNat d*2)).add 1)=some (.int .i64 u0)/\(∃ g1:Int,w.drew.drew.drew.cell? c=some (.int .i64 g1)/\(MN P g1 r w.drew.drew.drew (fun f5 g5=>MX P c0 u0 g5 (fun h5 i5=>BV P 148 f5 h5 (fun j5=>qN 2 c j5 i5 (fun R00=>qD e f g k l m c n h i j d R00 K Y6)))))/\(MX P c0 u0 w.drew.drew.drew (fun l5 m5=>MN P g1 r m5 (fun n5 o5=>BV P 148 n5 l5 (fun p5=>qN 2 c p5 o5 (fun S00=>qD e f g k l m c n h i j d S00 K Y6))))))/\(MX P c0 u0 w.drew.drew.drew (fun q5 h1=>∃ r5:Int,h1.cell? c=some (.int .i64 r5)/\MN P r5 r h1 (fun s5 t5=>BV P 148 s5 q5 (fun u5=>qN 2 c u5 t5 (fun T00=>qD e f g k l m c n h i j d T00 K Y6)))))))/\(∃ d0:Int,w.drew.drew.drew.cell? ((p.add (Int.toNat d*2)).add 1)=some (.int .i64 d0)/\(∃ v0:Int,w.drew.drew.drew.cell? c=some (.int .i64 v0)/\(MN P v0 r w.drew.drew.drew (fun v5 i1=>∃ x5:Int,i1.cell? (c.add 1)=some (.int .i64 x5)/\MX P x5 d0 i1 (fun y5 z5=>BV P 148 v5 y5 (fun A5=>qN 2 c A5 z5 (fun U00=>qD e f g k l m c n h i j d U00 K Y6)))))/\(∃ j1:Int,w.drew.drew.drew.cell? (c.add 1)=some (.int .i64 j1)/\(MN P v0 r w.drew.drew.drew (fun B5 C5=>MX P j1 d0 C5 (fun D5 E5=>BV P 148 B5 D5 (fun F5=>qN 2 c F5 E5 (fun V00=>qD e f g k l m c n h i j d V00 K Y6)))))/\(MX P j1 d0 w.drew.drew.drew (fun G5 H5=>MN P v0 r H5 (fun I5 J5=>BV P 148 I5 G5 (fun L5=>qN 2 c L5 J5 (fun W00=>qD e f g k l m c n h i j d W00 K Y6)))))))/\(∃ x0:Int,w.drew.drew.drew.cell? (c.add 1)=some (.int .i64 x0)/\(∃ l1:Int,w.drew.drew.drew.cell? c=some (.int .i64 l1)/\(MN P l1 r w.drew.drew.drew (fun M5 N5=>MX P x0 d0 N5 (fun O5 Q5=>BV P 148 M5 O5 (fun R5=>qN 2 c R5 Q5 (fun X00=>qD e f g k l m c n h i j d X00 K Y6)))))/\(MX P x0 d0 w.drew.drew.drew (fun S5 T5=>MN P l1 r T5 (fun U5 V5=>BV P 148 U5 S5 (fun W5=>qN 2 c W5 V5 (fun Y00=>qD e f g k l m c n h i j d Y00 K Y6))))))/\(MX P x0 d0 w.drew.drew.drew (fun X5 m1=>∃ Y5:Int,m1.cell? c=some (.int .i64 Y5)/\MN P Y5 r m1 (fun Z5 a6=>BV P 148 Z5 X5 (fun b6=>qN 2 c b6 a6 (fun Z00=>qD e f g k l m c n h i j d Z00 K Y6))))))))/\(∃ s:Int,w.drew.drew.drew.cell? (c.add 1)=some (.int .i64 s)/\(∃ e0:Int,w.drew.drew.drew.cell? c=some (.int .i64 e0)/\(∃ y0:Int,w.drew.drew.drew.cell? (o.add (Int.toNat d*2))=some (.int .i64 y0)/\(MN P e0 y0 w.drew.drew.drew (fun c6 n1=>∃ d6:Int,n1.cell? ((p.add (Int.toNat d*2)).add 1)=some (.int .i64 d6)/\MX P s d6 n1 (fun e6 f6=>BV P 148 c6 e6 (fun g6=>qN 2 c g6 f6 (fun a01=>qD e f g k l m c n h i j d a01 K Y6)))))/\(∃ o1:Int,w.drew.drew.drew.cell? ((p.add (Int.toNat d*2)).add 1)=some (.int .i64 o1)/\(MN P e0 y0 w.drew.drew.drew (fun h6 i6=>MX P s o1 i6 (fun j6 l6=>BV P 148 h6 j6 (fun m6=>qN 2 c m6 l6 (fun b01=>qD e f g k l m c n h i j d b01 K Y6)))))/\(MX P s o1 w.drew.drew.drew (fun n6 o6=>MN P e0 y0 o6 (fun p6 q6=>BV P 148 p6 n6 (fun r6=>qN 2 c r6 q6 (fun c01=>qD e f g k l m c n h i j d c01 K Y6)))))))/\(∃ z0:Int,w.drew.drew.drew.cell? ((p.add (Int.toNat d*2)).add 1)=some (.int .i64 z0)/\(∃ p1:Int,w.drew.drew.drew.cell? (o.add (Int.toNat d*2))=some (.int .i64 p1)/\(MN P e0 p1 w.drew.drew.drew (fun s6 t6=>MX P s z0 t6 (fun u6 v6=>BV P 148 s6 u6 (fun x6=>qN 2 c x6 v6 (fun d01=>qD e f g k l m c n h i j d d01 K Y6)))))/\(MX P s z0 w.drew.drew.drew (fun y6 z6=>MN P e0 p1 z6 (fun A6 B6=>BV P 148 A6 y6 (fun C6=>qN 2 c C6 B6 (fun e01=>qD e f g k l m c n h i j d e01 K Y6))))))/\(MX P s z0 w.drew.drew.drew (fun D6 q1=>∃ E6:Int,q1.cell? (o.add (Int.toNat d*2))=some (.int .i64 E6)/\MN P e0 E6 q1 (fun F6 G6=>BV P 148 F6 D6 (fun H6=>qN 2 c H6 G6 (fun f01=>qD e f g k l m c n h i j d f01 K Y6)))))))/\(∃ f0:Int,w.drew.drew.drew.cell? (o.add (Int.toNat d*2))=some (.int .i64 f0)/\(∃ A0:Int,w.drew.drew.drew.cell? c=some (.int .i64 A0)/\(MN P A0 f0 w.drew.drew.drew (fun I6 r1=>∃ J6:Int,r1.cell? ((p.add (Int.toNat d*2)).add 1)=some (.int .i64 J6)/\MX P s J6 r1 (fun L6 M6=>BV P 148 I6 L6 (fun N6=>qN 2 c N6 M6 (fun g01=>qD e f g k l m c n h i j d g01 K Y6)))))/\(∃ s1:Int,w.drew.drew.drew.cell? ((p.add (Int.toNat d*2)).add 1)=some (.int .i64 s1)/\(MN P A0 f0 w.drew.drew.drew (fun O6 Q6=>MX P s s1 Q6 (fun R6 S6=>BV P 148 O6 R6 (fun T6=>qN 2 c T6 S6 (fun h01=>qD e f g k l m c n h i j d h01 K Y6)))))/\(MX P s s1 w.drew.drew.drew (fun U6 V6=>MN P A0 f0 V6 (fun W6 X6=>BV P 148 W6 U6 (fun Z6=>qN 2 c Z6 X6 (fun i01=>qD e f g k l m c n h i j d i01 K Y6)))))))/\(∃ B0:Int,w.drew.drew.drew.cell? ((p.add (Int.toNat d*2)).add 1)=some (.int .i64 B0)/\(∃ t1:Int,w.drew.drew.drew.cell? c=some (.int .i64 t1)/\(MN P t1 f0 w.drew.drew.drew (fun a7 b7=>MX P s B0 b7 (fun c7 d7=>BV P 148 a7 c7 (fun e7=>qN 2 c e7 d7 (fun j01=>qD e f g k l m c n h i j d j01 K Y6)))))/\(MX P s B0 w.drew.drew.drew (fun f7 g7=>MN P t1 f0 g7 (fun h7 i7=>BV P 148 h7 f7 (fun j7=>qN 2 c j7 i7 (fun l01=>qD e f g k l m c n h i j d l01 K Y6))))))/\(MX P s B0 w.drew.drew.drew (fun l7 u1=>∃ m7:Int,u1.cell? c=some (.int .i64 m7)/\MN P m7 f0 u1 (fun n7 o7=>BV P 148 n7 l7 (fun p7=>qN 2 c p7 o7 (fun m01=>qD e f g k l m c n h i j d m01 K Y6)))))))/\(∃ y:Int,w.drew.drew.drew.cell? ((p.add (Int.toNat d*2)).add 1)=some (.int .i64 y)/\(∃ C0:Int,w.drew.drew.drew.cell? c=some (.int .i64 C0)/\(∃ v1:Int,w.drew.drew.drew.cell? (o.add (Int.toNat d*2))=some (.int .i64 v1)/\(MN P C0 v1 w.drew.drew.drew (fun q7 r7=>MX P s y r7 (fun s7 t7=>BV P 148 q7 s7 (fun u7=>qN 2 c u7 t7 (fun n01=>qD e f g k l m c n h i j d n01 K Y6)))))/\(MX P s y w.drew.drew.drew (fun v7 x7=>MN P C0 v1 x7 (fun y7 z7=>BV P 148 y7 v7 (fun A7=>qN 2 c A7 z7 (fun o01=>qD e f g k l m c n h i j d o01 K Y6))))))/\(MX P s y w.drew.drew.drew (fun B7 x1=>∃ C7:Int,x1.cell? (o.add (Int.toNat d*2))=some (.int .i64 C7)/\MN P C0 C7 x1 (fun D7 E7=>BV P 148 D7 B7 (fun F7=>qN 2 c F7 E7 (fun p01=>qD e f g k l m c n h i j d p01 K Y6))))))/\(∃ D0:Int,w.drew.drew.drew.cell? (o.add (Int.toNat d*2))=some (.int .i64 D0)/\(∃ y1:Int,w.drew.drew.drew.cell? c=some (.int .i64 y1)/\(MN P y1 D0 w.drew.drew.drew (fun G7 H7=>MX P s y H7 (fun I7 J7=>BV P 148 G7 I7 (fun L7=>qN 2 c L7 J7 (fun q01=>qD e f g k l m c n h i j d q01 K Y6)))))/\(MX P s y w.drew.drew.drew (fun M7 N7=>MN P y1 D0 N7 (fun O7 Q7=>BV P 148 O7 M7 (fun R7=>qN 2 c R7 Q7 (fun r01=>qD e f g k l m c n h i j d r01 K Y6))))))/\(MX P s y w.drew.drew.drew (fun S7 z1=>∃ T7:Int,z1.cell? c=some (.int .i64 T7)/\MN P T7 D0 z1 (fun U7 V7=>BV P 148 U7 S7 (fun W7=>qN 2 c W7 V7 (fun s01=>qD e f g k l m c n h i j d s01 K Y6))))))/\(MX P s y w.drew.drew.drew (fun X7 E0=>∃ Y7:Int,E0.cell? c=some (.int .i64 Y7)/\∃ Z7:Int,E0.cell? (o.add (Int.toNat d*2))=some (.int .i64 Z7)/\MN P Y7 Z7 E0 (fun a8 b8=>BV P 148 a8 X7 (fun c8=>qN 2 c c8 b8 (fun t01=>qD e f g k l m c n h i j d t01 K Y6)))))))/\(∃ t:Int,w.drew.drew.drew.cell? ((p.add (Int.toNat d*2)).add 1)=some (.int .i64 t)/\(∃ g0:Int,w.drew.drew.drew.cell? c=some (.int .i64 g0)/\(∃ F0:Int,w.drew.drew.drew.cell? (o.add (Int.toNat d*2))=some (.int .i64 F0)/\(MN P g0 F0 w.drew.drew.drew (fun d8 A1=>∃ e8:Int,A1.cell? (c.add 1)=some (.int .i64 e8)/\MX P e8 t A1 (fun f8 g8=>BV P 148 d8 f8 (fun h8=>qN 2 c h8 g8 (fun u01=>qD e f g k l m c n h i j d u01 K Y6)))))/\(∃ B1:Int,w.drew.drew.drew.cell? (c.add 1)=some (.int .i64 B1)/\(MN P g0 F0 w.drew.drew.drew (fun i8 j8=>MX P B1 t j8 (fun l8 m8=>BV P 148 i8 l8 (fun n8=>qN 2 c n8 m8 (fun v01=>qD e f g k l m c n h i j d v01 K Y6)))))/\(MX P B1 t w.drew.drew.drew (fun o8 p8=>MN P g0 F0 p8 (fun q8 r8=>BV P 148 q8 o8 (fun s8=>qN 2 c s8 r8 (fun x01=>qD e f g k l m c n h i j d x01 K Y6)))))))/\(∃ G0:Int,w.drew.drew.drew.cell? (c.add 1)=some (.int .i64 G0)/\(∃ C1:Int,w.drew.drew.drew.cell? (o.add (Int.toNat d*2))=some (.int .i64 C1)/\(MN P g0 C1 w.drew.drew.drew (fun t8 u8=>MX P G0 t u8 (fun v8 x8=>BV P 148 t8 v8 (fun y8=>qN 2 c y8 x8 (fun y01=>qD e f g k l m c n h i j d y01 K Y6)))))/\(MX P G0 t w.drew.drew.drew (fun z8 A8=>MN P g0 C1 A8 (fun B8 C8=>BV P 148 B8 z8 (fun D8=>qN 2 c D8 C8 (fun z01=>qD e f g k l m c n h i j d z01 K Y6))))))/\(MX P G0 t w.drew.drew.drew (fun E8 D1=>∃ F8:Int,D1.cell? (o.add (Int.toNat d*2))=some (.int .i64 F8)/\MN P g0 F8 D1 (fun G8 H8=>BV P 148 G8 E8 (fun I8=>qN 2 c I8 H8 (fun A01=>qD e f g k l m c n h i j d A01 K Y6)))))))/\(∃ h0:Int,w.drew.drew.drew.cell? (o.add (Int.toNat d*2))=some (.int .i64 h0)/\(∃ H0:Int,w.drew.drew.drew.cell? c=some (.int .i64 H0)/\(MN P H0 h0 w.drew.drew.drew (fun J8 E1=>∃ L8:Int,E1.cell? (c.add 1)=some (.int .i64 L8)/\MX P L8 t E1 (fun M8 N8=>BV P 148 J8 M8 (fun O8=>qN 2 c O8 N8 (fun B01=>qD e f g k l m c n h i j d B01 K Y6)))))/\(∃ F1:Int,w.drew.drew.drew.cell? (c.add 1)=some (.int .i64 F1)/\(MN P H0 h0 w.drew.drew.drew (fun Q8 R8=>MX P F1 t R8 (fun S8 T8=>BV P 148 Q8 S8 (fun U8=>qN 2 c U8 T8 (fun C01=>qD e f g k l m c n h i j d C01 K Y6)))))/\(MX P F1 t w.drew.drew.drew (fun V8 W8=>MN P H0 h0 W8 (fun X8 Y8=>BV P 148 X8 V8 (fun Z8=>qN 2 c Z8 Y8 (fun D01=>qD e f g k l m c n h i j d D01 K Y6)))))))/\(∃ I0:Int,w.drew.drew.drew.cell? (c.add 1)=some (.int .i64 I0)/\(∃ G1:Int,w.drew.drew.drew.cell? c=some (.int .i64 G1)/\(MN P G1 h0 w.drew.drew.drew (fun a9 b9=>MX P I0 t b9 (fun c9 d9=>BV P 148 a9 c9 (fun e9=>qN 2 c e9 d9 (fun E01=>qD e f g k l m c n h i j d E01 K Y6)))))/\(MX P I0 t w.drew.drew.drew (fun f9 g9=>MN P G1 h0 g9 (fun h9 i9=>BV P 148 h9 f9 (fun j9=>qN 2 c j9 i9 (fun F01=>qD e f g k l m c n h i j d F01 K Y6))))))/\(MX P I0 t w.drew.drew.drew (fun l9 H1=>∃ m9:Int,H1.cell? c=some (.int .i64 m9)/\MN P m9 h0 H1 (fun n9 o9=>BV P 148 n9 l9 (fun p9=>qN 2 c p9 o9 (fun G01=>qD e f g k l m c n h i j d G01 K Y6)))))))/\(∃ z:Int,w.drew.drew.drew.cell? (c.add 1)=some (.int .i64 z)/\(∃ J0:Int,w.drew.drew.drew.cell? c=some (.int .i64 J0)/\(∃ I1:Int,w.drew.drew.drew.cell? (o.add (Int.toNat d*2))=some (.int .i64 I1)/\(MN P J0 I1 w.drew.drew.drew (fun q9 r9=>MX P z t r9 (fun s9 t9=>BV P 148 q9 s9 (fun u9=>qN 2 c u9 t9 (fun H01=>qD e f g k l m c n h i j d H01 K Y6)))))/\(MX P z t w.drew.drew.drew (fun v9 x9=>MN P J0 I1 x9 (fun y9 z9=>BV P 148 y9 v9 (fun A9=>qN 2 c A9 z9 (fun I01=>qD e f g k l m c n h i j d I01 K Y6))))))/\(MX P z t w.drew.drew.drew (fun B9 J1=>∃ C9:Int,J1.cell? (o.add (Int.toNat d*2))=some (.int .i64 C9)/\MN P J0 C9 J1 (fun D9 E9=>BV P 148 D9 B9 (fun F9=>qN 2 c F9 E9 (fun J01=>qD e f g k l m c n h i j d J01 K Y6))))))/\(∃ L0:Int,w.drew.drew.drew.cell? (o.add (Int.toNat d*2))=some (.int .i64 L0)/\(∃ L1:Int,w.drew.drew.drew.cell? c=some (.int .i64 L1)/\(MN P L1 L0 w.drew.drew.drew (fun G9 H9=>MX P z t H9 (fun I9 J9=>BV P 148 G9 I9 (fun L9=>qN 2 c L9 J9 (fun L01=>qD e f g k l m c n h i j d L01 K Y6)))))/\(MX P z t w.drew.drew.drew (fun M9 N9=>MN P L1 L0 N9 (fun O9 Q9=>BV P 148 O9 M9 (fun R9=>qN 2 c R9 Q9 (fun M01=>qD e f g k l m c n h i j d M01 K Y6))))))/\(MX P z t w.drew.drew.drew (fun S9 M1=>∃ T9:Int,M1.cell? c=some (.int .i64 T9)/\MN P T9 L0 M1 (fun U9 V9=>BV P 148 U9 S9 (fun W9=>qN 2 c W9 V9 (fun N01=>qD e f g k l m c n h i j d N01 K Y6))))))/\(MX P z t w.drew.drew.drew (fun X9 M0=>∃ Y9:Int,M0.cell? c=some (.int .i64 Y9)/\∃ Z9:Int,M0.cell? (o.add (Int.toNat d*2))=some (.int .i64 Z9)/\MN P Y9 Z9 M0 (fun a00 b00=>BV P 148 a00 X9 (fun c00=>qN 2 c c00 b00 (fun O01=>qD e f g k l m c n h i j d O01 K Y6)))))))))))))):=qV (qT [0,5,3,6,4,7] (qjU K Y6) (QJ 1 [4,3,5,6,0,7] (q2L K Y6) (qT [28,0,3,6,4,7,5] (qCp K Y6) kr)))
def qka a b c d f w K:=SG Vc 63 [4] [4] (yR K) 81 [(3,VQ a),(5,VS b c d),(6,VB f)] w
abbrev qjv K:=kq Vc 63 [4] [4] (yR K)
abbrev qAc K:=kq Vc 126 [5] [4] (qjv K)
def q3g a b c w K:=SG Vc 127 [4] [4] (yR K) 81 [(5,VS a b c)] w
abbrev qBM K:=kq Vc 127 [4] [4] (yR K)
theorem qge:q3g c d e w K=(K (Value.slice c d e) w):=qV (qT [4] (qBM K) kr)
theorem qgy:qka f c d e g w K=(qC (!g) (qf 2 f w (fun h=>qJ 2 [(Value.agg h)]/\qt (([(Value.agg h)].map fun(v:Value)=>v.cells.toList).flatten.toArray) 148 w (fun m n=>∃ (i:OA) (j k:Nat),∃ l:World,(Builtin.append_ #[127,127] 127 #[(Value.slice c d e),(Value.slice (some (Addr.mk m 0 none)) 1 1)]).run P n=.ok (.slice i j k) l/\q3g i j k l K))) (q3g c d e w K)):=qV (qT [5] (qjv K) (qT [75,3,5] (qAc K) kr))
theorem qhq:qkl c d e f g h i j k l m n w K Y6=(∃ o:Int,(∀ wq,zZ w wq->(Builtin.len_ #[127] 3 #[(Value.slice d e f)]).run P wq=.ok (.int .i64 o) wq)/\qC (decide (c<o)) (qvY d e f j k l m n c g h i w K Y6) (qka j g h i k w K)):=qV (qT [0,3,6,4,7,5] (quh K Y6) (qT [18,0,3,6,4,7,5] (qBy K Y6) kr))
theorem qni:qv9 a c d e m n o f g h i j k l w K=(za (qAa K) (ql.mk 81 [(7,(Value.int .i64 a)),(0,(Value.slice f g h)),(5,(Value.slice c d e)),(3,(Value.pointer (some i))),(6,(Value.bool false)),(4,(Value.slice j k l))] []) w):=Eq.trans (b:=CS P (cA Vc 125) none [3,5,6] [4] (q3K K) (ql.mk 81 [(7,(VI a)),(6,(VB false)),(5,(VS c d e)),(14,(VS m n o)),(0,(VS f g h)),(3,(VP (some i))),(4,(VS j k l))] []) w) kr (Eq.trans (YD 0 [4,3,5,6] (qer K) kr) ((qY (b:=(cA Vc 500)) (X':=[4,3,5,6]) (H:=[7,0,5,3,6,4]) kr kr kr).trans kr))
theorem qq3:qqP c d e f g h i j k l m n o w K=(qv9 0 c d e f g h i j k l m n o w K):=Eq.trans (b:=CS P (cA Vc 31) none [4] [4] (yR K) (ql.mk 81 [(6,(VB false)),(5,(VS c d e)),(14,(VS f g h)),(0,(VS i j k)),(3,(VP (some l))),(4,(VS m n o))] []) w) kr (Eq.trans (zN [3,5,6] (q3K K) kr) (Eq.trans (zN [7,0,5,3,6,4] (qED K) kr) kr))
theorem qlX:qqO c d e f g h i j k l m n o w K=(qqP c d e f g h i j k l m n o w K):=Eq.trans (b:=CS P (cA Vc 15) none [4] [4] (yR K) (ql.mk 81 [(5,(VS c d e)),(14,(VS f g h)),(0,(VS i j k)),(3,(VP (some l))),(4,(VS m n o))] []) w) kr (Eq.trans (zN [0,5,3,6,4] (qIH K) kr) kr)
theorem qme:qsB c d e f g h i w K=(∃ (j:OA) (k l:Nat),∃ m:World,(Instr.buildSlice 127 0 ([]:List (Nat × Value)).toArray).run P w=.ok (.slice j k l) m/\qqO j k l j k l c d e f g h i m K):=qV (qT [0,5,3,4] (qGe K) kr)
theorem qnp:qy4 g h i c d e f j w K=(∃ k:Int,w.cell? c=some (.int .i64 k)/\∃ l:Int,w.cell? (c.add 1)=some (.int .i64 l)/\qC (decide (k>=l)) (K (Value.slice d e f) w) (qsB d e f c g h i w K)):=Eq.trans (b:=CS P (cA Vc 3) none [4] [4] (yR K) (ql.mk 81 [(4,(VS g h i)),(3,(VP (some c))),(0,(VS d e f)),(1,(Value.agg j))] []) w) kr (Eq.trans (zN [0,3,4] (qxO K) kr) (Eq.trans (zN [12,0,3,4] (qFo K) kr) kr))
theorem qp5:qqD d e f c w K=(qt c 148 w (fun g h=>qy4 none 0 0 (Addr.mk g 0 none) d e f c h K)):=Eq.trans (b:=CS P (cA Vc 1) none [4] [4] (yR K) (ql.mk 81 [(0,(VS d e f)),(1,(Value.agg c))] []) w) kr (Eq.trans (zN [0,3,4] (qIP K) kr) kr)
theorem qEL:f79 a b c d w K=(qqD a b c d w K):=kr
theorem qIc a b c d w K(h:f79 a b c d w K):qa P 79 [(Value.slice a b c),(Value.agg d)] w K:=zj Vc Tryz.func79 h
def c49:=qx Tryz.f49
def qLq:=Tryz.f49.results.toList
abbrev Qn K:=qH P qLq K
def f49 a b c w K:=CS P c49 none [2] [2] (Qn K) (zh 44 [(VS a b c)]) w
def qwp a b c w K:=SC c49 1 [2] [2] (Qn K) 44 [(0,VS a b c)] w
abbrev qI5 K:=kq c49 1 [2] [2] (Qn K)
def qx9 a b c d e f w K:=SC c49 3 [2] [2] (Qn K) 44 [(2,VS a b c),(0,VS d e f)] w
abbrev qIh K:=kq c49 3 [2] [2] (Qn K)
def qt0 a b c d e f g h i j k l w K:=SC c49 7 [2] [2] (Qn K) 44 [(3,VS a b c),(7,VS d e f),(2,VS g h i),(0,VS j k l)] w
abbrev q5l K:=kq c49 7 [2] [2] (Qn K)
abbrev qHI K:=kq c49 14 [3] [2] (q5l K)
def qsy a b c d e f g h i j k l m w K:=SC c49 29 [3] [2] (q5l K) 44 [(4,VI a),(3,VS b c d),(7,VS e f g),(2,VS h i j),(0,VS k l m)] w
abbrev qhu K:=qq 0 (q5l K)
def qD2 K Y4 e w:=zJ (fun e w=>CS P (cA c49 116) none [4,3,0,2] [2,3] (qw [4,3,0,2] Y4 (qhu K)) e w) e w
abbrev q0I K Y4:=qw [4,3,0,2] Y4 (qhu K)
def qkI a b c d f g h i j k w K Y4:=SG c49 116 [4,3,0,2] [2,3] (q0I K Y4) 44 [(4,VI a),(3,VS b c d),(0,VS f g h),(2,VS i j k)] w
abbrev qwt K Y4:=kq c49 116 [4,3,0,2] [2,3] (q0I K Y4)
abbrev qGr K Y4:=kq c49 232 [0,2,4,3] [2,3] (qwt K Y4)
def qqS a b c d f g h i j k w K Y4:=SG c49 233 [4,3,0,2] [2,3] (q0I K Y4) 44 [(0,VS a b c),(2,VS d f g),(4,VI h),(3,VS i j k)] w
abbrev qvs K Y4:=kq c49 233 [4,3,0,2] [2,3] (q0I K Y4)
abbrev qyS K Y4:=qq 1 (qvs K Y4)
abbrev qIW K Y4:=kq c49 932 [3,0,2,4] [2,3,0,4] (qyS K Y4)
def q7B a b c d f g h i j k w K Y4:=SG c49 467 [4,3,0,2] [2,3] (q0I K Y4) 44 [(3,VS a b c),(0,VS d f g),(2,VS h i j),(4,VI k)] w
theorem qpJ:q7B a c d e f g h i j k w K Y4=(Y4 (ql.mk 44 [(4,(Value.int .i64 (IntKind.wrap .i64 (k+1)))),(3,(Value.slice a c d)),(0,(Value.slice e f g)),(2,(Value.slice h i j))] []) w):=qV kr
theorem qmO:qqS d e f g h i c j k l w K Y4=(qi d (fun b0=>0<=c/\c<(e:Nat)/\qf 6 (b0.add (Int.toNat c*6)) w (fun c0=>qa P 50 [(Value.agg c0)] w (fun d0 m=>∃ p:Bool,d0=(.bool p)/\qC p (qi d (fun e0=>0<=c/\c<(e:Nat)/\∃ n:Int,m.cell? ((e0.add (Int.toNat c*6)).add 3)=some (.int .u32 n)/\qi d (fun f0=>0<=c/\c<(e:Nat)/\∃ o:Int,m.cell? ((f0.add (Int.toNat c*6)).add 5)=some (.int .i64 o)/\∃ q:Int,∃ r:World,(Builtin.min_ #[3,3] 3 #[(Value.int .i64 (IntKind.wrap .i64 ((IntKind.wrap .i64 n)+o))),(Value.int .i64 4294967296)]).run P m=.ok (.int .i64 q) r/\∃ s:Array Value,(∀ wq,(Instr.build 148 #[(0,(Value.int .i64 (IntKind.wrap .i64 n))),(1,(Value.int .i64 q))]).run P wq=.ok (.agg s) wq)/\qa P 79 [(Value.slice j k l),(Value.agg s)] r (fun g0 h0=>∃ (t:OA) (u v:Nat),g0=(.slice t u v)/\∃ x:Array Value,(∀ wq,(Instr.build 148 #[(0,(Value.int .i64 0)),(1,(Value.int .i64 (IntKind.wrap .i64 ((IntKind.wrap .i64 ((IntKind.wrap .i64 n)+o))-4294967296))))]).run P wq=.ok (.agg x) wq)/\qa P 79 [(Value.slice t u v),(Value.agg x)] h0 (fun i0 j0=>∃ (y:OA) (z a0:Nat),i0=(.slice y z a0)/\q7B y z a0 d e f g h i c j0 K Y4))))) (q7B j k l d e f g h i c m K Y4))))):=qV (qT [3,0,2,4] (qvs K Y4) (QJ 1 [2,3,0,4] (qyS K Y4) (qT [18,0,2,4,3] (qIW K Y4) kr)))
def quD a b c w K:=SG c49 15 [2] [2] (Qn K) 44 [(3,VS a b c)] w
abbrev qBE K:=kq c49 15 [2] [2] (Qn K)
theorem qmj:quD c d e w K=(K (Value.slice c d e) w):=qV (qT [2] (qBE K) kr)
theorem qdm:qkI c d e f g h i j k l w K Y4=(∃ m:Int,(∀ wq,zZ w wq->(Builtin.len_ #[22] 3 #[(Value.slice g h i)]).run P wq=.ok (.int .i64 m) wq)/\qC (decide (c<m)) (qqS g h i j k l c d e f w K Y4) (quD d e f w K)):=qV (qT [0,2,4,3] (qwt K Y4) (qT [11,0,2,4,3] (qGr K Y4) kr))
theorem qnQ:qsy a c d e l m n f g h i j k w K=(za (qD2 K) (ql.mk 44 [(4,(Value.int .i64 a)),(3,(Value.slice c d e)),(0,(Value.slice i j k)),(2,(Value.slice f g h))] []) w):=Eq.trans (b:=CS P (cA c49 29) none [3] [2] (q5l K) (ql.mk 44 [(4,(VI a)),(3,(VS c d e)),(7,(VS l m n)),(2,(VS f g h)),(0,(VS i j k))] []) w) kr (Eq.trans (YD 0 [2,3] (qhu K) kr) ((qY (b:=(cA c49 116)) (X':=[2,3]) (H:=[4,3,0,2]) kr kr kr).trans kr))
theorem qnf:qt0 c d e f g h i j k l m n w K=(qsy 0 c d e f g h i j k l m n w K):=Eq.trans (b:=CS P (cA c49 7) none [2] [2] (Qn K) (ql.mk 44 [(3,(VS c d e)),(7,(VS f g h)),(2,(VS i j k)),(0,(VS l m n))] []) w) kr (Eq.trans (zN [3] (q5l K) kr) (Eq.trans (zN [4,3,0,2] (qHI K) kr) kr))
theorem qns:qx9 c d e f g h w K=(∃ (i:OA) (j k:Nat),∃ l:World,(Instr.buildSlice 127 0 ([]:List (Nat × Value)).toArray).run P w=.ok (.slice i j k) l/\qt0 i j k i j k c d e f g h l K):=Eq.trans (b:=CS P (cA c49 3) none [2] [2] (Qn K) (ql.mk 44 [(2,(VS c d e)),(0,(VS f g h))] []) w) kr (Eq.trans (zN [3,0,2] (qIh K) kr) kr)
theorem qmJ:qwp c d e w K=(qx9 none 0 0 c d e w K):=Eq.trans (b:=CS P (cA c49 1) none [2] [2] (Qn K) (ql.mk 44 [(0,(VS c d e))] []) w) kr (Eq.trans (zN [0,2] (qI5 K) kr) kr)
theorem qFz:f49 a b c w K=(qwp a b c w K):=kr
theorem qHV a b c w K(h:f49 a b c w K):qa P 49 [(Value.slice a b c)] w K:=zj c49 Tryz.func49 h
def c48:=qx Tryz.f48
def qLK:=Tryz.f48.results.toList
abbrev qex K:=qH P qLK K
def f48 a b c w K:=CS P c48 none [2] [2] (qex K) (zh 25 [(VS a b c)]) w
abbrev qJu K:=kq c48 7 [2] [2] (qex K)
abbrev qr9 K:=qq 0 (qJu K)
def qAA K Y0 e w:=zJ (fun e w=>CS P (cA c48 116) none [4,0,3,2] [2,3] (qw [4,0,3,2] Y0 (qr9 K)) e w) e w
abbrev q9h K Y0:=qw [4,0,3,2] Y0 (qr9 K)
def qiI a b c d f g w K Y0:=SG c48 116 [4,0,3,2] [2,3] (q9h K Y0) 25 [(4,VI a),(0,VS b c d),(3,VI f),(2,VI g)] w
def qtT a b c d f g w K Y0:=SG c48 233 [4,0,3,2] [2,3] (q9h K Y0) 25 [(0,VS a b c),(2,VI d),(4,VI f),(3,VI g)] w
def qtH a b c d f g w K Y0:=SG c48 467 [4,0,3,2] [2,3] (q9h K Y0) 25 [(0,VS a b c),(3,VI d),(2,VI f),(4,VI g)] w
theorem qpb:qtH a b c d e f w K Y0=(Y0 (ql.mk 25 [(4,(Value.int .i64 (IntKind.wrap .i64 (f+1)))),(0,(Value.slice a b c)),(3,(Value.int .i64 d)),(2,(Value.int .i64 e))] []) w):=kr
theorem qoz:qtT b c d e a f w K Y0=(qi b (fun i=>0<=a/\a<(c:Nat)/\qi b (fun j=>0<=a/\a<(c:Nat)/\∃ g:Int,w.drew.cell? ((i.add (Int.toNat a*2)).add 1)=some (.int .i64 g)/\∃ h:Int,w.drew.cell? (j.add (Int.toNat a*2))=some (.int .i64 h)/\qtH b c d (IntKind.wrap .i64 (f+(IntKind.wrap .i64 (g-h)))) e a w.drew K Y0))):=kr
def qqF a w K:=SG c48 15 [2] [2] (qex K) 25 [(3,VI a)] w
theorem qoS:qqF a w K=(K (Value.int .i64 a) w):=kr
theorem qhF:qiI a b c d e f w K Y0=(∃ g:Int,(∀ wq,zZ w wq->(Builtin.len_ #[127] 3 #[(Value.slice b c d)]).run P wq=.ok (.int .i64 g) wq)/\qC (decide (a<g)) (qtT b c d f a e w K Y0) (qqF e w K)):=kr
theorem qHp:f48 a b c w K=(za (qAA K) (ql.mk 25 [(4,(Value.int .i64 0)),(0,(Value.slice a b c)),(3,(Value.int .i64 0)),(2,(Value.int .i64 0))] []) w):=kr
theorem qGs a b c w K(h:f48 a b c w K):qa P 48 [(Value.slice a b c)] w K:=zj c48 Tryz.func48 h
def c6:=qx Tryz.f6
def rs6:=Tryz.f6.results.toList
abbrev qEb K:=qH P rs6 K
def f6 a b c d w K:=CS P c6 none [4] [4] (qEb K) (zh 14 [(VS a b c),(VI d)]) w
def qrC a w K:=SG c6 7 [4] [4] (qEb K) 14 [(4,VB a)] w
theorem qbW:qrC a w K=(K (Value.bool a) w):=kr
theorem qL5:f6 a b c d w K=(∃ e:Int,(∀ wq,zZ w wq->(Builtin.len_ #[22] 3 #[(Value.slice a b c)]).run P wq=.ok (.int .i64 e) wq)/\qC (decide (e<=d)) (qa P 16 [(Value.slice a b c)] w (fun g h=>∃ f:Int,g=(.int .i64 f)/\qrC (decide (f<=600)) h K)) (qrC false w K)):=kr
theorem qKm a b c d w K(h:f6 a b c d w K):qa P 6 [(Value.slice a b c),(Value.int .i64 d)] w K:=zj c6 Tryz.func6 h
end Go.Fx.Tryz
namespace Go.Fx.Mo
abbrev vd:=Int × Int
def jf(s:List vd × Bool × vd)(p:vd):List vd × Bool × vd:=
 if p.2<s.2.2.1 then(s.1++[p],s.2.1,s.2.2)else
 if p.1 > s.2.2.2 then((if s.2.1 then s.1 else s.1++[s.2.2])++[p],true,s.2.2)else
 (s.1,s.2.1,(if p.1<s.2.2.1 then p.1 else s.2.2.1,if s.2.2.2<p.2 then p.2 else s.2.2.2))
def yd:List vd->List vd × Bool × vd->List vd × Bool × vd
 | [],s=>s
 | p::t,s=>yd t (jf s p)
def vC(l:List vd)(x:vd):List vd:=
 if x.1>=x.2 then l else if(yd l ([],false,x)).2.1 then(yd l ([],false,x)).1 else(yd l ([],false,x)).1++[(yd l ([],false,x)).2.2]
theorem qoD(s:List vd × Bool × vd)(p:vd):(jf s p).1.length+(if(jf s p).2.1 then 0 else 1)<=s.1.length+(if s.2.1 then 0 else 1)+1:=by
 obtain⟨o,d,x⟩:=s
 unfold jf
 dsimp only
 split
 ·simp;omega
 ·split
  ·cases d<;>simp
  ·simp
theorem q6G:∀ (l:List vd) (s:List vd × Bool × vd),(yd l s).1.length+(if(yd l s).2.1 then 0 else 1)<=s.1.length+(if s.2.1 then 0 else 1)+l.length
 | [],s=>by
  show s.1.length+_<=s.1.length+_+0
  exact Nat.le_refl _
 | p::t,s=>by
  have h1:=q6G t (jf s p)
  have h2:=qoD s p
  unfold yd
  simp only[List.length_cons]
  omega
theorem JW(l:List vd)(x:vd):(vC l x).length<=l.length+1:=by
 unfold vC
 split
 ·omega
 ·have:=q6G l ([],false,x)
  split
  ·rename_i h
   rw[h]at this
   simp at this;omega
  ·rename_i h
   simp at h
   rw[h]at this
   simp at this ⊢;omega
end Go.Fx.Mo
namespace Go.Fx.Tryz
open Go Go.Fx Go.Fx.Mo
open Go.Proofs
variable {w0 w:World} {H Y:qP} {K:KT}
set_option maxRecDepth 20000
def yV(p:vd):List Value:=[qj p.1,qj p.2]
def vR(l:List vd):List Value:=(l.map yV).flatten
theorem qhL{l:List vd}{i:Nat}(hi:i<l.length):((vR l).drop (i*2)).take 2=yV l[i]:=yD (f:=yV) (fun _ _=>rfl) hi
theorem qvg(l:List vd)(p:vd):vR (l++[p])=vR l++yV p:=by simp[vR]
theorem qEh(w:World):(Instr.buildSlice 127 0 ([]:List (Nat × Value)).toArray).run P w=.ok (.slice (some ⟨w.heap.size,0,none⟩) 0 0) (w.alloc (.cells #[] 148 (0,0))):=kr
theorem qzp:P.info? 148=some Tryz.t148:=kr
theorem q44(a b:Int)(wq:World):(Instr.build 148 [(0,(Value.int .i64 a)),(1,(Value.int .i64 b))].toArray).run P wq=.ok (.agg (yV (a,b)).toArray) wq:=kr
theorem q2w{p:Option Addr}{l c:Nat}(wq:World):(Builtin.len_ #[127] 3 [Value.slice p l c].toArray).run P wq=.ok (.int .i64 l) wq:=qZ p l c Tryz.underlying127 3
theorem qsI(a b:Int)(wq:World):(Builtin.max_ #[3,3] 3 [Value.int .i64 a,Value.int .i64 b].toArray).run P wq=.ok (.int .i64 (if a<b then b else a)) wq:=by
 simp[Builtin.max_,Builtin.max2]
theorem q0W{A Lo:qP}{oa:Option Addr}{oc nb:Nat}{out:List vd}{p:vd}{t:TypeId}(h:St w0 w (A++(Lo++H)))(hS:zC 2 148 (.slice oa out.length oc) out.length (vR out) Lo)(hN:zr w0 Lo){j:Nat}(hj:A[j]?=some (nb,Cs (yV p) t))(hb:out.length<1000000000) :
  ∃ g cap w' L',(Builtin.append_ #[127,127] 127 [.slice oa out.length oc,.slice (some ⟨nb,0,none⟩) 1 1].toArray).run P w=.ok (.slice (some ⟨g,0,none⟩) (out++[p]).length cap) w'/\
   zC 2 148 (.slice (some ⟨g,0,none⟩) (out++[p]).length cap) (out++[p]).length (vR (out++[p])) L'/\St w0 w' (A++(L'++H))/\zr w0 L':=by
 rw[show(out++[p]).length=out.length+1 by simp,qvg]
 exact St.append (P:=P) 127 127 148 Tryz.t148 (.agg #[qj 0,qj 0]) 2 16 Tryz.underlying127 qzp rfl rfl rfl rfl om h hS hN hj (by simp[yV]) (by simp[yV,Value.oneCell']) (by simp[maxLen];omega) om
set_option maxHeartbeats 4000000 in
theorem q6Y{l:List vd}{x:vd}{la:Option Addr}{lc:Nat}{Ll:qP}(h:St w0 w (Ll++H))(hl:zC 2 148 (.slice la l.length lc) l.length (vR l) Ll)(hlN:zr w0 Ll)(hb:l.length<100000000)
  (hK:∀ w' a c L,zC 2 148 (.slice a (vC l x).length c) (vC l x).length (vR (vC l x)) L->zr w0 L->St w0 w' (L++H)->K (.slice a (vC l x).length c) w') :
  qa P 79 [.slice la l.length lc,.agg (yV x).toArray] w K:=by
 refine qIc _ _ _ _ _ _ ?_
 rw[qEL,qp5]
 refine h.newC fun n4 w1 hn4 h1=>?_
 rw[qnp]
 refine⟨x.1,by rw[h1.cell (k:=0) rfl];rfl,x.2,by rw[qc,h1.cell (k:=0) rfl];rfl,?_⟩
 rw[qg]
 constructor
 ·intro hge
  have hge:x.1>=x.2:=by simpa using hge
  have e:vC l x=l:=by unfold vC;rw[if_pos hge]
  rw[e]at hK
  exact hK w1 la lc Ll hl hlN (h1.tail hn4)
 ·intro hlt
  have hlt:¬ x.1>=x.2:=by simpa using hlt
  have e:vC l x=if(yd l ([],false,x)).2.1 then(yd l ([],false,x)).1 else(yd l ([],false,x)).1++[(yd l ([],false,x)).2.2]:=by unfold vC;rw[if_neg hlt]
  rw[qme]
  refine⟨_,_,_,_,qEh w1,?_⟩
  have h2:=h1.alloc (.cells #[] 148 (0,0))
  have hn:=h1.le
  generalize w1.heap.size=n at h2 hn
  have h2:St w0 (w1.alloc (.cells #[] 148 (0,0))) ((n4,Cs (yV x) 148)::([(n,Cs [] 148)]++(Ll++H))):=h2.perm (List.Perm.swap ..)
  rw[qlX,qq3,qni]
  refine⟨fun m ee w=>∃ (i:Nat) (s:List vd × Bool × vd) (oa:Option Addr) (oc:Nat) (Lo:qP),i<=l.length/\m=l.length-i/\ee=ql.mk 81 [(7,qj (i:Nat)),(0,.slice la l.length lc),(5,.slice oa s.1.length oc),(3,(Value.pointer (some (Addr.mk n4 0 none)))),(6,.bool s.2.1),(4,qy)] []/\
    yd (l.drop i) s=yd l ([],false,x)/\s.1.length<=2*i/\zC 2 148 (.slice oa s.1.length oc) s.1.length (vR s.1) Lo/\zr w0 Lo/\St w0 w ((n4,Cs (yV s.2.2) 148)::(Lo++(Ll++H))),
   ⟨l.length,0,([],false,x),_,_,_,by omega,rfl,rfl,rfl,by simp,Qg 2 148 n,by simpa [zr]using hn,h2⟩,?_⟩
  rintro m ee w4 ⟨i,⟨o,d,y⟩,oa,oc,Lo,hi,rfl,rfl,hfin,hob,hS,hN,hw⟩
  show qkl ..
  rw[qhq]
  refine⟨l.length,fun wq _=>q2w wq,?_⟩
  rw[qg]
  dsimp only at hob hS hw
  constructor
  ·intro hlt
   have hlt:i<l.length:=by simpa using hlt
   rw[qoG]
   have hdrop:l.drop i=l[i]::l.drop (i+1):=List.drop_eq_getElem_cons hlt
   rw[hdrop,yd]at hfin
   generalize hY:(fun e' w'=>∃ m,m<l.length-i/\∃ (i:Nat) (s:List vd × Bool × vd) (oa:Option Addr) (oc:Nat) (Lo:qP),i<=l.length/\m=l.length-i/\e'=ql.mk 81 [(7,qj (i:Nat)),(0,.slice la l.length lc),(5,.slice oa s.1.length oc),(3,(Value.pointer (some (Addr.mk n4 0 none)))),(6,.bool s.2.1),(4,qy)] []/\
    yd (l.drop i) s=yd l ([],false,x)/\s.1.length<=2*i/\zC 2 148 (.slice oa s.1.length oc) s.1.length (vR s.1) Lo/\zr w0 Lo/\St w0 w' ((n4,Cs (yV s.2.2) 148)::(Lo++(Ll++H))))=Y6
   have next:∀ w5 (s:List vd × Bool × vd) oa oc Lo,jf (o,d,y) l[i]=s->s.1.length<=2*(i+1)->zC 2 148 (.slice oa s.1.length oc) s.1.length (vR s.1) Lo->zr w0 Lo->St w0 w5 ((n4,Cs (yV s.2.2) 148)::(Lo++(Ll++H)))->
     qD la l.length lc oa s.1.length oc (Addr.mk n4 0 none) s.2.1 none 0 0 (i:Nat) w5 K Y6:=by
    intro w5 s oa oc Lo hs hlen hS' hN' h5
    rw[qnh,<-hY]
    refine⟨l.length-(i+1),by omega,i+1,s,oa,oc,Lo,by omega,rfl,?_,by rw[<-hs];exact hfin,hlen,hS',hN',h5⟩
    rw[qk om om];rfl
   have hd:=hw.drew
   obtain⟨g,cc,hg,hld⟩:=QC hl (w:=w4.drew) (i:=i) (fun z hz=>hd.has _ _ (by simp[hz])) hlt
   obtain⟨hsa,-⟩:la=some ⟨g,0,none⟩/\lc=cc:=by simpa using hg
   subst hsa
   have hrw:∀ {w':World},St w0 w' ((n4,Cs (yV y) 148)::(Lo++(Ll++H)))->∀ j,j<2->w'.cell? (((Addr.mk g 0 none).add (Int.toNat (i:Int)*2)).add j)=(yV l[i])[j]?:=fun {w'} h' j hj=>by
    have hr:Qt w' 2 (.slice (some ⟨g,0,none⟩) l.length lc) l.length (vR l):=hl.row fun z hz=>h'.has _ _ (by simp[hz])
    obtain⟨a,c,hac,hld'⟩:=hr.ldA hlt
    obtain⟨rfl,-⟩:(⟨g,0,none⟩:Addr)=a/\lc=c:=by simpa using hac
    rcases hr.2 with⟨_,h0⟩ | ⟨a,c,h1,h2⟩
    ·omega
    ·obtain⟨rfl,-⟩:(⟨g,0,none⟩:Addr)=a/\lc=c:=by simpa using h1
     rw[Ya,Int.toNat_natCast,h2 _ om]
     have:=qhL hlt
     rw[<-this]
     simp[List.getElem?_take,hj]
   have r0:∀ {w':World},St w0 w' ((n4,Cs (yV y) 148)::(Lo++(Ll++H)))->w'.cell? ((Addr.mk g 0 none).add (Int.toNat (i:Int)*2))=some (qj l[i].1):=fun {w'} h'=>by
    have:=hrw h' 0 om
    rw[Ya,Nat.add_zero]at this
    exact this
   have r1:∀ {w':World},St w0 w' ((n4,Cs (yV y) 148)::(Lo++(Ll++H)))->w'.cell? (((Addr.mk g 0 none).add (Int.toNat (i:Int)*2)).add 1)=some (qj l[i].2):=fun {w'} h'=>hrw h' 1 om
   have x0:∀ {w':World},St w0 w' ((n4,Cs (yV y) 148)::(Lo++(Ll++H)))->w'.cell? (Addr.mk n4 0 none)=some (qj y.1):=fun {w'} h'=>by rw[h'.cell (k:=0) rfl];rfl
   have x1:∀ {w':World},St w0 w' ((n4,Cs (yV y) 148)::(Lo++(Ll++H)))->w'.cell? ((Addr.mk n4 0 none).add 1)=some (qj y.2):=fun {w'} h'=>by rw[qc,h'.cell (k:=0) rfl];rfl
   have ldp:∀ {w':World} {Q:Array Value->Prop},St w0 w' ((n4,Cs (yV y) 148)::(Lo++(Ll++H)))->Q (yV l[i]).toArray->qf 2 ((Addr.mk g 0 none).add (Int.toNat (i:Int)*2)) w' Q:=fun {w' Q} h' hq=>by
    obtain⟨g',cc',hg',hld'⟩:=QC hl (w:=w') (i:=i) (fun z hz=>h'.has _ _ (by simp[hz])) hlt
    obtain⟨hgg,-⟩:g=g'/\lc=cc':=by simpa using hg'
    subst hgg
    rw[Int.toNat_natCast]
    refine hld' _ ?_
    rw[qhL hlt];exact hq
   refine⟨by omega,by omega,_,r1 hd,_,x0 hd,?_⟩
   rw[qg]
   constructor
   ·intro hb1
    have hb1:l[i].2<y.1:=by simpa using hb1
    refine⟨by omega,by omega,ldp hd ⟨⟨rfl,trivial⟩,?_⟩⟩
    refine hd.newC fun n58 w5 hn58 h5=>?_
    have h5:St w0 w5 (((n58,Cs (yV l[i]) 148)::[(n4,Cs (yV y) 148)])++(Lo++(Ll++H))):=h5
    obtain⟨g',cap,w6,L',hru,hS',g6,hN'⟩:=q0W h5 hS hN (j:=0) rfl om
    refine⟨_,_,_,w6,hru,?_⟩
    have hs:jf (o,d,y) l[i]=(o++[l[i]],d,y):=by unfold jf;rw[if_pos hb1]
    exact next w6 (o++[l[i]],d,y) _ _ L' hs (by simp;omega) hS' hN' (St.tail (b:=n58) g6 hn58)
   ·intro hb1
    have hb1:¬ l[i].2<y.1:=by simpa using hb1
    have hd2:=hd.drew
    refine⟨by omega,by omega,_,r0 hd2,_,x1 hd2,?_⟩
    rw[qg]
    constructor
    ·intro hb2
     have hb2:l[i].1 > y.2:=by simpa using hb2
     have s9:∀ w5 (o':List vd) oa oc Lo',(if d then o else o++[y])=o'->zC 2 148 (.slice oa o'.length oc) o'.length (vR o') Lo'->zr w0 Lo'->St w0 w5 ((n4,Cs (yV y) 148)::(Lo'++(Ll++H)))->
       q8i (some ⟨g,0,none⟩) l.length lc (Addr.mk n4 0 none) none 0 0 (i:Nat) oa o'.length oc w5 K Y6:=by
      intro w5 o' oa oc Lo' ho' hS' hN' h5
      have hol:o'.length<=2*i+1:=by
       rw[<-ho']
       split
       ·omega
       ·simp;omega
      rw[qpG]
      refine⟨by omega,by omega,?_⟩
      obtain⟨g',cc',hg',hld'⟩:=QC hl (w:=w5) (i:=i) (fun z hz=>h5.has _ _ (by simp[hz])) hlt
      obtain⟨hgg,-⟩:g=g'/\lc=cc':=by simpa using hg'
      subst hgg
      rw[Int.toNat_natCast]
      refine hld' _ ?_
      rw[qhL hlt]
      refine⟨⟨rfl,trivial⟩,?_⟩
      refine h5.newC fun n87 w6 hn87 h6=>?_
      have h6:St w0 w6 (((n87,Cs (yV l[i]) 148)::[(n4,Cs (yV y) 148)])++(Lo'++(Ll++H))):=h6
      obtain⟨g2,cap,w7,L',hru,hS2,g7,hN2⟩:=q0W h6 hS' hN' (j:=0) rfl om
      refine⟨_,_,_,w7,hru,?_⟩
      have hs:jf (o,d,y) l[i]=(o'++[l[i]],true,y):=by unfold jf;rw[if_neg hb1,if_pos hb2,<-ho']
      exact next w7 (o'++[l[i]],true,y) _ _ L' hs (by simp;omega) hS2 hN2 (St.tail (b:=n87) g7 hn87)
     cases d
     ·rw[Bool.not_false,qm]
      refine hd2.ldA (k:=0) (i:=0) rfl (by simp[yV]) ⟨⟨rfl,trivial⟩,?_⟩
      refine hd2.newC fun n74 w5 hn74 h5=>?_
      have h5:St w0 w5 (((n74,Cs (yV y) 148)::[(n4,Cs (yV y) 148)])++(Lo++(Ll++H))):=h5
      obtain⟨g',cap,w6,L',hru,hS',g6,hN'⟩:=q0W h5 hS hN (j:=0) rfl om
      refine⟨_,_,_,w6,hru,?_⟩
      exact s9 w6 (o++[y]) _ _ L' rfl hS' hN' (St.tail (b:=n74) g6 hn74)
     ·rw[Bool.not_true,qd]
      exact s9 _ o oa oc Lo rfl hS hN hd2
    ·intro hb2
     have hb2:¬ l[i].1 > y.2:=by simpa using hb2
     have hd3:=hd2.drew
     refine⟨by omega,by omega,by omega,by omega,?_⟩
     have p0:=r0 hd3
     have p1:=r1 hd3
     have q0:=x0 hd3
     have q1:=x1 hd3
     have fin:∃ cs:Array Value,(∀ wq,(Instr.build 148 [(0,(Value.int .i64 (if l[i].1<y.1 then l[i].1 else y.1))),(1,(Value.int .i64 (if y.2<l[i].2 then l[i].2 else y.2)))].toArray).run P wq=.ok (Value.agg cs) wq)/\
       qN 2 (Addr.mk n4 0 none) cs w4.drew.drew.drew (fun w5=>qD (some ⟨g,0,none⟩) l.length lc oa o.length oc (Addr.mk n4 0 none) d none 0 0 (i:Nat) w5 K Y6):=by
      refine⟨_,fun wq=>q44 _ _ wq,?_⟩
      refine hd3.stA (k:=0) rfl rfl (by simp[yV]) (by simp[yV,Value.oneCell']) fun w5 h5=>?_
      have hs:jf (o,d,y) l[i]=(o,d,(if l[i].1<y.1 then l[i].1 else y.1,if y.2<l[i].2 then l[i].2 else y.2)):=by unfold jf;rw[if_neg hb1,if_neg hb2]
      exact next w5 (o,d,(if l[i].1<y.1 then l[i].1 else y.1,if y.2<l[i].2 then l[i].2 else y.2)) oa oc Lo hs (by simp;omega) hS hN h5
     clear next hK hfin hY r0 r1 x0 x1 ldp hrw
     repeat' first
      | exact fin
      | refine⟨_,p0,?_⟩
      | refine⟨_,p1,?_⟩
      | refine⟨_,q0,?_⟩
      | refine⟨_,q1,?_⟩
      | refine⟨_,_,q9i _ _ _,?_⟩
      | refine⟨_,_,qsI _ _ _,?_⟩
      | refine⟨?_,?_⟩
  ·intro hge
   have hge:l.length<=i:=by simpa using hge
   have:i=l.length:=by omega
   subst this
   rw[List.drop_length,yd]at hfin
   rw[<-hfin]at e
   rw[qgy]
   have fin:∀ w5 (o':List vd) oa oc Lo',vC l x=o'->zC 2 148 (.slice oa o'.length oc) o'.length (vR o') Lo'->zr w0 Lo'->St w0 w5 ((n4,Cs (yV y) 148)::(Lo'++(Ll++H)))->q3g oa o'.length oc w5 K:=by
    intro w5 o' oa oc Lo' he hS' hN' h5
    rw[qge]
    subst he
    refine hK w5 oa oc Lo' hS' hN' ?_
    have h6:=(h5.tail hn4).perm (H':=Ll++(Lo'++H)) (qK fun f=>by simp only[List.map_append,List.sum_append];omega)
    exact h6.sub hlN
   cases d
   ·rw[Bool.not_false,qm]
    refine hw.ldA (k:=0) (i:=0) rfl (by simp[yV]) ⟨⟨rfl,trivial⟩,?_⟩
    refine hw.newC fun n74 w5 hn74 h5=>?_
    have h5:St w0 w5 (((n74,Cs (yV y) 148)::[(n4,Cs (yV y) 148)])++(Lo++(Ll++H))):=h5
    obtain⟨g',cap,w6,L',hru,hS',g6,hN'⟩:=q0W h5 hS hN (j:=0) rfl om
    refine⟨_,_,_,w6,hru,?_⟩
    exact fin w6 (o++[y]) _ _ L' e hS' hN' (St.tail (b:=n74) g6 hn74)
   ·rw[Bool.not_true,qd]
    exact fin w4 o oa oc Lo e hS hN hw
end Go.Fx.Tryz
