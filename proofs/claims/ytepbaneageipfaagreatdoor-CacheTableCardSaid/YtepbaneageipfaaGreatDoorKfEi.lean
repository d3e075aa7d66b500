/- A part of the proof. -/
import Derived.Test.YtepbaneageipfaaGreatDoorKeEi
import Derived.Test.YtepbaneageipfaaGreatDoorKdEi
import Derived.Test.YtepbaneageipfaaGreatDoorKaEi
import Derived.KernelRfl
set_option linter.all false
set_option autoImplicit true
set_option relaxedAutoImplicit true
noncomputable section
namespace Go.Fx.Tryz
open Go Go.Fx Go.Fx.Ch
open Go.Proofs
set_option linter.all false
set_option maxRecDepth 20000
variable {w0 w:World} {H X:qE} {K:KT} {s:qd} {L:qQ} {q:LB} {R:Int->TR->Prop}
theorem q9R{sec len slots:Int}(h:St w0 w H)(hK:∀ w',St w0 w' H->K (.bool (zj sec len slots)) w'):q9 P 69 [.agg #[J sec,J len,J slots]] w K:=by
 refine qJs _ _ _ ?_
 rw[qI9,qqf]
 refine h.newC fun n w2 hn h2=>?_
 have h2:St w0 w2 ((n,Cs (zB sec len slots) 27)::H):=h2
 have hK:=hK w2 (h2.tail hn)
 have c0:w2.cell? (Addr.mk n 0 none)=some (J sec):=h2.cell (k:=0) rfl
 have c1:w2.cell? ((Addr.mk n 0 none).add 1)=some (J len):=by rw[qa];exact h2.cell (k:=0) rfl
 have c2:w2.cell? ((Addr.mk n 0 none).add 2)=some (J slots):=by rw[qa];exact h2.cell (k:=0) rfl
 have no:zj sec len slots=false->JD true (Addr.mk n 0 none) false w2 K:=fun hf=>by
  rw[hf]at hK
  rw[q4j,qe];exact hK
 rw[qrG]
 refine⟨sec,c0,?_⟩
 rw[qg]
 refine⟨fun hb=>no ?_,fun hb=>⟨sec,c0,?_⟩⟩
 ·have hb:=of_decide_eq_true hb
  unfold zj
  rw[decide_eq_false (show ¬ (1:Int)<=sec by omega)];rfl
 have hb:=of_decide_eq_false hb
 rw[qg]
 refine⟨fun hb2=>no ?_,fun hb2=>⟨len,c1,?_⟩⟩
 ·have hb2:=of_decide_eq_true hb2
  unfold zj
  rw[decide_eq_false (show ¬ sec<=(16:Int)by omega)];simp
 have hb2:=of_decide_eq_false hb2
 rw[qg]
 refine⟨fun hb3=>no ?_,fun hb3=>⟨len,c1,?_⟩⟩
 ·have hb3:=of_decide_eq_true hb3
  unfold zj
  rw[decide_eq_false (show ¬ (256:Int)<=len by omega)];simp
 have hb3:=of_decide_eq_false hb3
 cases hb4:decide (len > 1048576)with
 | true=>
  refine no ?_
  have hb4:=of_decide_eq_true hb4
  unfold zj
  rw[decide_eq_false (show ¬ len<=(1048576:Int)by omega)];simp
 | false=>
  have hb4:=of_decide_eq_false hb4
  rw[q4j,qb,qoQ,qrF]
  refine⟨fun m e' w'=>∃ j:Nat,4<=j/\j<=17/\m=17-j/\e'=qi.mk 30 [(3,J ((2 ^ j:Nat):Int)),(1,.pointer (some (Addr.mk n 0 none))),(2,.bool false)] []/\(∀ i,4<=i->i<j->slots≠((2 ^ i:Nat):Int))/\w'=w2,⟨_,4,by omega,by omega,rfl,rfl,fun i h1 h2=>by omega,rfl⟩,?_⟩
  rintro m e' w' ⟨j,hj4,hj17,rfl,rfl,hno,rfl⟩
  show qjS ..
  rw[qd5,qg]
  have hpow:j<=16->((2 ^ j:Nat):Int)<=65536:=fun hj=>by
   have:=(zo hj4 hj).2;omega
  refine⟨fun hlt=>?_,fun hge=>?_⟩
  ·have hlt:=of_decide_eq_true hlt
   have hj:j<=16:=by
    refine Classical.byContradiction fun hn=>?_
    have:j=17:=by omega
    subst this
    have:((2 ^ 17:Nat):Int)=131072:=rfl
    omega
   rw[qrO]
   refine⟨slots,c2,?_⟩
   rw[qg]
   refine⟨fun he=>?_,fun he=>?_⟩
   ·have he:slots=((2 ^ j:Nat):Int):=by simpa using he
    have hp:=zo hj4 hj
    have e:zj sec len slots=true:=by
     unfold zj
     have hex:∃ k,k∈[4,5,6,7,8,9,10,11,12,13,14,15,16]/\slots=2 ^ k:=⟨j,by simp;omega,by rw[he,Int.natCast_pow];rfl⟩
     rw[decide_eq_true (show(1:Int)<=sec by omega),decide_eq_true (show sec<=(16:Int)by omega),decide_eq_true (show(256:Int)<=len by omega),decide_eq_true (show len<=(1048576:Int)by omega),
      decide_eq_true (show(16:Int)<=slots by omega),decide_eq_true (show slots<=(65536:Int)by omega),decide_eq_true hex];rfl
    rw[e]at hK;exact hK
   ·have he:slots≠((2 ^ j:Nat):Int):=by simpa using he
    rw[qrn]
    have hp:=hpow hj
    have hp0:(0:Int)<=((2 ^ j:Nat):Int):=Int.natCast_nonneg _
    refine⟨_,?_,j+1,by omega,by omega,rfl,?_,fun i h1 h2=>?_,rfl⟩
    ·omega
    ·rw[qc om om]
     have:((2 ^ j:Nat):Int)*2=((2 ^ (j+1):Nat):Int):=by rw[Nat.pow_succ,Int.natCast_mul];rfl
     rw[this]
    ·by_cases hij:i=j
     ·rw[hij];exact he
     ·exact hno i h1 om
  ·have hge:=of_decide_eq_false hge
   have hj:j=17:=by
    refine Classical.byContradiction fun hn=>?_
    have:=hpow om
    omega
   subst hj
   rw[qqZ]
   have e:zj sec len slots=false:=by
    unfold zj
    have hex:¬ ∃ k,k∈[4,5,6,7,8,9,10,11,12,13,14,15,16]/\slots=2 ^ k:=fun⟨k,hk,hs⟩=>by
     have hk:4<=k/\k<17:=by simp at hk;omega
     exact hno k hk.1 hk.2 (by rw[hs,Int.natCast_pow];rfl)
    rw[decide_eq_false hex,Bool.and_false]
   rw[e]at hK;exact hK
theorem qvE{sec len slots:Int}(hf:zj sec len slots=false)(h:St w0 w H)(hK:∀ w',St w0 w' H->K (.bool true) w'):q9 P 26 [.agg #[J sec,J len,J slots]] w K:=by
 refine qHM _ _ _ ?_
 rw[qFY]
 refine h.newC fun n w2 hn h2=>?_
 have h2:St w0 w2 ((n,Cs (zB sec len slots) 27)::H):=h2
 refine h2.ldA (k:=0) rfl (by simp) ?_
 refine qi2 h2 (fun _ w5 h5=>⟨_,_,rfl,?_⟩) (fun _ _ _ _ _ _ _ _ _ _ ht=>by rw[hf]at ht;cases ht)
 simp only[show((1:Int)==1)=true from rfl,qe,Option.isNone_none]
 refine h5.ldA (k:=0) rfl (by simp) ?_
 refine q9R (sec:=sec) (len:=len) (slots:=slots) h5 fun w6 h6=>⟨_,rfl,?_⟩
 rw[qq6,hf]
 exact hK w6 (h6.tail hn)
inductive q1Y (s0:qd):List yr->qd->Prop
 | nil:q1Y s0 [] s0
 | snoc {l:List yr} {a:yr} {s s':qd}:q1Y s0 l s->q2q s a s'->q1Y s0 (l++[a]) s'
theorem qrR{aa:Option Addr}{ac:Nat}{l:List yr}{sec len slots:Int}(hl:QQ w0 H (.slice aa l.length ac) l)(hlt:∀ a∈l,vz a=true)(hR:yH R)(hRt:∀ a∈l,∀ x,R x a.tr)(hg:zA H)(hX:qF w0 X)(h:St w0 w (X++H))
  (hF:zj sec len slots=false->∀ (w':World) (X':qE),qF w0 X'->St w0 w' (X'++H)->K (.tuple [.pointer none,.bool false].toArray) w')
  (hK:∀ (n k:Nat),sec=n->slots=(2 ^ k:Nat)->1<=n->n<=16->4<=k->k<=16->256<=len->len<=1048576->zj sec len slots=true->∀ (w':World) (q:LB) (L:qQ) (s:qd) (X':qE),PI R n len k l.length s->q1Y (vO n len k) l s->L.Ok w0 q s->qF w0 X'->St w0 w' (L.bl q s++(X'++H))->
   K (.tuple [.pointer (some ⟨q.cb,0,none⟩),.bool true].toArray) w') :
  q9 P 25 [.agg #[J sec,J len,J slots],.slice aa l.length ac] w K:=by
 refine qK8 _ _ _ _ _ _ ?_
 rw[qIz,qqo]
 refine h.newC fun n4 w5 hn4 h5=>?_
 have h5:St w0 w5 ((n4,Cs (zB sec len slots) 27)::(X++H)):=h5
 have hX2:qF w0 ((n4,Cs (zB sec len slots) 27)::X):=fun v hv=>by
  rcases List.mem_cons.1 hv with rfl | hv
  ·exact hn4
  ·exact hX v hv
 rw[qr0]
 refine h5.ldA (k:=0) rfl (by simp) ?_
 refine qi2 h5 (fun hf w6 h6=>⟨_,_,rfl,?_⟩) (fun n k hn hk h1 h16 hk4 hk16 hl0 hl1 hcf w6 q L hL h6=>⟨_,_,rfl,?_⟩)
 ·rw[q4x]
  simp only[show((1:Int) != 0)=true from rfl,qe]
  rw[q4V,qe]
  exact hF hf w6 _ hX2 h6
 rw[q4x]
 simp only[show((0:Int) != 0)=false from rfl,qb,Option.isNone_some]
 rw[q4V,qb,qqe,qrI]
 have hbase:qR (vO n len k):=qR.new h1 om hk4 hk16 om hl1
 have hlen:=hl.len
 refine⟨fun m e' w'=>∃ (i:Nat) (s:qd) (L':qQ) (X':qE),i<=l.length/\m=l.length-i/\e'=qi.mk 33 [(8,J i),(1,.slice aa l.length ac),(6,.pointer (some ⟨q.cb,0,none⟩)),(4,.pointer none),(5,.bool false)] []/\
  PI R n len k i s/\q1Y (vO n len k) (l.take i) s/\L'.Ok w0 q s/\qF w0 X'/\St w0 w' (L'.bl q s++(X'++H)),⟨_,0,_,L,_,by omega,rfl,rfl,PI.new h1 h16 hk4 hk16 om hl1 hbase,.nil,hL,hX2,h6⟩,?_⟩
 rintro m e' w1 ⟨i,s,L',X',hi,rfl,rfl,hPI,hreach,hL',hX',hs⟩
 show qmC ..
 rw[qiC,qg]
 refine⟨fun hlt'=>?_,fun hge=>?_⟩
 ·have hlt':=of_decide_eq_true hlt'
  have hi:i<l.length:=by omega
  have hs0:=(hs.sub hL'.newB).sub hX'
  obtain⟨ad,rfl⟩:=hl.ptr hi hs0
  rw[qri]
  refine⟨by omega,by omega,?_⟩
  rw[Int.toNat_natCast]
  have hmem:=List.getElem_mem hi
  have hao:=hl.each _ hmem
  refine vn.whole (f:=yr.cs) (m:=9) (fun _=>rfl) rfl (hl.row w1 hs0) hi ?_
  refine qGq hao (hlt _ hmem) hR hPI.base hPI.q hL' hg hX' hs fun w2 s2 L2 X2 hA hL2 hX2' h2=>⟨rfl,?_⟩
  rw[qpn]
  refine⟨_,?_,i+1,s2,L2,X2,by omega,rfl,?_,hPI.act hR hao.tat (hRt _ hmem) hA,?_,hL2,hX2',h2⟩
  ·omega
  ·rw[qc om om];rfl
  ·rw[List.take_succ_eq_append_getElem hi]
   exact .snoc hreach hA
 ·have hge:=of_decide_eq_false hge
  have hin:i=l.length:=by omega
  subst hin
  rw[List.take_length]at hreach
  rw[qpM]
  exact hK n k hn hk h1 h16 hk4 hk16 hl0 hl1 hcf w1 q L' s X' hPI hreach hL' hX' hs
end Go.Fx.Tryz
namespace Go.Fx.Tryz
open Go Go.Fx Go.Fx.Ch
open Go.Proofs
set_option linter.all false
set_option maxRecDepth 20000
variable {w0 w:World} {H X Z N:qE} {K:KT} {s:qd} {L:qQ} {q:LB}
structure SV where
 id:Int
 sv:Value
 cv:Value
 A:List (Nat × Obj)
 M:List (Nat × Obj)
def SV.cs(items:List (Int × TR))(x:SV):List Value:=[U x.id,U (qj items x.id).at_,x.sv,x.cv]
def SV.blk(x:SV):List (Nat × Obj):=x.M++x.A
structure qzI (items:List (Int × TR)) (x:SV):Prop where
 sp:zx 2 36 x.sv (qj items x.id).sp.length ((qj items x.id).sp.map QN).flatten x.A
 code:zx 1 5 x.cv (qj items x.id).code.length ((qj items x.id).code.map B) x.M
structure SR where
 v:Value
 B:List (Nat × Obj)
 l:List SV
def SR.blk(r:SR):List (Nat × Obj):=r.B++(r.l.map SV.blk).flatten
structure qIV (items:List (Int × TR)) (row:List Int) (r:SR):Prop where
 ids:r.l.map (·.id)=row
 sl:zx 4 77 r.v row.length ((r.l.map (SV.cs items)).flatten) r.B
 each:∀ x∈r.l,qzI items x
structure q8g (items:List (Int × TR)) (rows:List (List Int)) (rs:List SR):Prop where
 len:rs.length=rows.length
 each:∀ i (h1:i<rows.length) (h2:i<rs.length),qIV items rows[i] rs[i]
theorem q8g.snoc{items:List (Int × TR)}{rows:List (List Int)}{rs:List SR}(h:q8g items rows rs){row:List Int}{r:SR}(hr:qIV items row r):q8g items (rows++[row]) (rs++[r]):=by
 refine⟨by simp[h.len],fun i h1 h2=>?_⟩
 have hl:=h.len
 by_cases hi:i<rows.length
 ·rw[List.getElem_append_left hi,List.getElem_append_left om]
  exact h.each i hi om
 ·have hi2:i=rows.length:=by
   rw[List.length_append]at h1
   simp only[List.length_cons,List.length_nil]at h1
   omega
  subst hi2
  rw[List.getElem_append_right om,List.getElem_append_right om]
  simp only[hl,Nat.sub_self,List.getElem_cons_zero]
  exact hr
theorem ZZ:qx P 73=#[J 0,J 0,J 0,.slice none 0 0,J 0,U 0,.slice none 0 0,J 0,J 0]:=kr
def yn(s:qd)(rv tv:Value):List Value:=[J s.rows.length,J s.len,J (2 ^ s.k:Nat),rv,J s.cur,U s.given,tv,J s.ev,J s.dr]
theorem qmW(sec len sl cur ev dr g:Int)(ta:Option Addr)(tl tc:Nat)(wq:World):(Instr.build 73 [(0,.agg #[J sec,J len,J sl]),(2,J cur),(3,U g),(4,.slice ta tl tc),(5,J ev),(6,J dr)].toArray).run P wq=.ok (.agg #[J sec,J len,J sl,.slice none 0 0,J cur,U g,.slice ta tl tc,J ev,J dr]) wq:=kr
theorem qBz(id at_:Int)(sa ca:Option Addr)(sl sc cl cc:Nat)(wq:World):(Instr.build 77 [(0,U id),(1,.agg #[U at_,.slice sa sl sc,.slice ca cl cc])].toArray).run P wq=.ok (.agg #[U id,U at_,.slice sa sl sc,.slice ca cl cc]) wq:=kr
theorem SV.cs_one{items:List (Int × TR)}{x:SV}(hx:qzI items x):∀ u∈x.cs items,u.oneCell'=true:=by
 obtain⟨a,c,e1⟩:=hx.sp.form
 obtain⟨a2,c2,e2⟩:=hx.code.form
 intro u hu
 unfold SV.cs at hu
 rw[e1,e2]at hu
 simp only[List.mem_cons,List.not_mem_nil,or_false]at hu
 rcases hu with rfl | rfl | rfl | rfl<;>rfl
theorem qzQ{n1 n27:Nat}{rv tv:Value}{vs:List Value}{i:Nat}{Y2:YT}(hL:L.Ok w0 q s)(hr:∀ r∈s.rows,r.length<1000000)(hi:i<s.rows.length)(hn27:w0.heap.size<=n27)
  (h:St w0 w (L.bl q s++((n27,Cs (yn s rv tv) 73)::(N++Z)))) (hS:zx 1 75 rv i vs N) (hN:qF w0 N) (hvs:vs.length=i)
  (hY:∀ (w':World) (r:SR) (rv':Value) (N':qE),qIV s.items s.rows[i] r->qF w0 r.blk->zx 1 75 rv' (i+1) (vs++[r.v]) N'->qF w0 N'->St w0 w' (L.bl q s++((n27,Cs (yn s rv' tv) 73)::(N'++(r.blk++Z))))->
   Y2 (qi.mk 74 [(0,.pointer (some ⟨q.cb,0,none⟩)),(2,.pointer (some ⟨n1,0,none⟩)),(3,.pointer (some ⟨n27,0,none⟩)),(43,J ((i+1:Nat):Int)),(41,.slice (some ⟨q.rb,0,none⟩) s.rows.length s.rows.length),(42,J s.rows.length)] []) w') :
  qeH (some ⟨q.cb,0,none⟩) ⟨n1,0,none⟩ ⟨n27,0,none⟩ (some ⟨q.rb,0,none⟩) s.rows.length s.rows.length s.rows.length i w K Y2:=by
 have hrl:=hL.rl
 rw[qoN]
 obtain⟨sa,sc,hrv,hrow⟩:=q7C (w0:=w0) (H:=(n27,Cs (yn s rv tv) 73)::(N++Z)) hL hi
 have hri:=hr _ (List.getElem_mem hi)
 refine⟨by omega,by omega,sa,s.rows[i].length,sc,?_,?_⟩
 ·rw[qa,Int.toNat_natCast,Nat.mul_one,Nat.zero_add,h.cell (k:=4) rfl];exact hrv
 have hrowG:∀ (w':World) (Y:qE),St w0 w' (L.bl q s++Y)->vn w' 1 (.slice sa s.rows[i].length sc) s.rows[i].length (s.rows[i].map U):=fun w' Y h'=>by
  obtain⟨sa2,sc2,hrv2,hrow2⟩:=q7C (w0:=w0) (H:=Y) hL hi
  rw[hrv]at hrv2
  injection hrv2 with hrv2
  injection hrv2 with e1 _ e2
  subst e1;subst e2
  exact hrow2 w' h'
 refine⟨fun m e' w'=>∃ (k:Nat) (xs:List SV) (ov:Value) (Bk:qE),k<=s.rows[i].length/\m=s.rows[i].length-k/\(∃ oa oc,ov=.slice oa k oc/\e'=qi.mk 74 [(49,J k),(0,.pointer (some ⟨q.cb,0,none⟩)),(6,.slice oa k oc),(47,.slice sa s.rows[i].length sc),(2,.pointer (some ⟨n1,0,none⟩)),(3,.pointer (some ⟨n27,0,none⟩)),(41,.slice (some ⟨q.rb,0,none⟩) s.rows.length s.rows.length),(42,J s.rows.length),(43,J i),(48,J s.rows[i].length)] [])/\
  xs.map (·.id)=s.rows[i].take k/\(∀ x∈xs,qzI s.items x)/\zx 4 77 ov k ((xs.map (SV.cs s.items)).flatten) Bk/\qF w0 (Bk++(xs.map SV.blk).flatten)/\St w0 w' (L.bl q s++((n27,Cs (yn s rv tv) 73)::(N++(Bk++((xs.map SV.blk).flatten++Z))))),
  ⟨_,0,[],.slice none 0 0,[],by omega,rfl,⟨none,0,rfl,rfl⟩,rfl,fun x hx=>(by cases hx),zx.nil 4 77,qF.nil _,h⟩,?_⟩
 rintro m e' w1 ⟨k,xs,ov,Bk,hk,rfl,⟨oa,oc,rfl,rfl⟩,hids,hxs,hSl,hNew,hs⟩
 show qmj ..
 rw[qi3,qg]
 refine⟨fun hlt=>?_,fun hge=>?_⟩
 ·have hlt:=of_decide_eq_true hlt
  have hk:k<s.rows[i].length:=by omega
  have hrw:=hrowG w1 _ hs
  obtain⟨ra,_,e,_⟩:=hrw.ldA hk
  injection e with e _ _
  subst e
  rw[qoL]
  refine⟨by omega,by omega,s.rows[i][k],by rw[Int.toNat_natCast];exact j8 hrw hk,some q.ib,by rw[qa];exact hs.cell (k:=1) rfl,?_⟩
  obtain⟨v,hv,hlk,_⟩:=hL.its.look (w:=w1) (hs.get (k:=2) rfl) s.rows[i][k]
  obtain⟨⟨sv,cv,rfl,hSp,hB⟩,_,_⟩:=hv
  refine⟨_,hlk,?_⟩
  have up:∀ u∈L.G,u∈L.bl q s++((n27,Cs (yn s rv tv) 73)::(N++(Bk++((xs.map SV.blk).flatten++Z)))):=fun u hu=>List.mem_append_left _ (L.G_mem q s u hu)
  refine JB hs (hSp.spans up) (hB.bytes up) fun w2 sv' cv' A M h1 h2 h3 h4 hs2=>⟨_,rfl,?_⟩
  obtain⟨sa',sc',e1⟩:=h1.form
  obtain⟨ca',cc',e2⟩:=h3.form
  subst e1;subst e2
  refine⟨_,qBz _ _ _ _ _ _ _ _,⟨rfl,trivial⟩,hs2.newC fun n81 w3 hn81 hs3=>?_⟩
  have hx:qzI s.items ⟨s.rows[i][k],.slice sa' (qj s.items s.rows[i][k]).sp.length sc',.slice ca' (qj s.items s.rows[i][k]).code.length cc',A,M⟩:=⟨h1,h3⟩
  have hs4:St w0 w3 ([(n81,Cs (SV.cs s.items ⟨s.rows[i][k],.slice sa' (qj s.items s.rows[i][k]).sp.length sc',.slice ca' (qj s.items s.rows[i][k]).code.length cc',A,M⟩) 77)]++(Bk++(M++(A++(L.bl q s++((n27,Cs (yn s rv tv) 73)::(N++((xs.map SV.blk).flatten++Z)))))))):=by
   have hs3:St w0 w3 ((n81,Cs (SV.cs s.items ⟨s.rows[i][k],.slice sa' (qj s.items s.rows[i][k]).sp.length sc',.slice ca' (qj s.items s.rows[i][k]).code.length cc',A,M⟩) 77)::(M++(A++(L.bl q s++((n27,Cs (yn s rv tv) 73)::(N++(Bk++((xs.map SV.blk).flatten++Z)))))))):=hs3
   exact hs3.perm (qn fun c=>by simp only[List.map_append,List.map_cons,List.map_nil,List.sum_append,List.sum_cons,List.sum_nil];omega)
  have hNB:qF w0 Bk:=qF.left hNew
  obtain⟨g,cap,w5,B',hrun,hX,hs5,hXN⟩:=St.append (P:=P) 75 75 77 Tryz.t77 (.agg #[U 0,U 0,.slice none 0 0,.slice none 0 0]) 4 64 Tryz.underlying75 kr kr rfl rfl rfl om hs4 hSl hNB (j:=0) rfl rfl (SV.cs_one hx) (by simp[maxLen];omega) om
  refine⟨_,_,_,w5,hrun,?_⟩
  rw[qrt,qc om om]
  refine⟨_,?_,k+1,xs++[⟨s.rows[i][k],.slice sa' (qj s.items s.rows[i][k]).sp.length sc',.slice ca' (qj s.items s.rows[i][k]).code.length cc',A,M⟩],_,B',by omega,rfl,⟨_,_,rfl,rfl⟩,?_,?_,?_,?_,?_⟩
  ·omega
  ·rw[List.map_append,hids,List.take_succ_eq_append_getElem hk];rfl
  ·intro x hx'
   rcases List.mem_append.1 hx' with hx' | hx'
   ·exact hxs x hx'
   ·rw[List.mem_singleton.1 hx'];exact hx
  ·rw[List.map_append,List.flatten_append]
   simpa using hX
  ·refine qF.append hXN ?_
   rw[List.map_append,List.flatten_append]
   refine qF.append (qF.right hNew) ?_
   intro u hu
   simp only[List.map_cons,List.map_nil,List.flatten_cons,List.flatten_nil,List.append_nil]at hu
   exact qF.append h4 h2 u hu
  ·have hs6:St w0 w5 ((n81,Cs (SV.cs s.items ⟨s.rows[i][k],.slice sa' (qj s.items s.rows[i][k]).sp.length sc',.slice ca' (qj s.items s.rows[i][k]).code.length cc',A,M⟩) 77)::(L.bl q s++((n27,Cs (yn s rv tv) 73)::(N++(B'++(((xs.map SV.blk).flatten++(M++A))++Z)))))):=hs5.perm (qn fun c=>by simp only[List.map_append,List.map_cons,List.map_nil,List.sum_append,List.sum_cons,List.sum_nil];omega)
   have e:((xs++[(⟨s.rows[i][k],.slice sa' (qj s.items s.rows[i][k]).sp.length sc',.slice ca' (qj s.items s.rows[i][k]).code.length cc',A,M⟩:SV)]).map SV.blk).flatten=(xs.map SV.blk).flatten++(M++A):=by
    rw[List.map_append,List.flatten_append]
    simp[SV.blk]
   rw[e]
   exact hs6.tail hn81
 ·have hge:=of_decide_eq_false hge
  have hin:k=s.rows[i].length:=by omega
  subst hin
  rw[List.take_length]at hids
  rw[qqQ]
  have hs2:St w0 w1 ((n27,Cs (yn s rv tv) 73)::(L.bl q s++(N++(Bk++((xs.map SV.blk).flatten++Z))))):=hs.perm (qn fun c=>by simp only[List.map_append,List.map_cons,List.sum_append,List.sum_cons];omega)
  obtain⟨va,vc,e⟩:=hS.form
  subst e
  refine⟨va,i,vc,by rw[qa];exact hs2.cell (k:=0) rfl,⟨rfl,trivial⟩,hs2.newC fun n105 w3 hn105 hs3=>?_⟩
  have hs4:St w0 w3 ([(n105,Cs [.slice oa s.rows[i].length oc] 75)]++(N++((n27,Cs (yn s (.slice va i vc) tv) 73)::(L.bl q s++(Bk++((xs.map SV.blk).flatten++Z)))))):=by
   have hs3:St w0 w3 ((n105,Cs [.slice oa s.rows[i].length oc] 75)::(n27,Cs (yn s (.slice va i vc) tv) 73)::(L.bl q s++(N++(Bk++((xs.map SV.blk).flatten++Z))))):=hs3
   exact hs3.perm (qn fun c=>by simp only[List.map_append,List.map_cons,List.map_nil,List.sum_append,List.sum_cons,List.sum_nil];omega)
  obtain⟨g,cap,w5,N',hrun,hX',hs5,hXN⟩:=St.append (P:=P) 71 71 75 Tryz.t75 (.slice none 0 0) 1 24 Tryz.underlying71 kr kr rfl rfl rfl om hs4 hS hN (j:=0) rfl rfl (fun u hu=>by rw[List.mem_singleton.1 hu];rfl) (by simp[maxLen];omega) om
  refine⟨_,_,_,w5,hrun,?_⟩
  have hs6:St w0 w5 ((n27,Cs (yn s (.slice va i vc) tv) 73)::(n105,Cs [.slice oa s.rows[i].length oc] 75)::(N'++(L.bl q s++(Bk++((xs.map SV.blk).flatten++Z))))):=hs5.perm (qn fun c=>by simp only[List.map_append,List.map_cons,List.map_nil,List.sum_append,List.sum_cons,List.sum_nil];omega)
  show zW ((Addr.mk n27 0 none).add 3) _ _ _
  rw[qa]
  refine hs6.st1 (k:=0) rfl (by simp[yn]) rfl fun w7 hs7=>?_
  have hs7:St w0 w7 ((n27,Cs (yn s (.slice (some ⟨g,0,none⟩) (i+1) cap) tv) 73)::(n105,Cs [.slice oa s.rows[i].length oc] 75)::(N'++(L.bl q s++(Bk++((xs.map SV.blk).flatten++Z))))):=hs7
  rw[qpy,qc om om]
  refine hY w7 ⟨.slice oa s.rows[i].length oc,Bk,xs⟩ _ N' ⟨hids,hSl,hxs⟩ hNew hX' hXN ?_
  have hs8:St w0 w7 ((n105,Cs [.slice oa s.rows[i].length oc] 75)::(L.bl q s++((n27,Cs (yn s (.slice (some ⟨g,0,none⟩) (i+1) cap) tv) 73)::(N'++((Bk++(xs.map SV.blk).flatten)++Z))))):=hs7.perm (qn fun c=>by simp only[List.map_append,List.map_cons,List.sum_append,List.sum_cons];omega)
  exact hs8.tail hn105
structure qga (s:qd) (rv tv:Value) (N:qE) (rs:List SR) (Tb:qE):Prop where
 rows:zx 1 75 rv s.rows.length (rs.map (·.v)) N
 each:q8g s.items s.rows rs
 tab:zx 1 24 tv (2 ^ s.k) (s.table.map U) Tb
theorem qjx{n1 n27:Nat}{tv:Value}{Tb:qE}(hL:L.Ok w0 q s)(hr:∀ r∈s.rows,r.length<1000000)(hn1:w0.heap.size<=n1)(hn27:w0.heap.size<=n27)(hT:zx 1 24 tv (2 ^ s.k) (s.table.map U) Tb)(hTN:qF w0 Tb)
  (h:St w0 w (L.bl q s++((n27,Cs (yn s (.slice none 0 0) tv) 73)::((n1,Cs [J 0,J 0,J 0,.slice none 0 0,J 0,U 0,.slice none 0 0,J 0,J 0] 73)::(Tb++H)))))
  (hK:∀ (w':World) (rv tv:Value) (N Tb:qE) (rs:List SR),qga s rv tv N rs Tb->qF w0 (N++((rs.map SR.blk).flatten++Tb))->St w0 w' ((N++((rs.map SR.blk).flatten++Tb))++(L.bl q s++H))->K (.agg (yn s rv tv).toArray) w') :
  q5A (some ⟨q.cb,0,none⟩) ⟨n1,0,none⟩ ⟨n27,0,none⟩ w K:=by
 have hrl:=hL.rl
 rw[qqm]
 refine⟨some ⟨q.rb,0,none⟩,s.rows.length,s.rows.length,by rw[qa];exact h.cell (k:=1) rfl,?_⟩
 refine⟨fun m e' w'=>∃ (i:Nat) (rs:List SR) (rv:Value) (N:qE),i<=s.rows.length/\m=s.rows.length-i/\e'=qi.mk 74 [(0,.pointer (some ⟨q.cb,0,none⟩)),(2,.pointer (some ⟨n1,0,none⟩)),(3,.pointer (some ⟨n27,0,none⟩)),(43,J i),(41,.slice (some ⟨q.rb,0,none⟩) s.rows.length s.rows.length),(42,J s.rows.length)] []/\
  zx 1 75 rv i (rs.map (·.v)) N/\q8g s.items (s.rows.take i) rs/\qF w0 N/\qF w0 (rs.map SR.blk).flatten/\St w0 w' (L.bl q s++((n27,Cs (yn s rv tv) 73)::(N++((rs.map SR.blk).flatten++((n1,Cs [J 0,J 0,J 0,.slice none 0 0,J 0,U 0,.slice none 0 0,J 0,J 0] 73)::(Tb++H)))))),
  ⟨_,0,[],.slice none 0 0,[],by omega,rfl,rfl,zx.nil 1 75,⟨rfl,fun i h1 h2=>by cases h2⟩,qF.nil _,qF.nil _,h⟩,?_⟩
 rintro m e' w1 ⟨i,rs,rv,N,hi,rfl,rfl,hS,hrs,hN,hNr,hs⟩
 show qnx ..
 rw[qdw,qg]
 refine⟨fun hlt=>?_,fun hge=>?_⟩
 ·have hlt:=of_decide_eq_true hlt
  have hi:i<s.rows.length:=by omega
  have hlen:rs.length=i:=by rw[hrs.len,List.length_take];omega
  refine qzQ hL hr hi hn27 hs hS hN (by rw[List.length_map];exact hlen) fun w' r rv' N' hr1 hr2 hr3 hr4 hs'=>⟨_,?_,i+1,rs++[r],rv',N',by omega,rfl,rfl,?_,?_,hr4,?_,?_⟩
  ·omega
  ·rw[List.map_append];exact hr3
  ·rw[List.take_succ_eq_append_getElem hi]
   exact hrs.snoc hr1
  ·rw[List.map_append,List.flatten_append]
   refine qF.append hNr ?_
   simpa using hr2
  ·have e:((rs++[r]).map SR.blk).flatten=(rs.map SR.blk).flatten++r.blk:=by
    rw[List.map_append,List.flatten_append];simp
   rw[e]
   exact hs'.perm (qn fun c=>by simp only[List.map_append,List.map_cons,List.sum_append,List.sum_cons];omega)
 ·have hge:=of_decide_eq_false hge
  have hin:i=s.rows.length:=by omega
  subst hin
  rw[List.take_length]at hrs
  obtain⟨ra,rc,e⟩:=hS.form
  subst e
  obtain⟨ta,tc,e⟩:=hT.form
  subst e
  rw[qpJ]
  have hs2:St w0 w1 ((n27,Cs (yn s (.slice ra s.rows.length rc) (.slice ta (2 ^ s.k) tc)) 73)::((n1,Cs [J 0,J 0,J 0,.slice none 0 0,J 0,U 0,.slice none 0 0,J 0,J 0] 73)::((N++((rs.map SR.blk).flatten++Tb))++(L.bl q s++H)))):=hs.perm (qn fun c=>by simp only[List.map_append,List.map_cons,List.sum_append,List.sum_cons];omega)
  refine hs2.ldA (k:=0) rfl (by simp[yn]) ?_
  refine hs2.stA (k:=1) rfl rfl (by simp) (by simp[yn,Value.oneCell']) fun w3 hs3=>?_
  have hs3:St w0 w3 ((n27,Cs (yn s (.slice ra s.rows.length rc) (.slice ta (2 ^ s.k) tc)) 73)::((n1,Cs (yn s (.slice ra s.rows.length rc) (.slice ta (2 ^ s.k) tc)) 73)::((N++((rs.map SR.blk).flatten++Tb))++(L.bl q s++H)))):=hs3
  refine hs3.ldA (k:=1) rfl (by simp[yn]) ?_
  exact hK w3 _ _ N Tb rs ⟨hS,hrs,hT⟩ (qF.append hN (qF.append hNr hTN)) ((hs3.tail hn27).tail hn1)
theorem qCc(h:St w0 w (L.bl q s++H))(hL:L.Ok w0 q s)(hr:∀ r∈s.rows,r.length<1000000)
  (hK:∀ (w':World) (rv tv:Value) (N Tb:qE) (rs:List SR),qga s rv tv N rs Tb->qF w0 (N++((rs.map SR.blk).flatten++Tb))->St w0 w' ((N++((rs.map SR.blk).flatten++Tb))++(L.bl q s++H))->K (.agg (yn s rv tv).toArray) w') :
  q9 P 35 [.pointer (some ⟨q.cb,0,none⟩)] w K:=by
 refine qGl _ _ _ ?_
 rw[qHK,ZZ]
 refine h.newC fun n1 w2 hn1 h2=>?_
 have h2:St w0 w2 ((n1,Cs [J 0,J 0,J 0,.slice none 0 0,J 0,U 0,.slice none 0 0,J 0,J 0] 73)::(L.bl q s++H)):=h2
 have h3:St w0 w2 (L.bl q s++((n1,Cs [J 0,J 0,J 0,.slice none 0 0,J 0,U 0,.slice none 0 0,J 0,J 0] 73)::H)):=h2.perm (qn fun c=>by simp only[List.map_append,List.map_cons,List.sum_append,List.sum_cons];omega)
 refine Qr h3 ⟨_,rfl,?_⟩
 simp only[qb]
 rw[qq1]
 have h4:=h3.drew
 have htl:=hL.tl
 have h2k:=(zo hL.k4 hL.k16).2
 have ldb:∀ {w':World} {Y:qE},St w0 w' Y->(q.cb,Cs (CCs s q.ib q.hb q.rb q.tb) 109)∈Y->Qz 3 (Addr.mk q.cb 0 none) #[J s.rows.length,J s.len,J (2 ^ s.k:Nat)] w':=fun h' hm j hj=>by
  rw[qa,qw (h'.has _ _ hm)]
  have:j=0\/j=1\/j=2:=by omega
  rcases this with rfl | rfl | rfl<;>rfl
 have cel:∀ {w':World} {Y:qE} {j:Nat} {v:Value},St w0 w' Y->(q.cb,Cs (CCs s q.ib q.hb q.rb q.tb) 109)∈Y->(CCs s q.ib q.hb q.rb q.tb)[j]?=some v->w'.cell? ((Addr.mk q.cb 0 none).add j)=some v:=fun {w' Y j v} h' hm hj=>by
  rw[qa,qw (h'.has _ _ hm),Nat.zero_add];exact hj
 have hrowT:∀ (w':World) (Y:qE),St w0 w' (L.bl q s++Y)->vn w' 1 (.slice (some ⟨q.tb,0,none⟩) (2 ^ s.k) (2 ^ s.k)) (s.table.map U).length (s.table.map U):=fun w' Y h'=>by
  refine⟨by simp,.inr ⟨_,_,by rw[List.length_map,htl],fun j hj=>?_⟩⟩
  rw[qa,Nat.zero_add,h'.cell (k:=0) rfl]
 refine h4.ldA (k:=1) rfl (by simp[CCs]) ⟨s.cur,cel h4 (.tail _ (.head _)) rfl,s.given,cel h4 (.tail _ (.head _)) rfl,some ⟨q.tb,0,none⟩,2 ^ s.k,2 ^ s.k,cel h4 (.tail _ (.head _)) rfl,s.ev,cel h4 (.tail _ (.head _)) rfl,s.dr,cel h4 (.tail _ (.head _)) rfl,?_,?_⟩
 ·refine Yv (l:=s.table) h4 (fun w' h'=>by have:=hrowT w' _ h';rw[List.length_map]at this;exact this) (by rw[htl];omega) fun w5 tv Tb hT hTN h5=>?_
  obtain⟨ta,tc,e⟩:=hT.form
  subst e
  have hm:(q.cb,Cs (CCs s q.ib q.hb q.rb q.tb) 109)∈Tb++(L.bl q s++((n1,Cs [J 0,J 0,J 0,.slice none 0 0,J 0,U 0,.slice none 0 0,J 0,J 0] 73)::H)):=List.mem_append_right _ (.tail _ (.head _))
  refine⟨_,_,_,rfl,cel h5 hm rfl,cel h5 hm rfl,cel h5 hm rfl,cel h5 hm rfl,ldb h5 hm,_,qmW _ _ _ _ _ _ _ _ _ _,?_⟩
  rw[ZZ]
  refine h5.newC fun n27 w6 hn27 h6=>h6.stA (k:=0) rfl rfl (by simp) (by simp[Value.oneCell']) fun w7 h7=>?_
  rw[htl]at h7 hT
  have h7:St w0 w7 ((n27,Cs (yn s (.slice none 0 0) (.slice ta (2 ^ s.k) tc)) 73)::(Tb++(L.bl q s++((n1,Cs [J 0,J 0,J 0,.slice none 0 0,J 0,U 0,.slice none 0 0,J 0,J 0] 73)::H)))):=h7
  exact qjx hL hr hn1 hn27 hT hTN (h7.perm (qn fun c=>by simp only[List.map_append,List.map_cons,List.sum_append,List.sum_cons];omega)) hK
 ·rw[ZZ]
  refine h4.newC fun n120 w5 hn120 h5=>?_
  have h5:St w0 w5 ((n120,Cs [J 0,J 0,J 0,.slice none 0 0,J 0,U 0,.slice none 0 0,J 0,J 0] 73)::(L.bl q s++((n1,Cs [J 0,J 0,J 0,.slice none 0 0,J 0,U 0,.slice none 0 0,J 0,J 0] 73)::H))):=h5
  refine Yv (l:=s.table) h5 (fun w' h'=>by
   have:=hrowT w' _ (h'.tail hn120);rw[List.length_map]at this;exact this) (by rw[htl];omega) fun w6 tv Tb hT hTN h6=>?_
  obtain⟨ta,tc,e⟩:=hT.form
  subst e
  have hm:(q.cb,Cs (CCs s q.ib q.hb q.rb q.tb) 109)∈Tb++((n120,Cs [J 0,J 0,J 0,.slice none 0 0,J 0,U 0,.slice none 0 0,J 0,J 0] 73)::(L.bl q s++((n1,Cs [J 0,J 0,J 0,.slice none 0 0,J 0,U 0,.slice none 0 0,J 0,J 0] 73)::H))):=List.mem_append_right _ (.tail _ (.tail _ (.head _)))
  refine⟨_,_,_,rfl,cel h6 hm rfl,cel h6 hm rfl,cel h6 hm rfl,cel h6 hm rfl,ldb h6 hm,_,qmW _ _ _ _ _ _ _ _ _ _,?_⟩
  have h7:St w0 w6 ((n120,Cs [J 0,J 0,J 0,.slice none 0 0,J 0,U 0,.slice none 0 0,J 0,J 0] 73)::(Tb++(L.bl q s++((n1,Cs [J 0,J 0,J 0,.slice none 0 0,J 0,U 0,.slice none 0 0,J 0,J 0] 73)::H)))):=h6.perm (qn fun c=>by simp only[List.map_append,List.map_cons,List.sum_append,List.sum_cons];omega)
  refine h7.stA (k:=0) rfl rfl (by simp) (by simp[Value.oneCell']) fun w8 h8=>?_
  rw[htl]at h8 hT
  have h8:St w0 w8 ((n120,Cs (yn s (.slice none 0 0) (.slice ta (2 ^ s.k) tc)) 73)::(Tb++(L.bl q s++((n1,Cs [J 0,J 0,J 0,.slice none 0 0,J 0,U 0,.slice none 0 0,J 0,J 0] 73)::H)))):=h8
  exact qjx hL hr hn1 hn120 hT hTN (h8.perm (qn fun c=>by simp only[List.map_append,List.map_cons,List.sum_append,List.sum_cons];omega)) hK
end Go.Fx.Tryz
namespace Go.Fx.Ch
open Go.Fx.Tryz
set_option linter.all false
theorem qia{s:qd}{m:Nat}(hb:qR s)(hc:qP s)(h5:Ja (fun _ t=>t.code.length<=5000) s)(hg:s.given<=m):s.hold.length<1000000/\∀ c,vS s c<=5000*(m+1):=by
 constructor
 ·have h1:(keys s.hold).length<=(keys s.items).length:=q1P hc.ok.nd fun c hcm=>by
   obtain⟨l,hl⟩:=q2J.1 hcm
   obtain⟨hne,_⟩:=hc.ok.each c l hl
   obtain⟨p,hp⟩:=List.exists_mem_of_ne_nil l hne
   have hp':p∈Zm s.hold c:=by unfold Zm;rw[hl];exact hp
   obtain⟨h0,h1,e,he,_,hec⟩:=(hc.held c p).1 hp'
   have:=(hc.up p.1 h1 e he (by rw[hec];exact h0)).1
   rw[hec]at this;exact this
  rw[qH,qH]at h1
  have:=hb.few
  omega
 ·intro c
  unfold vS
  show((Zm s.hold c).length:Int)<=_
  have hinj:((Zm s.hold c).map fun p=>p.1*5000+p.2).Nodup:=by
   refine List.pairwise_map.2 ((hc.ok.nodup c).imp_of_mem fun {p q} hp hq hne he=>hne ?_)
   obtain⟨_,p1,e,pe,ps,_⟩:=(hc.held c p).1 hp
   obtain⟨_,q1,f,qf,qs,_⟩:=(hc.held c q).1 hq
   obtain⟨l1,hl1⟩:=hc.dec p.1 p1
   obtain⟨l2,hl2⟩:=hc.dec q.1 q1
   have g1:=vU hl1 (by rw[<-j6 hl1];exact pe)
   have g2:=vU hl2 (by rw[<-j6 hl2];exact qf)
   have k1:(qj s.items p.1).code.length<=5000:=h5 p.1 p1
   have k2:(qj s.items q.1).code.length<=5000:=h5 q.1 q1
   have b1:=hb.pos p.1 p1
   have b2:=hb.pos q.1 q1
   have he:p.1*5000+p.2=q.1*5000+q.2:=he
   exact Prod.ext om om
  have hsub:∀ x∈(Zm s.hold c).map (fun p=>p.1*5000+p.2),x∈(List.range (5000*(m+1))).map (fun(i:Nat)=>(i:Int)):=fun x hx=>by
   obtain⟨p,hp,rfl⟩:=List.mem_map.1 hx
   obtain⟨_,p1,e,pe,ps,_⟩:=(hc.held c p).1 hp
   obtain⟨l1,hl1⟩:=hc.dec p.1 p1
   have g1:=vU hl1 (by rw[<-j6 hl1];exact pe)
   have k1:(qj s.items p.1).code.length<=5000:=h5 p.1 p1
   have b1:=hb.pos p.1 p1
   exact List.mem_map.2 ⟨(p.1*5000+p.2).toNat,List.mem_range.2 om,by omega⟩
  have:=q1P hinj hsub
  rw[List.length_map,List.length_map,List.length_range]at this
  omega
abbrev R5:Int->TR->Prop:=fun _ t=>t.code.length<=5000
theorem qEW:yH R5:=yH.len 5000
theorem PI.held{n k m:Nat}{len:Int}{s:qd}(h:PI R5 n len k m s)(hm:m<=100):s.hold.length<1000000/\∀ c,vS s c<=1000000:=by
 obtain⟨h1,h2⟩:=qia h.base h.q.ch h.q.all h.giv
 exact⟨h1,fun c=>by have:=h2 c;omega⟩
end Go.Fx.Ch
namespace Go.Fx.Tryz
open Go Go.Fx Go.Fx.Ch
open Go.Proofs
set_option linter.all false
set_option maxRecDepth 20000
variable {w0 w:World} {H X:qE} {K:KT} {s:qd} {L:qQ} {q:LB}
theorem qxI{a:yr}(ha:q39 w0 H a)(hl:vz a=true):∀ x,R5 x a.tr:=fun x=>by
 obtain⟨_,h2,_,_⟩:=ha.tr hl
 unfold vz at hl
 rw[Bool.and_eq_true]at hl
 have:=of_decide_eq_true hl.1
 show a.code.length<=5000
 omega
end Go.Fx.Tryz
namespace Go.Fx.Tryz
open Go Go.Fx Go.Fx.Ch
open Go.Proofs
set_option linter.all false
set_option maxRecDepth 20000
variable {w0 w:World} {H X N Z:qE} {K:KT} {s:qd} {L:qQ} {q:LB}
theorem q39.more{a:yr}(h:q39 w0 H a)(hX:qF w0 X):q39 w0 (X++H) a:=
 ⟨h.kd,h.tat,h.at_,fun hl=>by obtain⟨h1,h2,h3,h4⟩:=h.tr hl;exact⟨h1,h2,h3.more hX,h4.more hX⟩⟩
theorem QQ.more{ov:Value}{l:List yr}(h:QQ w0 H ov l)(hX:qF w0 X):QQ w0 (X++H) ov l:=
 ⟨fun w' h'=>h.row w' (h'.sub hX),fun a ha=>(h.each a ha).more hX,h.len⟩
end Go.Fx.Tryz
namespace Go.Fx.Tryz
set_option maxRecDepth 100000
open Go Go.Fx Go.Proofs
def c9:=qm Tryz.f9
def rs9:=Tryz.f9.results.toList
abbrev zP K:=qr P rs9 K
def f9 a b c d e w K:=CS P c9 none [6] [6] (zP K) (qz 166 [(Value.agg a),(VS b c d),(Value.int .u32 e)]) w
def qFs a b c d e w K:=SC c9 1 [6] [6] (zP K) 166 [(0,Value.agg a),(1,VS b c d),(2,Value.int .u32 e)] w
abbrev qKI K:=kq c9 1 [6] [6] (zP K)
def qFw a b c d e f w K:=SC c9 3 [6] [6] (zP K) 166 [(6,VB false),(3,VQ a),(0,Value.agg b),(1,VS c d e),(2,Value.int .u32 f)] w
abbrev qFP K:=kq c9 3 [6] [6] (zP K)
abbrev qMo K:=kq c9 6 [3,6,2,1] [6] (qFP K)
def qFz a b c d f g w K:=SG c9 7 [6] [6] (zP K) 166 [(3,VQ a),(6,VB b),(2,Value.int .u32 c),(1,VS d f g)] w
abbrev qL3 K:=kq c9 7 [6] [6] (zP K)
def qFF a b c d e f g h i j k l m n o p q r w K:=SC c9 15 [6] [6] (zP K) 166 [(8,VB a),(7,VP b),(29,VB c),(28,VP d),(24,(Value.tuple #[(VP e),(VB f)])),(27,(Value.tuple #[(VP g),(VB h)])),(26,VS i j k),(25,Value.agg l),(3,VQ m),(6,VB n),(2,Value.int .u32 o),(1,VS p q r)] w
abbrev qwF K:=kq c9 15 [6] [6] (zP K)
abbrev qLN K:=kq c9 30 [6,3,7,2] [6] (qwF K)
def qxa a w K:=SG c9 245 [6,3,7,2] [6] (qwF K) 166 [(6,VB a)] w
theorem qwJ:qxa a w K=(K (Value.bool a) w):=qB kr
def qFK a b c d w K:=SG c9 31 [6] [6] (zP K) 166 [(6,VB a),(3,VQ b),(7,VP c),(2,Value.int .u32 d)] w
abbrev qLk K:=kq c9 31 [6] [6] (zP K)
def qFJ a b c d e f g w K:=SC c9 63 [6] [6] (zP K) 166 [(9,VQ a),(38,Value.agg b),(37,VP c),(6,VB d),(3,VQ e),(7,VP f),(2,Value.int .u32 g)] w
abbrev qFQ K:=kq c9 63 [6] [6] (zP K)
abbrev qJ0 K:=kq c9 126 [6,3,7,2,9] [6] (qFQ K)
def qFG a b c d f w K:=SG c9 127 [6] [6] (zP K) 166 [(6,VB a),(3,VQ b),(7,VP c),(2,Value.int .u32 d),(9,VQ f)] w
abbrev qHQ K:=kq c9 127 [6] [6] (zP K)
def qFN a b c d e f w K:=SC c9 255 [6] [6] (zP K) 166 [(10,VI a),(6,VB b),(3,VQ c),(7,VP d),(2,Value.int .u32 e),(9,VQ f)] w
abbrev q3j K:=kq c9 255 [6] [6] (zP K)
abbrev qHL K:=kq c9 510 [3,6,7,10,2,9] [6] (q3j K)
def qFr a b c d e f g w K:=SC c9 1021 [3,6,7,10,2,9] [6] (q3j K) 166 [(11,VI a),(10,VI b),(6,VB c),(3,VQ d),(7,VP e),(2,Value.int .u32 f),(9,VQ g)] w
abbrev qil K:=qo 0 (q3j K)
def qjp K Y10 e w:=zt (fun e w=>CS P (cA c9 4084) none [6,3,7,10,2,9,11] [6,3,7,10,2,9] (qu [6,3,7,10,2,9,11] Y10 (qil K)) e w) e w
abbrev YY K Y10:=qu [6,3,7,10,2,9,11] Y10 (qil K)
def qnH a b c d f g h w K Y10:=SG c9 4084 [6,3,7,10,2,9,11] [6,3,7,10,2,9] (YY K Y10) 166 [(6,VB a),(3,VQ b),(7,VP c),(10,VI d),(2,Value.int .u32 f),(9,VQ g),(11,VI h)] w
abbrev qsC K Y10:=kq c9 4084 [6,3,7,10,2,9,11] [6,3,7,10,2,9] (YY K Y10)
abbrev qHE K Y10:=kq c9 8168 [6,3,7,10,2,9,11] [6,3,7,10,2,9] (qsC K Y10)
def qvq a b c d f g h w K Y10:=SG c9 8169 [6,3,7,10,2,9,11] [6,3,7,10,2,9] (YY K Y10) 166 [(6,VB a),(3,VQ b),(7,VP c),(10,VI d),(2,Value.int .u32 f),(9,VQ g),(11,VI h)] w
abbrev qse K Y10:=kq c9 8169 [6,3,7,10,2,9,11] [6,3,7,10,2,9] (YY K Y10)
abbrev yF K Y10:=qo 1 (qse K Y10)
abbrev qus K Y10:=kq c9 32676 [6,3,7,10,2,9,11] [6,3,7,10,2,9,11] (yF K Y10)
abbrev qG7 K Y10:=kq c9 65352 [3,7,2,9,11,6,10] [6,3,7,10,2,9,11] (qus K Y10)
def q7S a b c d f g h w K Y10:=SG c9 16339 [6,3,7,10,2,9,11] [6,3,7,10,2,9] (YY K Y10) 166 [(6,VB a),(3,VQ b),(7,VP c),(10,VI d),(2,Value.int .u32 f),(9,VQ g),(11,VI h)] w
theorem q49:q7S a c d e f g h w K Y10=(Y10 (qi.mk 166 [(6,(Value.bool a)),(3,(Value.pointer (some c))),(7,(Value.pointer d)),(10,(Value.int .i64 e)),(2,(Value.int .u32 f)),(9,(Value.pointer (some g))),(11,(Value.int .i64 (IntKind.wrap .i64 (h+1))))] []) w):=qB kr
def qtl a b c d f g h w K Y10:=SG c9 65353 [6,3,7,10,2,9,11] [6,3,7,10,2,9,11] (yF K Y10) 166 [(3,VQ a),(7,VP b),(2,Value.int .u32 c),(9,VQ d),(11,VI f),(6,VB g),(10,VI h)] w
abbrev qJI K Y10:=kq c9 65353 [6,3,7,10,2,9,11] [6,3,7,10,2,9,11] (yF K Y10)
def qxp a b c d e f g h i j w K Y10:=SC c9 130707 [6,3,7,10,2,9,11] [6,3,7,10,2,9,11] (yF K Y10) 166 [(10,VI a),(59,VI b),(58,VI c),(3,VQ d),(7,VP e),(2,Value.int .u32 f),(9,VQ g),(11,VI h),(6,VB i),(10,VI j)] w
abbrev qIS K Y10:=kq c9 130707 [6,3,7,10,2,9,11] [6,3,7,10,2,9,11] (yF K Y10)
def qvO a b c d e f g h i j k l m n o p q r s t u v x y z a0 w K Y10:=SC c9 261415 [6,3,7,10,2,9,11] [6,3,7,10,2,9,11] (yF K Y10) 166 [(13,VI a),(12,VQ b),(69,VI c),(68,Value.agg d),(60,(Value.tuple #[(Value.agg e),(VI f)])),(67,(Value.tuple #[(Value.agg g),(VI h)])),(66,Value.int .u32 i),(65,VQ j),(64,VI k),(63,VS l m n),(62,VQ o),(61,VP p),(10,VI q),(59,VI r),(58,VI s),(3,VQ t),(7,VP u),(2,Value.int .u32 v),(9,VQ x),(11,VI y),(6,VB z),(10,VI a0)] w
abbrev qu9 K Y10:=kq c9 261415 [6,3,7,10,2,9,11] [6,3,7,10,2,9,11] (yF K Y10)
abbrev qIw K Y10:=kq c9 522830 [3,7,10,2,9,11,12,6] [6,3,7,10,2,9,11] (qu9 K Y10)
def qfm a b c d f g h i w K Y10:=SG c9 522831 [6,3,7,10,2,9,11] [6,3,7,10,2,9,11] (yF K Y10) 166 [(3,VQ a),(7,VP b),(10,VI c),(2,Value.int .u32 d),(9,VQ f),(11,VI g),(12,VQ h),(6,VB i)] w
abbrev qGT K Y10:=kq c9 522831 [6,3,7,10,2,9,11] [6,3,7,10,2,9,11] (yF K Y10)
def qwO a b c d e f g h i w K Y10:=SC c9 1045663 [6,3,7,10,2,9,11] [6,3,7,10,2,9,11] (yF K Y10) 166 [(14,VI a),(3,VQ b),(7,VP c),(10,VI d),(2,Value.int .u32 e),(9,VQ f),(11,VI g),(12,VQ h),(6,VB i)] w
abbrev q2v K Y10:=kq c9 1045663 [6,3,7,10,2,9,11] [6,3,7,10,2,9,11] (yF K Y10)
abbrev qKd K Y10:=kq c9 2091326 [3,7,10,2,9,11,6,14,12] [6,3,7,10,2,9,11] (q2v K Y10)
def qv9 a b c d e f g h i j k l m n o w K Y10:=SC c9 4182653 [3,7,10,2,9,11,6,14,12] [6,3,7,10,2,9,11] (q2v K Y10) 166 [(15,VI a),(76,VI b),(75,VI c),(74,VQ d),(73,Value.int .u32 e),(72,VQ f),(14,VI g),(3,VQ h),(7,VP i),(10,VI j),(2,Value.int .u32 k),(9,VQ l),(11,VI m),(12,VQ n),(6,VB o)] w
abbrev qeR K Y10:=qo 2 (q2v K Y10)
def qDV K Y10 Y19 e w:=zt (fun e w=>CS P (cA c9 16730612) none [3,7,10,2,9,11,12,15,14,6] [6,3,7,10,2,9,11,14,12] (qu [3,7,10,2,9,11,12,15,14,6] Y19 (qeR K Y10)) e w) e w
abbrev VC K Y10 Y19:=qu [3,7,10,2,9,11,12,15,14,6] Y19 (qeR K Y10)
def qnq a b c d f g h i j k w K Y10 Y19:=SG c9 16730612 [3,7,10,2,9,11,12,15,14,6] [6,3,7,10,2,9,11,14,12] (VC K Y10 Y19) 166 [(3,VQ a),(7,VP b),(10,VI c),(2,Value.int .u32 d),(9,VQ f),(11,VI g),(12,VQ h),(15,VI i),(14,VI j),(6,VB k)] w
abbrev qss K Y10 Y19:=kq c9 16730612 [3,7,10,2,9,11,12,15,14,6] [6,3,7,10,2,9,11,14,12] (VC K Y10 Y19)
abbrev qGF K Y10 Y19:=kq c9 33461224 [3,7,10,2,9,11,12,15,6,14] [6,3,7,10,2,9,11,14,12] (qss K Y10 Y19)
def qxC a b c d f g h i j k w K Y10 Y19:=SG c9 33461225 [3,7,10,2,9,11,12,15,14,6] [6,3,7,10,2,9,11,14,12] (VC K Y10 Y19) 166 [(3,VQ a),(7,VP b),(10,VI c),(2,Value.int .u32 d),(9,VQ f),(11,VI g),(12,VQ h),(15,VI i),(6,VB j),(14,VI k)] w
abbrev qwq K Y10 Y19:=kq c9 33461225 [3,7,10,2,9,11,12,15,14,6] [6,3,7,10,2,9,11,14,12] (VC K Y10 Y19)
abbrev qhX K Y10 Y19:=qo 3 (qwq K Y10 Y19)
abbrev qHI K Y10 Y19:=kq c9 133844900 [3,7,10,2,9,11,12,14,6,15] [6,3,7,10,2,9,11,14,12,15] (qhX K Y10 Y19)
def q75 a b c d f g h i j k l w K Y10 Y19:=SG c9 535379603 [3,7,10,2,9,11,12,14,6,15] [6,3,7,10,2,9,11,14,12,15] (qhX K Y10 Y19) 166 [(111,VB a),(3,VQ b),(7,VP c),(10,VI d),(2,Value.int .u32 f),(9,VQ g),(11,VI h),(14,VI i),(12,VQ j),(15,VI k),(6,VB l)] w
def qxq a b c d f g h i j k w K Y10 Y19:=SG c9 66922451 [3,7,10,2,9,11,12,15,14,6] [6,3,7,10,2,9,11,14,12] (VC K Y10 Y19) 166 [(3,VQ a),(7,VP b),(10,VI c),(2,Value.int .u32 d),(9,VQ f),(11,VI g),(12,VQ h),(14,VI i),(6,VB j),(15,VI k)] w
theorem qrw:qxq a c d e f g h i j k w K Y10 Y19=(∃ l:Int,w.cell? (a.add 2)=some (.int .i64 l)/\l≠0/\Y19 (qi.mk 166 [(3,(Value.pointer (some a))),(7,(Value.pointer c)),(10,(Value.int .i64 d)),(2,(Value.int .u32 e)),(9,(Value.pointer (some f))),(11,(Value.int .i64 g)),(12,(Value.pointer (some h))),(15,(Value.int .i64 ((IntKind.wrap .i64 (k+1)).tmod l))),(14,(Value.int .i64 i)),(6,(Value.bool j))] []) w):=qB kr
theorem qoR:q75 a c d e f g h i j k l w K Y10 Y19=(qp a (K (Value.bool false) w) (qxq c d e f g h j i l k w K Y10 Y19)):=qB kr
theorem qpA:qxC f h i j d e k c l g w K Y10 Y19=(∃ (m:OA) (n x:Nat),w.drew.cell? (d.add 6)=some (.slice m n x)/\qh m (fun y=>0<=c/\c<(n:Nat)/\∃ o:Int,w.drew.cell? (y.add (Int.toNat c*1))=some (.int .u32 o)/\qp (o==0) (q75 true f h i j d e (IntKind.wrap .i64 (g+1)) k c l w.drew K Y10 Y19) (∃ (p:OA) (q z:Nat),w.drew.cell? (d.add 6)=some (.slice p q z)/\qh p (fun a0=>0<=c/\c<(q:Nat)/\∃ r:Int,w.drew.cell? (a0.add (Int.toNat c*1))=some (.int .u32 r)/\∃ (s:OA) (t b0:Nat),w.drew.cell? (d.add 6)=some (.slice s t b0)/\qh s (fun c0=>0<=e/\e<(t:Nat)/\∃ u:Int,w.drew.cell? (c0.add (Int.toNat e*1))=some (.int .u32 u)/\qp (r==u) (q75 true f h i j d e (IntKind.wrap .i64 (g+1)) k c l w.drew K Y10 Y19) (∃ v:Int,w.drew.cell? (f.add 2)=some (.int .i64 v)/\q75 (decide ((IntKind.wrap .i64 (g+1)) > v)) f h i j d e (IntKind.wrap .i64 (g+1)) k c l w.drew K Y10 Y19)))))):=qB (qG [3,7,10,2,9,11,12,14,6,15] (qwq K Y10 Y19) (Q8 3 [6,3,7,10,2,9,11,14,12,15] (qhX K Y10 Y19) (qG [3,7,10,2,9,11,14,12,15,6] (qHI K Y10 Y19) kr)))
def qx5 a b c d f g h i j w K Y10:=SG c9 2091327 [6,3,7,10,2,9,11] [6,3,7,10,2,9,11] (yF K Y10) 166 [(3,VQ a),(7,VP b),(10,VI c),(2,Value.int .u32 d),(9,VQ f),(11,VI g),(6,VB h),(14,VI i),(12,VQ j)] w
abbrev qHX K Y10:=kq c9 2091327 [6,3,7,10,2,9,11] [6,3,7,10,2,9,11] (yF K Y10)
theorem qoM:qx5 d c e f g h i j k w K Y10=(∃ l:Int,w.cell? k=some (.int .u32 l)/\q9 P 22 [(Value.pointer c),(Value.int .u32 l)] w (fun o m=>∃ n:Int,o=(.int .i64 n)/\qp (n != (IntKind.wrap .i64 (j+1))) (K (Value.bool false) m) (q7S i d c e f g h m K Y10))):=qB (qG [118,3,7,10,2,9,11,6] (qHX K Y10) kr)
theorem qgP:qnq d e f g h c i j k l w K Y10 Y19=(qp (j != c) (qxC d e f g h c i j l k w K Y10 Y19) (qx5 d e f g h c l k i w K Y10)):=qB (qG [3,7,10,2,9,11,12,15,6,14] (qss K Y10 Y19) (qG [79,3,7,10,2,9,11,12,15,6,14] (qGF K Y10 Y19) kr))
theorem qrB:qv9 a l m n o p c d e f g h i j k w K Y10=(qK (qDV K Y10) (qi.mk 166 [(3,(Value.pointer (some d))),(7,(Value.pointer e)),(10,(Value.int .i64 f)),(2,(Value.int .u32 g)),(9,(Value.pointer (some h))),(11,(Value.int .i64 i)),(12,(Value.pointer (some j))),(15,(Value.int .i64 a)),(14,(Value.int .i64 c)),(6,(Value.bool k))] []) w):=Eq.trans (b:=CS P (cA c9 4182653) none [3,7,10,2,9,11,6,14,12] [6,3,7,10,2,9,11] (q2v K Y10) (qi.mk 166 [(15,(VI a)),(76,(VI l)),(75,(VI m)),(74,(VP (some n))),(73,(Value.int .u32 o)),(72,(VP (some p))),(14,(VI c)),(3,(VP (some d))),(7,(VP e)),(10,(VI f)),(2,(Value.int .u32 g)),(9,(VP (some h))),(11,(VI i)),(12,(VP (some j))),(6,(VB k))] []) w) kr (Eq.trans (Zc 2 [6,3,7,10,2,9,11,14,12] (qeR K Y10) kr) ((qS (b:=(cA c9 16730612)) (X':=[6,3,7,10,2,9,11,14,12]) (H:=[3,7,10,2,9,11,12,15,14,6]) kr kr kr).trans kr))
theorem qqz:qwO e c f g h i j d k w K Y10=(∃ l:Int,w.cell? d=some (.int .u32 l)/\∃ m:Int,w.cell? (c.add 2)=some (.int .i64 m)/\q9 P 38 [(Value.int .u32 l),(Value.int .i64 m)] w (fun o p=>∃ n:Int,o=(.int .i64 n)/\qv9 n n m (c.add 2) l d e c f g h i j d k p K Y10)):=Eq.trans (b:=CS P (cA c9 1045663) none [6,3,7,10,2,9,11] [6,3,7,10,2,9,11] (yF K Y10) (qi.mk 166 [(14,(VI e)),(3,(VP (some c))),(7,(VP f)),(10,(VI g)),(2,(Value.int .u32 h)),(9,(VP (some i))),(11,(VI j)),(12,(VP (some d))),(6,(VB k))] []) w) kr (Eq.trans (qZ [3,7,10,2,9,11,6,14,12] (q2v K Y10) kr) (Eq.trans (qZ [3,7,10,2,9,11,12,15,14,6] (qKd K Y10) kr) kr))
theorem qrq:qfm c d e f g h i j w K Y10=(qwO 0 c d e f g h i j w K Y10):=qB (qG [3,7,10,2,9,11,12,14,6] (qGT K Y10) kr)
theorem qqY:qvO c d l m n o p q r s t u v x y z e a0 b0 f g h i j k c0 w K Y10=(qp (c != 0) (K (Value.bool false) w) (qfm f g e h i j d k w K Y10)):=Eq.trans (b:=CS P (cA c9 261415) none [6,3,7,10,2,9,11] [6,3,7,10,2,9,11] (yF K Y10) (qi.mk 166 [(13,(VI c)),(12,(VP (some d))),(69,(VI l)),(68,(Value.agg m)),(60,(Value.tuple #[(Value.agg n),(VI o)])),(67,(Value.tuple #[(Value.agg p),(VI q)])),(66,(Value.int .u32 r)),(65,(VP (some s))),(64,(VI t)),(63,(VS u v x)),(62,(VP (some y))),(61,(VP z)),(10,(VI e)),(59,(VI a0)),(58,(VI b0)),(3,(VP (some f))),(7,(VP g)),(2,(Value.int .u32 h)),(9,(VP (some i))),(11,(VI j)),(6,(VB k)),(10,(VI c0))] []) w) kr (Eq.trans (qZ [3,7,10,2,9,11,12,6] (qu9 K Y10) kr) (Eq.trans (qZ [71,3,7,10,2,9,11,12,6] (qIw K Y10) kr) kr))
theorem qpj:qxp h i j k d l e c m n w K Y10=(∃ (o:OA) (p r:Nat),w.cell? (e.add 6)=some (.slice o p r)/\qh o (fun s=>0<=c/\c<(p:Nat)/\∃ q:Int,w.cell? (s.add (Int.toNat c*1))=some (.int .u32 q)/\q9 P 28 [(Value.pointer d),(Value.int .u32 q)] w (fun u v=>∃ f:Array Value,∃ g:Int,u=(.tuple #[(Value.agg f),(Value.int .i64 g)])/\qv (qx P 41) 41 v (fun t x=>zT 3 (Addr.mk t 0 none) f x (fun y=>qvO g (Addr.mk t 0 none) g f f g f g q (s.add (Int.toNat c*1)) c o p r (e.add 6) d h i j k d l e c m n y K Y10))))):=Eq.trans (b:=CS P (cA c9 130707) none [6,3,7,10,2,9,11] [6,3,7,10,2,9,11] (yF K Y10) (qi.mk 166 [(10,(VI h)),(59,(VI i)),(58,(VI j)),(3,(VP (some k))),(7,(VP d)),(2,(Value.int .u32 l)),(9,(VP (some e))),(11,(VI c)),(6,(VB m)),(10,(VI n))] []) w) kr (Eq.trans (qZ [3,7,10,2,9,11,12,6,13] (qIS K Y10) kr) kr)
theorem qrZ:qtl d e f g h i c w K Y10=(qxp (IntKind.wrap .i64 (c+1)) (IntKind.wrap .i64 (c+1)) c d e f g h i c w K Y10):=qB (qG [3,7,10,2,9,11,6] (qJI K Y10) kr)
theorem qrl:qvq e f g h i d c w K Y10=(∃ (j:OA) (k m:Nat),w.cell? (d.add 6)=some (.slice j k m)/\qh j (fun n=>0<=c/\c<(k:Nat)/\∃ l:Int,w.cell? (n.add (Int.toNat c*1))=some (.int .u32 l)/\qp (l==0) (q7S e f g h i d c w K Y10) (qtl f g i d c e h w K Y10))):=qB (qG [6,3,7,10,2,9,11] (qse K Y10) (Q8 1 [6,3,7,10,2,9,11] (yF K Y10) (qG [3,7,2,9,11,6,10] (qus K Y10) (qG [57,6,3,7,10,2,9,11] (qG7 K Y10) kr))))
def qup a b c d f g w K:=SG c9 511 [6] [6] (zP K) 166 [(3,VQ a),(6,VB b),(7,VP c),(10,VI d),(2,Value.int .u32 f),(9,VQ g)] w
abbrev qJU K:=kq c9 511 [6] [6] (zP K)
def qdT a b c d e f g w K:=SC c9 1023 [6] [6] (zP K) 166 [(16,VI a),(3,VQ b),(6,VB c),(7,VP d),(10,VI e),(2,Value.int .u32 f),(9,VQ g)] w
abbrev q1D K:=kq c9 1023 [6] [6] (zP K)
abbrev qIE K:=kq c9 2046 [7,10,16,2] [6] (q1D K)
def quH a b c d e f g h i j k l w K:=SC c9 4093 [7,10,16,2] [6] (q1D K) 166 [(17,VI a),(122,VI b),(121,VI c),(120,VQ d),(119,Value.int .u32 e),(16,VI f),(3,VQ g),(6,VB h),(7,VP i),(10,VI j),(2,Value.int .u32 k),(9,VQ l)] w
abbrev qdY K:=qo 4 (q1D K)
def qDy K Y27 e w:=zt (fun e w=>CS P (cA c9 16372) none [3,17,16,6,7,10,2,9] [6,7,10,16,2] (qu [3,17,16,6,7,10,2,9] Y27 (qdY K)) e w) e w
abbrev Vw K Y27:=qu [3,17,16,6,7,10,2,9] Y27 (qdY K)
def qje a b c d f g h i w K Y27:=SG c9 16372 [3,17,16,6,7,10,2,9] [6,7,10,16,2] (Vw K Y27) 166 [(3,VQ a),(17,VI b),(16,VI c),(6,VB d),(7,VP f),(10,VI g),(2,Value.int .u32 h),(9,VQ i)] w
abbrev qcQ K Y27:=kq c9 16372 [3,17,16,6,7,10,2,9] [6,7,10,16,2] (Vw K Y27)
abbrev qIt K Y27:=kq c9 32744 [3,6,7,10,2,9,17,16] [6,7,10,16,2] (qcQ K Y27)
def q5q a b c d f g h i j w K Y27:=SG c9 65489 [3,6,7,10,2,9,17,16] [6,7,10,16,2] (qcQ K Y27) 166 [(134,VB a),(3,VQ b),(6,VB c),(7,VP d),(10,VI f),(2,Value.int .u32 g),(9,VQ h),(17,VI i),(16,VI j)] w
def qtC a b c d f g h i w K Y27:=SG c9 32745 [3,17,16,6,7,10,2,9] [6,7,10,16,2] (Vw K Y27) 166 [(3,VQ a),(6,VB b),(7,VP c),(10,VI d),(2,Value.int .u32 f),(9,VQ g),(17,VI h),(16,VI i)] w
abbrev quJ K Y27:=kq c9 32745 [3,17,16,6,7,10,2,9] [6,7,10,16,2] (Vw K Y27)
abbrev qHy K Y27:=qo 5 (quJ K Y27)
def qwz a b c d f g h i w K Y27:=SG c9 65491 [3,17,16,6,7,10,2,9] [6,7,10,16,2] (Vw K Y27) 166 [(3,VQ a),(16,VI b),(6,VB c),(7,VP d),(10,VI f),(2,Value.int .u32 g),(9,VQ h),(17,VI i)] w
theorem qql:qwz a c d e f g h i w K Y27=(∃ j:Int,w.cell? (a.add 2)=some (.int .i64 j)/\j≠0/\Y27 (qi.mk 166 [(3,(Value.pointer (some a))),(17,(Value.int .i64 ((IntKind.wrap .i64 (i+1)).tmod j))),(16,(Value.int .i64 c)),(6,(Value.bool d)),(7,(Value.pointer e)),(10,(Value.int .i64 f)),(2,(Value.int .u32 g)),(9,(Value.pointer (some h)))] []) w):=qB kr
theorem qqT:qtC c d e f g h i j w K Y27=(qwz c (IntKind.wrap .i64 (j+1)) d e f g h i w K Y27):=qB (qG [3,16,6,7,10,2,9,17] (quJ K Y27) (Q8 5 [6,7,10,16,2,3,9,17] (qHy K Y27) kr))
def qug a b c d w K:=SG c9 2047 [6] [6] (zP K) 166 [(7,VP a),(10,VI b),(16,VI c),(2,Value.int .u32 d)] w
abbrev qgE K:=kq c9 2047 [6] [6] (zP K)
abbrev qJw K:=kq c9 4094 [7,10] [6] (qgE K)
def q7g a b c w K:=SG c9 16379 [7,10] [6] (qgE K) 166 [(157,VB a),(7,VP b),(10,VI c)] w
def qvr a b w K:=SG c9 4095 [6] [6] (zP K) 166 [(7,VP a),(10,VI b)] w
abbrev qIT K:=kq c9 4095 [6] [6] (zP K)
def qev a w K:=SG c9 8191 [6] [6] (zP K) 166 [(6,VB a)] w
theorem qrN:qev a w K=(K (Value.bool a) w):=qB kr
theorem qqc:qvr c d w K=(q9 P 15 [] w (fun i e=>∃ f:Bool,i=(.bool f)/\qp f (q9 P 23 [(Value.pointer c)] e (fun j k=>∃ g:Array Value,j=(.agg g)/\∃ h:Int,g[0]?=some (.int .i64 h)/\qev (d==h) k K)) (qev false e K))):=qB (qG [6] (qIT K) kr)
theorem qp8:q7g a c d w K=(qp a (K (Value.bool false) w) (qvr c d w K)):=qB kr
theorem qrQ:qug c d f e w K=(q9 P 21 [(Value.pointer c),(Value.int .u32 e)] w (fun j g=>∃ k:Int,∃ h:Bool,j=(.tuple #[(Value.int .u32 k),(Value.bool h)])/\qp (!h) (q9 P 22 [(Value.pointer c),(Value.int .u32 e)] g (fun l m=>∃ i:Int,l=(.int .i64 i)/\q7g (i != (IntKind.wrap .i64 (f+1))) c d m K)) (q7g false c d g K))):=qB (qG [7,10] (qgE K) (qG [7,10,16,2,19] (qJw K) kr))
theorem q4z:q5q f g h a c d i j e w K Y27=(qp f (qtC g h a c d i j e w K Y27) (qug a c e d w K)):=qB kr
theorem qeS:qje d c e g h i j f w K Y27=(∃ k:Int,w.cell? (d.add 2)=some (.int .i64 k)/\qp (decide (e<k)) (∃ (l:OA) (m o:Nat),w.cell? (f.add 6)=some (.slice l m o)/\qh l (fun p=>0<=c/\c<(m:Nat)/\∃ n:Int,w.cell? (p.add (Int.toNat c*1))=some (.int .u32 n)/\q5q (n != 0) d g h i j f c e w K Y27)) (q5q false d g h i j f c e w K Y27)):=qB (qG [3,6,7,10,2,9,17,16] (qcQ K Y27) (qG [134,3,6,7,10,2,9,17,16] (qIt K Y27) kr))
theorem qq5:quH a j k l m c d e f g h i w K=(qK (qDy K) (qi.mk 166 [(3,(Value.pointer (some d))),(17,(Value.int .i64 a)),(16,(Value.int .i64 c)),(6,(Value.bool e)),(7,(Value.pointer f)),(10,(Value.int .i64 g)),(2,(Value.int .u32 h)),(9,(Value.pointer (some i)))] []) w):=Eq.trans (b:=CS P (cA c9 4093) none [7,10,16,2] [6] (q1D K) (qi.mk 166 [(17,(VI a)),(122,(VI j)),(121,(VI k)),(120,(VP (some l))),(119,(Value.int .u32 m)),(16,(VI c)),(3,(VP (some d))),(6,(VB e)),(7,(VP f)),(10,(VI g)),(2,(Value.int .u32 h)),(9,(VP (some i)))] []) w) kr (Eq.trans (Zc 4 [6,7,10,16,2] (qdY K) kr) ((qS (b:=(cA c9 16372)) (X':=[6,7,10,16,2]) (H:=[3,17,16,6,7,10,2,9]) kr kr kr).trans kr))
theorem qrs:qdT e c f g h d i w K=(∃ j:Int,w.cell? (c.add 2)=some (.int .i64 j)/\q9 P 38 [(Value.int .u32 d),(Value.int .i64 j)] w (fun l m=>∃ k:Int,l=(.int .i64 k)/\quH k k j (c.add 2) d e c f g h d i m K)):=Eq.trans (b:=CS P (cA c9 1023) none [6] [6] (zP K) (qi.mk 166 [(16,(VI e)),(3,(VP (some c))),(6,(VB f)),(7,(VP g)),(10,(VI h)),(2,(Value.int .u32 d)),(9,(VP (some i)))] []) w) kr (Eq.trans (qZ [7,10,16,2] (q1D K) kr) (Eq.trans (qZ [3,17,16,6,7,10,2,9] (qIE K) kr) kr))
theorem qr5:qup c d e f g h w K=(qdT 0 c d e f g h w K):=qB (qG [3,16,6,7,10,2,9] (qJU K) kr)
theorem qhB:qnH d e f g h c i w K Y10=(∃ (k:OA) (j l:Nat),w.cell? (c.add 6)=some (.slice k j l)/\qp (decide (i<((j:Nat):Int))) (qvq d e f g h c i w K Y10) (qup e d f g h c w K)):=qB (qG [6,3,7,10,2,9,11] (qsC K Y10) (qG [49,6,3,7,10,2,9,11] (qHE K Y10) kr))
theorem qyn:qFr a c d e f g h w K=(qK (qjp K) (qi.mk 166 [(6,(Value.bool d)),(3,(Value.pointer (some e))),(7,(Value.pointer f)),(10,(Value.int .i64 c)),(2,(Value.int .u32 g)),(9,(Value.pointer (some h))),(11,(Value.int .i64 a))] []) w):=Eq.trans (b:=CS P (cA c9 1021) none [3,6,7,10,2,9] [6] (q3j K) (qi.mk 166 [(11,(VI a)),(10,(VI c)),(6,(VB d)),(3,(VP (some e))),(7,(VP f)),(2,(Value.int .u32 g)),(9,(VP (some h)))] []) w) kr (Eq.trans (Zc 0 [6,3,7,10,2,9] (qil K) kr) ((qS (b:=(cA c9 4084)) (X':=[6,3,7,10,2,9]) (H:=[6,3,7,10,2,9,11]) kr kr kr).trans kr))
theorem qvS:qFN c d e f g h w K=(qFr 0 c d e f g h w K):=Eq.trans (b:=CS P (cA c9 255) none [6] [6] (zP K) (qi.mk 166 [(10,(VI c)),(6,(VB d)),(3,(VP (some e))),(7,(VP f)),(2,(Value.int .u32 g)),(9,(VP (some h)))] []) w) kr (Eq.trans (qZ [3,6,7,10,2,9] (q3j K) kr) (Eq.trans (qZ [6,3,7,10,2,9,11] (qHL K) kr) kr))
theorem qsL:qFG c d e f g w K=(qFN 0 c d e f g w K):=qB (qG [6,3,7,10,2,9] (qHQ K) kr)
theorem qs8:qFJ c h i e d f g w K=(∃ (l:OA) (j m:Nat),w.cell? (c.add 6)=some (.slice l j m)/\∃ k:Int,w.cell? (d.add 2)=some (.int .i64 k)/\qp ((((j:Nat):Int):Int) != k) (K (Value.bool false) w) (qFG e d f g c w K)):=Eq.trans (b:=CS P (cA c9 63) none [6] [6] (zP K) (qi.mk 166 [(9,(VP (some c))),(38,(Value.agg h)),(37,(VP i)),(6,(VB e)),(3,(VP (some d))),(7,(VP f)),(2,(Value.int .u32 g))] []) w) kr (Eq.trans (qZ [6,3,7,2,9] (qFQ K) kr) (Eq.trans (qZ [44,6,3,7,2,9] (qJ0 K) kr) kr))
theorem qxc:qFK d e c f w K=(q9 P 35 [(Value.pointer c)] w (fun i j=>∃ g:Array Value,i=(.agg g)/\qv (qx P 73) 73 j (fun h k=>zT 9 (Addr.mk h 0 none) g k (fun l=>qFJ (Addr.mk h 0 none) g c d e c f l K)))):=qB (qG [6,3,7,2,9] (qLk K) kr)
theorem qcM:qFF d e h i j k l m n o p q c f g r s t w K=(qp (!d) (q9 P 15 [] w (fun y u=>∃ v:Bool,y=(.bool v)/\qp v (qU 3 c u (fun z=>q9 P 26 [(Value.agg z)] u (fun a0 b0=>∃ x:Bool,a0=(.bool x)/\qxa x b0 K))) (qxa false u K))) (qFK f c e g w K)):=Eq.trans (b:=CS P (cA c9 15) none [6] [6] (zP K) (qi.mk 166 [(8,(VB d)),(7,(VP e)),(29,(VB h)),(28,(VP i)),(24,(Value.tuple #[(VP j),(VB k)])),(27,(Value.tuple #[(VP l),(VB m)])),(26,(VS n o p)),(25,(Value.agg q)),(3,(VP (some c))),(6,(VB f)),(2,(Value.int .u32 g)),(1,(VS r s t))] []) w) kr (Eq.trans (qZ [6,3,7,2] (qwF K) kr) (Eq.trans (qZ [31,3,6,7,2] (qLN K) kr) kr))
theorem qsf:qFz f i j c d e w K=(qU 3 f w (fun k=>q9 P 25 [(Value.agg k),(Value.slice c d e)] w (fun l m=>∃ g:Option Addr,∃ h:Bool,l=(.tuple #[(Value.pointer g),(Value.bool h)])/\qFF h g h g g h g h c d e k f i j c d e m K))):=qB (qG [3,6,7,2,8] (qL3 K) kr)
theorem qv3:qFw f h c d e g w K=(q9 P 24 [(Value.slice c d e),(Value.int .i64 60)] w (fun l i=>∃ j:Bool,l=(.bool j)/\qp (!j) (q9 P 15 [] i (fun m n=>∃ k:Bool,m=(.bool k)/\K (Value.bool k) n)) (qFz f false g c d e i K))):=Eq.trans (b:=CS P (cA c9 3) none [6] [6] (zP K) (qi.mk 166 [(6,(VB false)),(3,(VP (some f))),(0,(Value.agg h)),(1,(VS c d e)),(2,(Value.int .u32 g))] []) w) kr (Eq.trans (qZ [3,6,2,1] (qFP K) kr) (Eq.trans (qZ [22,3,6,2,1] (qMo K) kr) kr))
theorem qx0:qFs c d e f g w K=(qv c 27 w (fun h i=>qFw (Addr.mk h 0 none) c d e f g i K)):=Eq.trans (b:=CS P (cA c9 1) none [6] [6] (zP K) (qi.mk 166 [(0,(Value.agg c)),(1,(VS d e f)),(2,(Value.int .u32 g))] []) w) kr (Eq.trans (qZ [3,6,2,1] (qKI K) kr) kr)
theorem qMP:f9 a b c d e w K=(qFs a b c d e w K):=kr
theorem qMG a b c d e w K(h:f9 a b c d e w K):q9 P 9 [(Value.agg a),(Value.slice b c d),(Value.int .u32 e)] w K:=qA c9 Tryz.func9 h
end Go.Fx.Tryz
namespace Go.Fx.Ch
open Go.Fx.Tryz
set_option linter.all false
theorem qR.fullCount{s:qd}(h:qR s):((List.range (2 ^ s.k)).filter fun i=>decide (qk s.table i≠0)).length=s.items.length:=by
 have hp:(((List.range (2 ^ s.k)).filter fun i=>decide (qk s.table i≠0)).map (qk s.table)).Perm (keys s.items):=by
  refine(List.perm_ext_iff_of_nodup ?_ h.nd).2 fun x=>?_
  ·refine List.pairwise_map.2 ((List.nodup_range.filter _).imp_of_mem fun {a b} ha hb hab he=>hab ?_)
   obtain⟨ha,ha0⟩:=List.mem_filter.1 ha
   obtain⟨hb,_⟩:=List.mem_filter.1 hb
   exact h.tab.inj a b (List.mem_range.1 ha) (List.mem_range.1 hb) (of_decide_eq_true ha0) he
  ·rw[List.mem_map]
   constructor
   ·rintro⟨i,hi,rfl⟩
    obtain⟨hi,hi0⟩:=List.mem_filter.1 hi
    exact h.tab.mem i (List.mem_range.1 hi) (of_decide_eq_true hi0)
   ·intro hx
    obtain⟨i,hi,he⟩:=h.tab.has x hx
    have:=(h.pos x hx).1
    exact⟨i,List.mem_filter.2 ⟨List.mem_range.2 hi,decide_eq_true (by rw[he];omega)⟩,he⟩
 have:=hp.length_eq
 rw[List.length_map,qH]at this
 exact this
def V8(t:List Int)(i:Nat):Nat:=((List.range i).filter fun j=>decide (qk t j≠0)).length
theorem q3l(t:List Int)(i:Nat):V8 t (i+1)=if qk t i=0 then V8 t i else V8 t i+1:=by
 unfold V8
 rw[List.range_succ,List.filter_append,List.length_append,List.filter_cons,List.filter_nil]
 by_cases h:qk t i=0
 ·rw[if_pos h,if_neg (by simp[h])];rfl
 ·rw[if_neg h,if_pos (by simp[h])];rfl
theorem qtp(t:List Int)(i:Nat):V8 t i<=i:=by
 unfold V8
 exact Nat.le_trans (List.length_filter_le _ _) (by rw[List.length_range];exact Nat.le_refl _)
theorem qR.stands{s:qd}(h:qR s){i:Nat}(hi:i<2 ^ s.k)(h0:qk s.table i≠0) :
  qk s.table i∈keys s.items/\(∀ m,m<D (2 ^ s.k) (ze s.k (qj s.items (qk s.table i)).at_).toNat i->qk s.table (((ze s.k (qj s.items (qk s.table i)).at_).toNat+m) % 2 ^ s.k)≠0)/\
  (zE s (qj s.items (qk s.table i)).at_).2=D (2 ^ s.k) (ze s.k (qj s.items (qk s.table i)).at_).toNat i+1:=by
 have hx:=h.tab.mem i hi h0
 obtain⟨j,hj,hje,hb,hl⟩:=h.look_some hx rfl
 have:j=i:=h.tab.inj j i hj hi (by rw[hje];exact h0) hje
 subst this
 exact⟨hx,hb,by rw[hl]⟩
end Go.Fx.Ch
namespace Go.Fx.Tryz
open Go Go.Fx Go.Fx.Ch
open Go.Proofs
set_option linter.all false
set_option maxRecDepth 20000
variable {w0 w:World} {H X N Z:qE} {K:KT} {s:qd} {L:qQ} {q:LB}
theorem q4A{k:Nat}(h4:4<=k)(h16:k<=16){at_:Int}(h0:0<=at_)(h1:at_<4294967296)(hK:K (J (ze k at_)) w):q9 P 38 [U at_,J (2 ^ k:Nat)] w K:=by
 refine qGB _ _ _ _ ?_
 rw[qHb]
 refine⟨fun m e' w'=>∃ j:Nat,j<=k/\m=k-j/\e'=qi.mk 21 [(6,J ((2 ^ j:Nat):Int)),(5,J j),(4,J 0),(0,U at_),(1,J ((2 ^ k:Nat):Int))] []/\w'=w,⟨_,0,by omega,rfl,rfl,rfl⟩,?_⟩
 rintro m e' w' ⟨j,hj,rfl,rfl,rfl⟩
 show ql7 ..
 rw[qhK,qg]
 have hpk:=zo h4 h16
 refine⟨fun hlt=>?_,fun hge=>?_⟩
 ·have hlt:=of_decide_eq_true hlt
  have hjk:j<k:=by
   refine Classical.byContradiction fun hn=>?_
   have:j=k:=by omega
   subst this
   omega
  have hle:(2:Nat) ^ (j+1)<=2 ^ k:=Nat.pow_le_pow_right (by decide) hjk
  have h2:((2 ^ j:Nat):Int)*2=((2 ^ (j+1):Nat):Int):=by rw[Nat.pow_succ,Int.natCast_mul];rfl
  rw[qrE,qqP,qc (x:=(j:Int)+1) om om,h2,qc (x:=((2 ^ (j+1):Nat):Int)) (by have:=Int.natCast_nonneg (2 ^ (j+1));omega) (by generalize (2:Nat) ^ (j+1)=y at *;omega)]
  exact⟨_,by omega,j+1,by omega,rfl,rfl,rfl⟩
 ·have hge:=of_decide_eq_false hge
  have hjk:j=k:=by
   refine Classical.byContradiction fun hn=>?_
   have:(2:Nat) ^ (j+1)<=2 ^ k:=Nat.pow_le_pow_right (by decide) om
   rw[Nat.pow_succ]at this
   have hp:0<(2:Nat) ^ j:=Nat.pow_pos (by decide)
   generalize (2:Nat) ^ j=y at *
   omega
  subst hjk
  rw[qpK,qc (x:=(32:Int)-j) om om]
  refine⟨by decide,by omega,?_⟩
  have e:at_.tdiv 4=at_ / 4:=Int.tdiv_eq_ediv_of_nonneg h0
  have wu:∀ x:Int,IntKind.wrap .u32 x=x % 4294967296:=fun x=>by simp[IntKind.wrap,IntKind.bits,IntKind.signed]
  have em:(at_ / 4) % 4294967296=at_ / 4:=by omega
  have e2:min (Int.toNat ((32:Int)-j)) (IntKind.bits .u32)=32-j:=by show min (Int.toNat ((32:Int)-j)) 32=32-j;omega
  rw[e,wu,wu,em,e2,Int.fdiv_eq_ediv_of_nonneg _ (Int.le_of_lt (Int.pow_pos (by decide)))]
  have:(at_ / 4*2654435761) % 4294967296 / 2 ^ (32-j)=ze j at_:=rfl
  rw[this]
  have hb:=vp h4 h16 at_
  have hp2:(2:Int) ^ j=((2 ^ j:Nat):Int):=by rw[Int.natCast_pow];rfl
  rw[qc om (by rw[hp2]at hb;omega)]
  exact hK
structure TC (w0:World) (H:qE) (s:qd) (q:LB) (L:qQ) (n4 n56:Nat) (len:Int) (n k m:Nat) (rv tv:Value) (N Tb:qE) (rs:List SR) (X:qE):Prop where
 pi:PI R5 n len k m s
 m100:m<=100
 ok:L.Ok w0 q s
 g:zA H
 n4:w0.heap.size<=n4
 n56:w0.heap.size<=n56
 nx:qF w0 X
 sv:qga s rv tv N rs Tb
 nn:qF w0 (N++((rs.map SR.blk).flatten++Tb))
section
variable {n4 n56 n k m:Nat} {len:Int} {rv tv:Value} {N Tb:qE} {rs:List SR}
def TH(H:qE)(s:qd)(q:LB)(L:qQ)(n4 n56:Nat)(len:Int)(n k:Nat)(rv tv:Value)(N Tb:qE)(rs:List SR)(X:qE):List (Nat × Obj):=
 (n56,Cs (yn s rv tv) 73)::((N++((rs.map SR.blk).flatten++Tb))++(L.bl q s++(X++((n4,Cs (zB n len (2 ^ k:Nat)) 27)::H))))
variable (c:TC w0 H s q L n4 n56 len n k m rv tv N Tb rs X)
include c
theorem TC.conf(h:St w0 w (Z++TH H s q L n4 n56 len n k rv tv N Tb rs X))(j:Nat):w.cell? ((Addr.mk n4 0 none).add j)=(zB n len (2 ^ k:Nat))[j]?:=by
 have hm:(n4,Cs (zB n len (2 ^ k:Nat)) 27)∈Z++TH H s q L n4 n56 len n k rv tv N Tb rs X:=List.mem_append_right _ (.tail _ (List.mem_append_right _ (List.mem_append_right _ (List.mem_append_right _ (.head _)))))
 rw[qa,qw (h.has _ _ hm),Nat.zero_add]
theorem TC.tab:∃ ta tc,tv=.slice (some ta) (2 ^ s.k) tc/\∀ (w':World) (Z:qE),St w0 w' (Z++TH H s q L n4 n56 len n k rv tv N Tb rs X)->(w'.cell? ((Addr.mk n56 0 none).add 6)=some (.slice (some ta) (2 ^ s.k) tc))/\∀ i,i<2 ^ s.k->w'.cell? (ta.add (i*1))=some (U (qk s.table i)):=by
 have hp:=zo c.pi.base.k4 c.pi.base.k16
 have htl:=c.ok.tl
 rcases c.sv.tab.2 with⟨h1,h2,_⟩ | ⟨g,cap,cur,h1,_⟩
 ·omega
 ·refine⟨_,_,h1,fun w' Z h'=>⟨?_,fun i hi=>?_⟩⟩
  ·have hm:(n56,Cs (yn s rv tv) 73)∈Z++TH H s q L n4 n56 len n k rv tv N Tb rs X:=List.mem_append_right _ (.head _)
   rw[qa,qw (h'.has _ _ hm),<-h1];rfl
  ·have hr:=c.sv.tab.row fun u hu=>h'.has _ _ (List.mem_append_right _ (.tail _ (List.mem_append_left _ (List.mem_append_right _ (List.mem_append_right _ hu)))))
   rw[h1]at hr
   rw[vn.one hr hi,List.getElem?_map,List.getElem?_eq_getElem om]
   unfold qk
   rw[List.getElem?_eq_getElem om];rfl
theorem TC.drop(h:St w0 w (TH H s q L n4 n56 len n k rv tv N Tb rs X)):St w0 w H:=by
 have h:St w0 w ((n56,Cs (yn s rv tv) 73)::((N++((rs.map SR.blk).flatten++Tb))++(L.bl q s++(X++((n4,Cs (zB n len (2 ^ k:Nat)) 27)::H))))):=h
 exact((((h.tail c.n56).sub c.nn).sub c.ok.newB).sub c.nx).tail c.n4
theorem TC.front(h:St w0 w (TH H s q L n4 n56 len n k rv tv N Tb rs X)):St w0 w (L.bl q s++((n56,Cs (yn s rv tv) 73)::((N++((rs.map SR.blk).flatten++Tb))++(X++((n4,Cs (zB n len (2 ^ k:Nat)) 27)::H))))):=by
 unfold TH at h
 exact h.perm (qn fun c=>by simp only[List.map_append,List.map_cons,List.sum_append,List.sum_cons];omega)
theorem TC.back{Y:qE}(h:St w0 w (Y++(L.bl q s++((n56,Cs (yn s rv tv) 73)::((N++((rs.map SR.blk).flatten++Tb))++(X++((n4,Cs (zB n len (2 ^ k:Nat)) 27)::H))))))): St w0 w (Y++TH H s q L n4 n56 len n k rv tv N Tb rs X):=by
 unfold TH
 exact h.perm (qn fun c=>by simp only[List.map_append,List.map_cons,List.sum_append,List.sum_cons];omega)
theorem TC.glob:zA ((n56,Cs (yn s rv tv) 73)::((N++((rs.map SR.blk).flatten++Tb))++(X++((n4,Cs (zB n len (2 ^ k:Nat)) 27)::H)))):=
 c.g.mono fun v hv=>.tail _ (List.mem_append_right _ (List.mem_append_right _ (.tail _ hv)))
theorem qfA{at_:Int}(ha:j9 at_)(h:St w0 w (TH H s q L n4 n56 len n k rv tv N Tb rs X))(hK:∀ w',St w0 w' H->K (.bool true) w') :
  qdT 0 ⟨n4,0,none⟩ false (some ⟨q.cb,0,none⟩) s.items.length at_ ⟨n56,0,none⟩ w K:=by
 have hb:=c.pi.base
 have hk:s.k=k:=c.pi.k
 have hp:=zo hb.k4 hb.k16
 have hhr:=vp hb.k4 hb.k16 at_
 have hp2:(2:Int) ^ s.k=((2 ^ s.k:Nat):Int):=by rw[Int.natCast_pow];rfl
 obtain⟨ta,tc,htv,htab⟩:=c.tab
 have hcf:∀ w',St w0 w' (TH H s q L n4 n56 len n k rv tv N Tb rs X)->w'.cell? ((Addr.mk n4 0 none).add 2)=some (J (2 ^ s.k:Nat)):=fun w' h'=>by
  rw[hk];exact c.conf (Z:=[]) h' 2
 have hf:(ze s.k at_).toNat<2 ^ s.k:=by omega
 have hfe:ze s.k at_=((ze s.k at_).toNat:Int):=by omega
 rw[qrs]
 refine⟨_,hcf w h,?_⟩
 refine q4A hb.k4 hb.k16 ha.1 ha.2 ⟨_,rfl,?_⟩
 rw[qq5,hfe]
 generalize hh:(ze s.k at_).toNat=hm at *
 refine⟨fun t e' w'=>∃ j:Nat,j<=2 ^ s.k/\t=2 ^ s.k-j/\e'=qi.mk 166 [(3,.pointer (some (Addr.mk n4 0 none))),(17,J ((hm+j) % 2 ^ s.k:Nat)),(16,J j),(6,.bool false),(7,.pointer (some ⟨q.cb,0,none⟩)),(10,J s.items.length),(2,U at_),(9,.pointer (some (Addr.mk n56 0 none)))] []/\
  (∀ i,i<j->qk s.table ((hm+i) % 2 ^ s.k)≠0)/\St w0 w' (TH H s q L n4 n56 len n k rv tv N Tb rs X),⟨_,0,by omega,rfl,by rw[Nat.add_zero,Nat.mod_eq_of_lt hf];rfl,fun i h=>by omega,h⟩,?_⟩
 rintro t e' w1 ⟨j,hj,rfl,rfl,hfull,hs⟩
 show qje ..
 have fin:∀ (b:Bool) (Y:YT),qk s.table ((hm+j) % 2 ^ s.k)=0->j<2 ^ s.k->q5q false ⟨n4,0,none⟩ b (some ⟨q.cb,0,none⟩) s.items.length at_ ⟨n56,0,none⟩ ((hm+j) % 2 ^ s.k:Nat) j w1 K Y:=by
  intro b Y he hjl
  rw[q4z,qb,qrQ]
  refine VO (c.front hs) c.ok c.glob ha.1 ha.2 fun w2 h2=>⟨_,_,rfl,?_⟩
  have last:∀ w3,St w0 w3 (L.bl q s++((n56,Cs (yn s rv tv) 73)::((N++((rs.map SR.blk).flatten++Tb))++(X++((n4,Cs (zB n len (2 ^ k:Nat)) 27)::H)))))->q7g false (some ⟨q.cb,0,none⟩) s.items.length w3 K:=by
   intro w3 h3
   rw[qp8,qb,qqc]
   have hgA:zA (L.bl q s++((n56,Cs (yn s rv tv) 73)::((N++((rs.map SR.blk).flatten++Tb))++(X++((n4,Cs (zB n len (2 ^ k:Nat)) 27)::H))))):=c.glob.mono fun v hv=>List.mem_append_right _ hv
   refine q5F h3 hgA fun w4 h4=>⟨_,rfl,?_⟩
   rw[qe]
   obtain⟨hh1,hh2⟩:=c.pi.held c.m100
   refine q5c h4 c.ok hb.fit.rows hh1 hh2 fun w5 h5=>⟨_,rfl,_,rfl,?_⟩
   rw[qrN,beq_self_eq_true]
   exact hK w5 (c.drop (c.back (Y:=[]) h5))
  cases hb0:((zE s at_).1 != 0)with
  | true=>
   rw[Bool.not_true,qb]
   exact last w2 h2
  | false=>
   rw[Bool.not_false,qe]
   refine q52 h2 c.ok c.glob ha.1 ha.2 fun w3 h3=>⟨_,rfl,?_⟩
   have h0:(zE s at_).1=0:=by simpa using hb0
   have hno:∀ x∈keys s.items,(qj s.items x).at_≠at_:=fun x hx hxa=>(hb.look_iff at_).2 ⟨x,hx,hxa⟩ h0
   obtain⟨r,hr,hr0,hrb,hlook⟩:=hb.look_none hno
   rw[hh]at hr0 hrb
   have hjr:r=j:=by
    rcases Nat.lt_trichotomy r j with hlt | he2 | hgt
    ·exact absurd hr0 (hfull r hlt)
    ·exact he2
    ·exact absurd he (hrb j hgt)
   rw[hlook,hjr,qc (x:=(j:Int)+1) om om]
   have e2:(((j+1:Nat):Int) != (j:Int)+1)=false:=by simp
   rw[e2]
   exact last w3 h3
 rw[qeS]
 refine⟨_,hcf w1 hs,?_⟩
 rw[qg]
 refine⟨fun hlt=>?_,fun hge=>?_⟩
 ·have hlt:=of_decide_eq_true hlt
  have hj:j<2 ^ s.k:=by omega
  have hsl:(hm+j) % 2 ^ s.k<2 ^ s.k:=Nat.mod_lt _ om
  obtain⟨t1,t2⟩:=htab w1 [] hs
  refine⟨_,_,_,t1,by omega,by omega,qk s.table ((hm+j) % 2 ^ s.k),by rw[Int.toNat_natCast];exact t2 _ hsl,?_⟩
  by_cases he:qk s.table ((hm+j) % 2 ^ s.k)=0
  ·have e0:(qk s.table ((hm+j) % 2 ^ s.k) != 0)=false:=by rw[he];rfl
   rw[e0]
   exact fin _ _ he hj
  ·have e0:(qk s.table ((hm+j) % 2 ^ s.k) != 0)=true:=bne_iff_ne.2 he
   rw[e0,q4z,qe,qqT,qql]
   refine⟨_,hcf w1 hs,by omega,_,?_,j+1,by omega,rfl,?_,fun i hi=>?_,hs⟩
   ·omega
   ·rw[qc (x:=(j:Int)+1) om om,qc (x:=(((hm+j) % 2 ^ s.k:Nat):Int)+1) om om]
    have e3:((((hm+j) % 2 ^ s.k:Nat):Int)+1).tmod ((2 ^ s.k:Nat):Int)=(((hm+(j+1)) % 2 ^ s.k:Nat):Int):=by
     rw[Int.tmod_eq_emod_of_nonneg om]
     have:(((hm+j) % 2 ^ s.k:Nat):Int)+1=(((hm+j) % 2 ^ s.k+1:Nat):Int):=by omega
     rw[this,<-Int.natCast_emod,Nat.mod_add_mod,Nat.add_assoc]
    rw[e3];rfl
   ·by_cases hij:i=j
    ·rw[hij];exact he
    ·exact hfull i om
 ·have hge:=of_decide_eq_false hge
  exfalso
  have hjn:j=2 ^ s.k:=by omega
  obtain⟨e,he,he0⟩:=hb.room
  have:=hfull (D (2 ^ s.k) hm e) (by rw[hjn];exact q43 hf he)
  rw[q66 hf he]at this
  exact this he0
theorem qq4{at_:Int}{i n135:Nat}{T:List Value}{Y10:YT}(hi:i<2 ^ s.k)(h0:qk s.table i≠0)(hT:T.length=3)(hT0:T[0]?=some (U (qj s.items (qk s.table i)).at_))(hX':qF w0 X){G:qE}(hG:qF w0 G)(hn135:w0.heap.size<=n135)(full:Int)
  (h:St w0 w ((n135,Cs T 41)::(G++TH H s q L n4 n56 len n k rv tv N Tb rs X)))
  (hY:∀ w',St w0 w' (TH H s q L n4 n56 len n k rv tv N Tb rs X)->q7S false ⟨n4,0,none⟩ (some ⟨q.cb,0,none⟩) full at_ ⟨n56,0,none⟩ i w' K Y10) :
  qfm ⟨n4,0,none⟩ (some ⟨q.cb,0,none⟩) full at_ ⟨n56,0,none⟩ i ⟨n135,0,none⟩ false w K Y10:=by
 have hb:=c.pi.base
 have hk:s.k=k:=c.pi.k
 have hp:=zo hb.k4 hb.k16
 obtain⟨hx,hbet,hlook⟩:=hb.stands hi h0
 have haw:=hb.atw _ hx
 generalize hta:(qj s.items (qk s.table i)).at_=ta0 at *
 have hhr:=vp hb.k4 hb.k16 ta0
 have hp2:(2:Int) ^ s.k=((2 ^ s.k:Nat):Int):=by rw[Int.natCast_pow];rfl
 obtain⟨ta,tc,htv,htab⟩:=c.tab
 have hcf:∀ w',St w0 w' ((n135,Cs T 41)::(G++TH H s q L n4 n56 len n k rv tv N Tb rs X))->w'.cell? ((Addr.mk n4 0 none).add 2)=some (J (2 ^ s.k:Nat)):=fun w' h'=>by
  rw[hk];exact c.conf (Z:=(n135,Cs T 41)::G) h' 2
 have hf:(ze s.k ta0).toNat<2 ^ s.k:=by omega
 have hfe:ze s.k ta0=((ze s.k ta0).toNat:Int):=by omega
 have c135:∀ w',St w0 w' ((n135,Cs T 41)::(G++TH H s q L n4 n56 len n k rv tv N Tb rs X))->w'.cell? (Addr.mk n135 0 none)=some (U ta0):=fun w' h'=>by
  rw[h'.cell (k:=0) rfl];exact hT0
 rw[qrq,qqz]
 refine⟨_,c135 w h,_,hcf w h,?_⟩
 refine q4A hb.k4 hb.k16 haw.1 haw.2 ⟨_,rfl,?_⟩
 rw[qrB,hfe]
 generalize hh:(ze s.k ta0).toNat=hm at *
 have hDlt:=q43 hf hi
 refine⟨fun t e' w'=>∃ j:Nat,j<=D (2 ^ s.k) hm i/\t=D (2 ^ s.k) hm i-j/\e'=qi.mk 166 [(3,.pointer (some (Addr.mk n4 0 none))),(7,.pointer (some ⟨q.cb,0,none⟩)),(10,J full),(2,U at_),(9,.pointer (some (Addr.mk n56 0 none))),(11,J i),(12,.pointer (some (Addr.mk n135 0 none))),(15,J ((hm+j) % 2 ^ s.k:Nat)),(14,J j),(6,.bool false)] []/\
  St w0 w' ((n135,Cs T 41)::(G++TH H s q L n4 n56 len n k rv tv N Tb rs X)),⟨_,0,by omega,rfl,by rw[Nat.add_zero,Nat.mod_eq_of_lt hf];rfl,h⟩,?_⟩
 rintro t e' w1 ⟨j,hj,rfl,rfl,hs⟩
 show qnq ..
 rw[qgP,qg]
 have hsl:(hm+j) % 2 ^ s.k<2 ^ s.k:=Nat.mod_lt _ om
 refine⟨fun hne=>?_,fun heq=>?_⟩
 ·have hne:(hm+j) % 2 ^ s.k≠i:=fun hh2=>by rw[hh2]at hne;simp at hne
  have hjd:j<D (2 ^ s.k) hm i:=by
   refine Nat.lt_of_le_of_ne hj fun hh2=>hne ?_
   rw[hh2,q66 hf hi]
  have hnz:=hbet j hjd
  rw[qpA]
  obtain⟨t1,t2⟩:=htab w1 ((n135,Cs T 41)::G) hs
  have hs2:=hs.drew
  refine⟨_,_,_,t1,by omega,by omega,qk s.table ((hm+j) % 2 ^ s.k),by rw[Int.toNat_natCast];exact t2 _ hsl,?_⟩
  have e0:(qk s.table ((hm+j) % 2 ^ s.k)==0)=false:=by simpa using hnz
  rw[e0,qb]
  refine⟨_,_,_,t1,by omega,by omega,qk s.table ((hm+j) % 2 ^ s.k),by rw[Int.toNat_natCast];exact t2 _ hsl,_,_,_,t1,by omega,by omega,qk s.table i,by rw[Int.toNat_natCast];exact t2 _ hi,?_⟩
  have hdiff:qk s.table ((hm+j) % 2 ^ s.k)≠qk s.table i:=fun hh2=>hne (hb.tab.inj _ _ hsl hi hnz hh2)
  have e1:(qk s.table ((hm+j) % 2 ^ s.k)==qk s.table i)=false:=by simpa using hdiff
  rw[e1,qb,qc (x:=(j:Int)+1) om om]
  refine⟨_,hcf w1 hs,?_⟩
  rw[decide_eq_false (show ¬ ((j:Int)+1 > ((2 ^ s.k:Nat):Int))by omega),qoR,qb,qrw]
  refine⟨_,hcf _ hs2,by omega,_,?_,j+1,by omega,rfl,?_,hs2⟩
  ·omega
  ·rw[qc (x:=(((hm+j) % 2 ^ s.k:Nat):Int)+1) om om]
   have e3:((((hm+j) % 2 ^ s.k:Nat):Int)+1).tmod ((2 ^ s.k:Nat):Int)=(((hm+(j+1)) % 2 ^ s.k:Nat):Int):=by
    rw[Int.tmod_eq_emod_of_nonneg om]
    have:(((hm+j) % 2 ^ s.k:Nat):Int)+1=(((hm+j) % 2 ^ s.k+1:Nat):Int):=by omega
    rw[this,<-Int.natCast_emod,Nat.mod_add_mod,Nat.add_assoc]
   rw[e3];rfl
 ·have heq:(hm+j) % 2 ^ s.k=i:=by
   have:(((hm+j) % 2 ^ s.k:Nat):Int)=(i:Int):=by simpa using heq
   omega
  have hjd:D (2 ^ s.k) hm i=j:=by rw[<-heq];exact qoS hf om
  rw[qoM]
  refine⟨_,c135 w1 hs,?_⟩
  have hs2:St w0 w1 (L.bl q s++(((n135,Cs T 41)::G)++((n56,Cs (yn s rv tv) 73)::((N++((rs.map SR.blk).flatten++Tb))++(X++((n4,Cs (zB n len (2 ^ k:Nat)) 27)::H)))))):=by
   unfold TH at hs
   exact hs.perm (qn fun c=>by simp only[List.map_append,List.map_cons,List.sum_append,List.sum_cons];omega)
  refine q52 hs2 c.ok (c.glob.mono fun v hv=>List.mem_append_right _ hv) haw.1 haw.2 fun w2 h2=>⟨_,rfl,?_⟩
  rw[hlook,hjd,qc (x:=(j:Int)+1) om om]
  have e2:(((j+1:Nat):Int) != (j:Int)+1)=false:=by simp
  rw[e2,qb]
  have h3:St w0 w2 ((n135,Cs T 41)::(G++TH H s q L n4 n56 len n k rv tv N Tb rs X)):=by
   unfold TH
   exact h2.perm (qn fun c=>by simp only[List.map_append,List.map_cons,List.sum_append,List.sum_cons];omega)
  exact hY w2 ((h3.tail hn135).sub hG)
end
end Go.Fx.Tryz
namespace Go.Fx.Tryz
open Go Go.Fx Go.Fx.Ch
open Go.Proofs
set_option linter.all false
set_option maxRecDepth 20000
variable {w0 w:World} {H X N Z:qE} {K:KT} {s:qd} {L:qQ} {q:LB}
section
variable {n4 n56 n k m:Nat} {len:Int} {rv tv:Value} {N Tb:qE} {rs:List SR}
theorem qhI(c:TC w0 H s q L n4 n56 len n k m rv tv N Tb rs X){at_:Int}(ha:j9 at_)(h:St w0 w (TH H s q L n4 n56 len n k rv tv N Tb rs X))(hK:∀ w',St w0 w' H->K (.bool true) w') :
  qK (qjp K) (qi.mk 166 [(6,.bool false),(3,.pointer (some ⟨n4,0,none⟩)),(7,.pointer (some ⟨q.cb,0,none⟩)),(10,J 0),(2,U at_),(9,.pointer (some ⟨n56,0,none⟩)),(11,J 0)] []) w:=by
 have hb:=c.pi.base
 have hk:s.k=k:=c.pi.k
 have hp:=zo hb.k4 hb.k16
 obtain⟨ta,tc,htv,htab⟩:=c.tab
 refine⟨fun t e' w'=>∃ i:Nat,i<=2 ^ s.k/\t=2 ^ s.k-i/\e'=qi.mk 166 [(6,.bool false),(3,.pointer (some ⟨n4,0,none⟩)),(7,.pointer (some ⟨q.cb,0,none⟩)),(10,J (V8 s.table i)),(2,U at_),(9,.pointer (some ⟨n56,0,none⟩)),(11,J i)] []/\St w0 w' (TH H s q L n4 n56 len n k rv tv N Tb rs X),
  ⟨_,0,by omega,rfl,rfl,h⟩,?_⟩
 rintro t e' w1 ⟨i,hi,rfl,rfl,hs⟩
 show qnH ..
 have hfl:=qtp s.table i
 obtain⟨t1,t2⟩:=htab w1 [] hs
 rw[qhB]
 refine⟨_,_,_,t1,?_⟩
 rw[qg]
 refine⟨fun hlt=>?_,fun hge=>?_⟩
 ·have hlt:=of_decide_eq_true hlt
  have hi:i<2 ^ s.k:=by omega
  rw[qrl]
  refine⟨_,_,_,t1,by omega,by omega,qk s.table i,by rw[Int.toNat_natCast];exact t2 _ hi,?_⟩
  rw[qg]
  refine⟨fun he=>?_,fun he=>?_⟩
  ·have he:qk s.table i=0:=by simpa using he
   rw[q49]
   refine⟨_,?_,i+1,by omega,rfl,?_,hs⟩
   ·omega
   ·rw[qc (x:=(i:Int)+1) om om,q3l,if_pos he];rfl
  ·have he:qk s.table i≠0:=by simpa using he
   obtain⟨hx,_,_⟩:=hb.stands hi he
   rw[qrZ,qpj,qc (x:=((V8 s.table i:Nat):Int)+1) om om]
   refine⟨_,_,_,t1,by omega,by omega,qk s.table i,by rw[Int.toNat_natCast];exact t2 _ hi,?_⟩
   refine quc (c.front hs) c.ok (fun hn=>?_) fun tr htr w2 sv' cv' L1 M h1 h2 h3 h4 hs2=>⟨_,_,rfl,?_⟩
   ·obtain⟨v,hv⟩:=q2J.1 hx
    rw[hn]at hv;cases hv
   have hio:qj s.items (qk s.table i)=tr:=by unfold qj;rw[htr];rfl
   have zc41:qx P 41=#[U 0,.slice none 0 0,.slice none 0 0]:=jo
   rw[zc41]
   obtain⟨sa',sc',e1⟩:=h1.form
   obtain⟨ca',cc',e2⟩:=h3.form
   subst e1;subst e2
   refine hs2.newC fun n135 w3 hn135 hs3=>hs3.stA (k:=0) rfl rfl (by simp) (by simp[ya,Value.oneCell']) fun w4 hs4=>?_
   have hs4:St w0 w4 ((n135,Cs (ya tr.at_ (.slice sa' tr.sp.length sc') (.slice ca' tr.code.length cc')) 41)::((M++L1)++(L.bl q s++((n56,Cs (yn s rv tv) 73)::((N++((rs.map SR.blk).flatten++Tb))++(X++((n4,Cs (zB n len (2 ^ k:Nat)) 27)::H))))))):=by
    rw[List.append_assoc];exact hs4
   have hs5:=c.back (Y:=(n135,Cs (ya tr.at_ (.slice sa' tr.sp.length sc') (.slice ca' tr.code.length cc')) 41)::(M++L1)) hs4
   rw[qqY]
   simp only[show((0:Int) != 0)=false from rfl,qb]
   refine qq4 c hi he rfl (by rw[hio];rfl) c.nx (qF.append h4 h2) hn135 _ hs5 fun w5 hs6=>?_
   rw[q49]
   refine⟨_,?_,i+1,by omega,rfl,?_,hs6⟩
   ·omega
   ·rw[qc (x:=(i:Int)+1) om om,q3l,if_neg he];rfl
 ·have hge:=of_decide_eq_false hge
  have hin:i=2 ^ s.k:=by omega
  subst hin
  have hfull:V8 s.table (2 ^ s.k)=s.items.length:=hb.fullCount
  rw[qr5,hfull]
  exact qfA c ha hs hK
end
theorem qtX{aa:Option Addr}{ac:Nat}{l:List yr}{sec len slots at_:Int}(hl:QQ w0 H (.slice aa l.length ac) l)(ha:j9 at_)(hg:zA H)(h:St w0 w H)(hK:∀ w',St w0 w' H->K (.bool true) w') :
  q9 P 9 [.agg #[J sec,J len,J slots],.slice aa l.length ac,U at_] w K:=by
 refine qMG _ _ _ _ _ _ _ ?_
 rw[qMP,qx0]
 refine h.newC fun n4 w5 hn4 h5=>?_
 have h5:St w0 w5 ([(n4,Cs (zB sec len slots) 27)]++H):=h5
 have hX:qF w0 [(n4,Cs (zB sec len slots) 27)]:=fun v hv=>by rw[List.mem_singleton.1 hv];exact hn4
 have hg5:zA ([(n4,Cs (zB sec len slots) 27)]++H):=hg.mono fun v hv=>List.mem_append_right _ hv
 rw[qv3]
 refine qHz (m:=60) h5 hX hl fun w6 h6=>⟨_,rfl,?_⟩
 rw[qg]
 refine⟨fun hf=>q5F h6 hg5 fun w7 h7=>⟨_,rfl,hK w7 (h7.sub hX)⟩,fun hf=>?_⟩
 have hf:q3Y l 60=true:=by rw[Bool.not_eq_false']at hf;exact hf
 obtain⟨hlen,hlt⟩:=qix hf
 rw[qsf]
 have h6':St w0 w6 ((n4,Cs (zB sec len slots) 27)::H):=h6
 refine h6'.ldA (k:=0) rfl (by simp) ?_
 refine qrR (X:=[]) (hl.more hX) hlt qEW (fun a ha=>qxI (hl.each a ha) (hlt a ha)) hg5 (qF.nil _) h6 (fun hcf w7 X' hX' h7=>⟨_,_,rfl,?_⟩) (fun n k hn hk h1 h16 hk4 hk16 hl0 hl1 hcf w7 q L s X' hPI _ hL hX' h7=>⟨_,_,rfl,?_⟩)
 ·rw[qcM,Bool.not_false,qe]
  refine q5F h7 (hg5.mono fun v hv=>List.mem_append_right _ hv) fun w8 h8=>⟨_,rfl,?_⟩
  rw[qe]
  have h9:St w0 w8 ((n4,Cs (zB sec len slots) 27)::(X'++H)):=h8.perm (qn fun c=>by simp only[List.map_append,List.map_cons,List.map_nil,List.sum_append,List.sum_cons,List.sum_nil];omega)
  refine h9.ldA (k:=0) rfl (by simp) ?_
  refine qvE hcf h9 fun w9 h10=>⟨_,rfl,?_⟩
  rw[qwJ]
  exact hK w9 ((h10.tail hn4).sub hX')
 subst hn;subst hk
 rw[qcM,Bool.not_true,qb,qxc]
 refine qCc h7 hL hPI.base.fit.rows fun w8 rv tv N Tb rs hS hN h8=>⟨_,rfl,?_⟩
 rw[ZZ]
 obtain⟨ra,rc,e1⟩:=hS.rows.form
 obtain⟨ta,tc,e2⟩:=hS.tab.form
 refine h8.newC fun n50 w9 hn50 h9=>h9.stA (k:=0) rfl rfl (by simp[yn]) (by rw[e1,e2];simp[yn,Value.oneCell']) fun w10 h10=>?_
 have h10:St w0 w10 (TH H s q L n4 n50 len n k rv tv N Tb rs X'):=h10
 have c:TC w0 H s q L n4 n50 len n k l.length rv tv N Tb rs X':=⟨hPI,by omega,hL,hg,hn4,hn50,hX',hS,hN⟩
 obtain⟨ta2,tc2,htv,htab⟩:=c.tab
 obtain⟨t1,_⟩:=htab w10 [] h10
 rw[qs8]
 refine⟨_,_,_,t1,_,c.conf (Z:=[]) h10 2,?_⟩
 have e3:(((2 ^ s.k:Nat):Int) != ((2 ^ k:Nat):Int))=false:=by rw[hPI.k];simp
 rw[e3,qb,qsL,qvS,qyn]
 exact qhI c ha h10 hK
end Go.Fx.Tryz
