/- A part of the proof. -/
import Derived.Test.YtepbaneageipfaaGreatDoorKdEc
import Derived.Test.YtepbaneageipfaaGreatDoorKeEc
set_option linter.all false
set_option autoImplicit true
set_option relaxedAutoImplicit true
noncomputable section
namespace Go.Fx.Tryz
open Go Go.Fx Go.Fx.Ch
open Go.Proofs
set_option linter.all false
set_option maxRecDepth 20000
variable {w0 w:World} {H X Z N:qE} {K:KT} {s:qd} {L:qQ} {q:LB}
structure SV where
 id:Int
 sv:Value
 cv:Value
 A:List (Nat × Obj)
 M:List (Nat × Obj)
def SV.cs(items:List (Int × TR))(x:SV):List Value:=[U x.id,U (qj items x.id).at_,x.sv,x.cv]
def SV.blk(x:SV):List (Nat × Obj):=x.M++x.A
structure qAB (items:List (Int × TR)) (x:SV):Prop where
 sp:zu 2 36 x.sv (qj items x.id).sp.length ((qj items x.id).sp.map QK).flatten x.A
 code:zu 1 5 x.cv (qj items x.id).code.length ((qj items x.id).code.map B) x.M
structure SR where
 v:Value
 B:List (Nat × Obj)
 l:List SV
def SR.blk(r:SR):List (Nat × Obj):=r.B++(r.l.map SV.blk).flatten
structure qFW (items:List (Int × TR)) (row:List Int) (r:SR):Prop where
 ids:r.l.map (·.id)=row
 sl:zu 4 77 r.v row.length ((r.l.map (SV.cs items)).flatten) r.B
 each:∀ x∈r.l,qAB items x
structure qbJ (items:List (Int × TR)) (rows:List (List Int)) (rs:List SR):Prop where
 len:rs.length=rows.length
 each:∀ i (h1:i<rows.length) (h2:i<rs.length),qFW items rows[i] rs[i]
theorem qbJ.snoc{items:List (Int × TR)}{rows:List (List Int)}{rs:List SR}(h:qbJ items rows rs){row:List Int}{r:SR}(hr:qFW items row r):qbJ items (rows++[row]) (rs++[r]):=by
 refine⟨by simp[h.len],fun i h1 h2=>?_⟩
 have hl:=h.len
 by_cases hi:i<rows.length
 ·rw[List.getElem_append_left hi,List.getElem_append_left om]
  exact h.each i hi om
 ·have hi2:i=rows.length:=by
   rw[List.length_append]at h1
   simp only[List.length_cons,List.length_nil]at h1
   omega
  subst hi2
  rw[List.getElem_append_right om,List.getElem_append_right om]
  simp only[hl,Nat.sub_self,List.getElem_cons_zero]
  exact hr
theorem Jx:qx P 73=#[J 0,J 0,J 0,.slice none 0 0,J 0,U 0,.slice none 0 0,J 0,J 0]:=kr
def vZ(s:qd)(rv tv:Value):List Value:=[J s.rows.length,J s.len,J (2 ^ s.k:Nat),rv,J s.cur,U s.given,tv,J s.ev,J s.dr]
theorem qka(sec len sl cur ev dr g:Int)(ta:Option Addr)(tl tc:Nat)(wq:World):(Instr.build 73 [(0,.agg #[J sec,J len,J sl]),(2,J cur),(3,U g),(4,.slice ta tl tc),(5,J ev),(6,J dr)].toArray).run P wq=.ok (.agg #[J sec,J len,J sl,.slice none 0 0,J cur,U g,.slice ta tl tc,J ev,J dr]) wq:=kr
theorem qCK(id at_:Int)(sa ca:Option Addr)(sl sc cl cc:Nat)(wq:World):(Instr.build 77 [(0,U id),(1,.agg #[U at_,.slice sa sl sc,.slice ca cl cc])].toArray).run P wq=.ok (.agg #[U id,U at_,.slice sa sl sc,.slice ca cl cc]) wq:=kr
theorem SV.cs_one{items:List (Int × TR)}{x:SV}(hx:qAB items x):∀ u∈x.cs items,u.oneCell'=true:=by
 obtain⟨a,c,e1⟩:=hx.sp.form
 obtain⟨a2,c2,e2⟩:=hx.code.form
 intro u hu
 unfold SV.cs at hu
 rw[e1,e2]at hu
 simp only[List.mem_cons,List.not_mem_nil,or_false]at hu
 rcases hu with rfl | rfl | rfl | rfl<;>rfl
theorem qzp{n1 n27:Nat}{rv tv:Value}{vs:List Value}{i:Nat}{Y2:YT}(hL:L.Ok w0 q s)(hr:∀ r∈s.rows,r.length<1000000)(hi:i<s.rows.length)(hn27:w0.heap.size<=n27)
  (h:St w0 w (L.bl q s++((n27,Cs (vZ s rv tv) 73)::(N++Z)))) (hS:zu 1 75 rv i vs N) (hN:qF w0 N) (hvs:vs.length=i)
  (hY:∀ (w':World) (r:SR) (rv':Value) (N':qE),qFW s.items s.rows[i] r->qF w0 r.blk->zu 1 75 rv' (i+1) (vs++[r.v]) N'->qF w0 N'->St w0 w' (L.bl q s++((n27,Cs (vZ s rv' tv) 73)::(N'++(r.blk++Z))))->
   Y2 (qi.mk 74 [(0,.pointer (some ⟨q.cb,0,none⟩)),(2,.pointer (some ⟨n1,0,none⟩)),(3,.pointer (some ⟨n27,0,none⟩)),(43,J ((i+1:Nat):Int)),(41,.slice (some ⟨q.rb,0,none⟩) s.rows.length s.rows.length),(42,J s.rows.length)] []) w') :
  qdC (some ⟨q.cb,0,none⟩) ⟨n1,0,none⟩ ⟨n27,0,none⟩ (some ⟨q.rb,0,none⟩) s.rows.length s.rows.length s.rows.length i w K Y2:=by
 have hrl:=hL.rl
 rw[qqp]
 obtain⟨sa,sc,hrv,hrow⟩:=q6P (w0:=w0) (H:=(n27,Cs (vZ s rv tv) 73)::(N++Z)) hL hi
 have hri:=hr _ (List.getElem_mem hi)
 refine⟨by omega,by omega,sa,s.rows[i].length,sc,?_,?_⟩
 ·rw[qa,Int.toNat_natCast,Nat.mul_one,Nat.zero_add,h.cell (k:=4) rfl];exact hrv
 have hrowG:∀ (w':World) (Y:qE),St w0 w' (L.bl q s++Y)->vo w' 1 (.slice sa s.rows[i].length sc) s.rows[i].length (s.rows[i].map U):=fun w' Y h'=>by
  obtain⟨sa2,sc2,hrv2,hrow2⟩:=q6P (w0:=w0) (H:=Y) hL hi
  rw[hrv]at hrv2
  injection hrv2 with hrv2
  injection hrv2 with e1 _ e2
  subst e1;subst e2
  exact hrow2 w' h'
 refine⟨fun m e' w'=>∃ (k:Nat) (xs:List SV) (ov:Value) (Bk:qE),k<=s.rows[i].length/\m=s.rows[i].length-k/\(∃ oa oc,ov=.slice oa k oc/\e'=qi.mk 74 [(49,J k),(0,.pointer (some ⟨q.cb,0,none⟩)),(6,.slice oa k oc),(47,.slice sa s.rows[i].length sc),(2,.pointer (some ⟨n1,0,none⟩)),(3,.pointer (some ⟨n27,0,none⟩)),(41,.slice (some ⟨q.rb,0,none⟩) s.rows.length s.rows.length),(42,J s.rows.length),(43,J i),(48,J s.rows[i].length)] [])/\
  xs.map (·.id)=s.rows[i].take k/\(∀ x∈xs,qAB s.items x)/\zu 4 77 ov k ((xs.map (SV.cs s.items)).flatten) Bk/\qF w0 (Bk++(xs.map SV.blk).flatten)/\St w0 w' (L.bl q s++((n27,Cs (vZ s rv tv) 73)::(N++(Bk++((xs.map SV.blk).flatten++Z))))),
  ⟨_,0,[],.slice none 0 0,[],by omega,rfl,⟨none,0,rfl,rfl⟩,rfl,fun x hx=>(by cases hx),zu.nil 4 77,qF.nil _,h⟩,?_⟩
 rintro m e' w1 ⟨k,xs,ov,Bk,hk,rfl,⟨oa,oc,rfl,rfl⟩,hids,hxs,hSl,hNew,hs⟩
 show qlF ..
 rw[qes,qg]
 refine⟨fun hlt=>?_,fun hge=>?_⟩
 ·have hlt:=of_decide_eq_true hlt
  have hk:k<s.rows[i].length:=by omega
  have hrw:=hrowG w1 _ hs
  obtain⟨ra,_,e,_⟩:=hrw.ldA hk
  injection e with e _ _
  subst e
  rw[qpF]
  refine⟨by omega,by omega,s.rows[i][k],by rw[Int.toNat_natCast];exact j7 hrw hk,some q.ib,by rw[qa];exact hs.cell (k:=1) rfl,?_⟩
  obtain⟨v,hv,hlk,_⟩:=hL.its.look (w:=w1) (hs.get (k:=2) rfl) s.rows[i][k]
  obtain⟨⟨sv,cv,rfl,hSp,hB⟩,_,_⟩:=hv
  refine⟨_,hlk,?_⟩
  have up:∀ u∈L.G,u∈L.bl q s++((n27,Cs (vZ s rv tv) 73)::(N++(Bk++((xs.map SV.blk).flatten++Z)))):=fun u hu=>List.mem_append_left _ (L.G_mem q s u hu)
  refine Jy hs (hSp.spans up) (hB.bytes up) fun w2 sv' cv' A M h1 h2 h3 h4 hs2=>⟨_,rfl,?_⟩
  obtain⟨sa',sc',e1⟩:=h1.form
  obtain⟨ca',cc',e2⟩:=h3.form
  subst e1;subst e2
  refine⟨_,qCK _ _ _ _ _ _ _ _,⟨rfl,trivial⟩,hs2.newC fun n81 w3 hn81 hs3=>?_⟩
  have hx:qAB s.items ⟨s.rows[i][k],.slice sa' (qj s.items s.rows[i][k]).sp.length sc',.slice ca' (qj s.items s.rows[i][k]).code.length cc',A,M⟩:=⟨h1,h3⟩
  have hs4:St w0 w3 ([(n81,Cs (SV.cs s.items ⟨s.rows[i][k],.slice sa' (qj s.items s.rows[i][k]).sp.length sc',.slice ca' (qj s.items s.rows[i][k]).code.length cc',A,M⟩) 77)]++(Bk++(M++(A++(L.bl q s++((n27,Cs (vZ s rv tv) 73)::(N++((xs.map SV.blk).flatten++Z)))))))):=by
   have hs3:St w0 w3 ((n81,Cs (SV.cs s.items ⟨s.rows[i][k],.slice sa' (qj s.items s.rows[i][k]).sp.length sc',.slice ca' (qj s.items s.rows[i][k]).code.length cc',A,M⟩) 77)::(M++(A++(L.bl q s++((n27,Cs (vZ s rv tv) 73)::(N++(Bk++((xs.map SV.blk).flatten++Z)))))))):=hs3
   exact hs3.perm (qm fun c=>by simp only[List.map_append,List.map_cons,List.map_nil,List.sum_append,List.sum_cons,List.sum_nil];omega)
  have hNB:qF w0 Bk:=qF.left hNew
  obtain⟨g,cap,w5,B',hrun,hX,hs5,hXN⟩:=St.append (P:=P) 75 75 77 Tryz.t77 (.agg #[U 0,U 0,.slice none 0 0,.slice none 0 0]) 4 64 Tryz.underlying75 kr kr rfl rfl rfl om hs4 hSl hNB (j:=0) rfl rfl (SV.cs_one hx) (by simp[maxLen];omega) om
  refine⟨_,_,_,w5,hrun,?_⟩
  rw[qpx,qc om om]
  refine⟨_,?_,k+1,xs++[⟨s.rows[i][k],.slice sa' (qj s.items s.rows[i][k]).sp.length sc',.slice ca' (qj s.items s.rows[i][k]).code.length cc',A,M⟩],_,B',by omega,rfl,⟨_,_,rfl,rfl⟩,?_,?_,?_,?_,?_⟩
  ·omega
  ·rw[List.map_append,hids,List.take_succ_eq_append_getElem hk];rfl
  ·intro x hx'
   rcases List.mem_append.1 hx' with hx' | hx'
   ·exact hxs x hx'
   ·rw[List.mem_singleton.1 hx'];exact hx
  ·rw[List.map_append,List.flatten_append]
   simpa using hX
  ·refine qF.append hXN ?_
   rw[List.map_append,List.flatten_append]
   refine qF.append (qF.right hNew) ?_
   intro u hu
   simp only[List.map_cons,List.map_nil,List.flatten_cons,List.flatten_nil,List.append_nil]at hu
   exact qF.append h4 h2 u hu
  ·have hs6:St w0 w5 ((n81,Cs (SV.cs s.items ⟨s.rows[i][k],.slice sa' (qj s.items s.rows[i][k]).sp.length sc',.slice ca' (qj s.items s.rows[i][k]).code.length cc',A,M⟩) 77)::(L.bl q s++((n27,Cs (vZ s rv tv) 73)::(N++(B'++(((xs.map SV.blk).flatten++(M++A))++Z)))))):=hs5.perm (qm fun c=>by simp only[List.map_append,List.map_cons,List.map_nil,List.sum_append,List.sum_cons,List.sum_nil];omega)
   have e:((xs++[(⟨s.rows[i][k],.slice sa' (qj s.items s.rows[i][k]).sp.length sc',.slice ca' (qj s.items s.rows[i][k]).code.length cc',A,M⟩:SV)]).map SV.blk).flatten=(xs.map SV.blk).flatten++(M++A):=by
    rw[List.map_append,List.flatten_append]
    simp[SV.blk]
   rw[e]
   exact hs6.tail hn81
 ·have hge:=of_decide_eq_false hge
  have hin:k=s.rows[i].length:=by omega
  subst hin
  rw[List.take_length]at hids
  rw[qpg]
  have hs2:St w0 w1 ((n27,Cs (vZ s rv tv) 73)::(L.bl q s++(N++(Bk++((xs.map SV.blk).flatten++Z))))):=hs.perm (qm fun c=>by simp only[List.map_append,List.map_cons,List.sum_append,List.sum_cons];omega)
  obtain⟨va,vc,e⟩:=hS.form
  subst e
  refine⟨va,i,vc,by rw[qa];exact hs2.cell (k:=0) rfl,⟨rfl,trivial⟩,hs2.newC fun n105 w3 hn105 hs3=>?_⟩
  have hs4:St w0 w3 ([(n105,Cs [.slice oa s.rows[i].length oc] 75)]++(N++((n27,Cs (vZ s (.slice va i vc) tv) 73)::(L.bl q s++(Bk++((xs.map SV.blk).flatten++Z)))))):=by
   have hs3:St w0 w3 ((n105,Cs [.slice oa s.rows[i].length oc] 75)::(n27,Cs (vZ s (.slice va i vc) tv) 73)::(L.bl q s++(N++(Bk++((xs.map SV.blk).flatten++Z))))):=hs3
   exact hs3.perm (qm fun c=>by simp only[List.map_append,List.map_cons,List.map_nil,List.sum_append,List.sum_cons,List.sum_nil];omega)
  obtain⟨g,cap,w5,N',hrun,hX',hs5,hXN⟩:=St.append (P:=P) 71 71 75 Tryz.t75 (.slice none 0 0) 1 24 Tryz.underlying71 kr kr rfl rfl rfl om hs4 hS hN (j:=0) rfl rfl (fun u hu=>by rw[List.mem_singleton.1 hu];rfl) (by simp[maxLen];omega) om
  refine⟨_,_,_,w5,hrun,?_⟩
  have hs6:St w0 w5 ((n27,Cs (vZ s (.slice va i vc) tv) 73)::(n105,Cs [.slice oa s.rows[i].length oc] 75)::(N'++(L.bl q s++(Bk++((xs.map SV.blk).flatten++Z))))):=hs5.perm (qm fun c=>by simp only[List.map_append,List.map_cons,List.map_nil,List.sum_append,List.sum_cons,List.sum_nil];omega)
  show zX ((Addr.mk n27 0 none).add 3) _ _ _
  rw[qa]
  refine hs6.st1 (k:=0) rfl (by simp[vZ]) rfl fun w7 hs7=>?_
  have hs7:St w0 w7 ((n27,Cs (vZ s (.slice (some ⟨g,0,none⟩) (i+1) cap) tv) 73)::(n105,Cs [.slice oa s.rows[i].length oc] 75)::(N'++(L.bl q s++(Bk++((xs.map SV.blk).flatten++Z))))):=hs7
  rw[qqi,qc om om]
  refine hY w7 ⟨.slice oa s.rows[i].length oc,Bk,xs⟩ _ N' ⟨hids,hSl,hxs⟩ hNew hX' hXN ?_
  have hs8:St w0 w7 ((n105,Cs [.slice oa s.rows[i].length oc] 75)::(L.bl q s++((n27,Cs (vZ s (.slice (some ⟨g,0,none⟩) (i+1) cap) tv) 73)::(N'++((Bk++(xs.map SV.blk).flatten)++Z))))):=hs7.perm (qm fun c=>by simp only[List.map_append,List.map_cons,List.sum_append,List.sum_cons];omega)
  exact hs8.tail hn105
structure qvU (s:qd) (rv tv:Value) (N:qE) (rs:List SR) (Tb:qE):Prop where
 rows:zu 1 75 rv s.rows.length (rs.map (·.v)) N
 each:qbJ s.items s.rows rs
 tab:zu 1 24 tv (2 ^ s.k) (s.table.map U) Tb
theorem qiM{n1 n27:Nat}{tv:Value}{Tb:qE}(hL:L.Ok w0 q s)(hr:∀ r∈s.rows,r.length<1000000)(hn1:w0.heap.size<=n1)(hn27:w0.heap.size<=n27)(hT:zu 1 24 tv (2 ^ s.k) (s.table.map U) Tb)(hTN:qF w0 Tb)
  (h:St w0 w (L.bl q s++((n27,Cs (vZ s (.slice none 0 0) tv) 73)::((n1,Cs [J 0,J 0,J 0,.slice none 0 0,J 0,U 0,.slice none 0 0,J 0,J 0] 73)::(Tb++H)))))
  (hK:∀ (w':World) (rv tv:Value) (N Tb:qE) (rs:List SR),qvU s rv tv N rs Tb->qF w0 (N++((rs.map SR.blk).flatten++Tb))->St w0 w' ((N++((rs.map SR.blk).flatten++Tb))++(L.bl q s++H))->K (.agg (vZ s rv tv).toArray) w') :
  q6A (some ⟨q.cb,0,none⟩) ⟨n1,0,none⟩ ⟨n27,0,none⟩ w K:=by
 have hrl:=hL.rl
 rw[qoa]
 refine⟨some ⟨q.rb,0,none⟩,s.rows.length,s.rows.length,by rw[qa];exact h.cell (k:=1) rfl,?_⟩
 refine⟨fun m e' w'=>∃ (i:Nat) (rs:List SR) (rv:Value) (N:qE),i<=s.rows.length/\m=s.rows.length-i/\e'=qi.mk 74 [(0,.pointer (some ⟨q.cb,0,none⟩)),(2,.pointer (some ⟨n1,0,none⟩)),(3,.pointer (some ⟨n27,0,none⟩)),(43,J i),(41,.slice (some ⟨q.rb,0,none⟩) s.rows.length s.rows.length),(42,J s.rows.length)] []/\
  zu 1 75 rv i (rs.map (·.v)) N/\qbJ s.items (s.rows.take i) rs/\qF w0 N/\qF w0 (rs.map SR.blk).flatten/\St w0 w' (L.bl q s++((n27,Cs (vZ s rv tv) 73)::(N++((rs.map SR.blk).flatten++((n1,Cs [J 0,J 0,J 0,.slice none 0 0,J 0,U 0,.slice none 0 0,J 0,J 0] 73)::(Tb++H)))))),
  ⟨_,0,[],.slice none 0 0,[],by omega,rfl,rfl,zu.nil 1 75,⟨rfl,fun i h1 h2=>by cases h2⟩,qF.nil _,qF.nil _,h⟩,?_⟩
 rintro m e' w1 ⟨i,rs,rv,N,hi,rfl,rfl,hS,hrs,hN,hNr,hs⟩
 show qiW ..
 rw[qdv,qg]
 refine⟨fun hlt=>?_,fun hge=>?_⟩
 ·have hlt:=of_decide_eq_true hlt
  have hi:i<s.rows.length:=by omega
  have hlen:rs.length=i:=by rw[hrs.len,List.length_take];omega
  refine qzp hL hr hi hn27 hs hS hN (by rw[List.length_map];exact hlen) fun w' r rv' N' hr1 hr2 hr3 hr4 hs'=>⟨_,?_,i+1,rs++[r],rv',N',by omega,rfl,rfl,?_,?_,hr4,?_,?_⟩
  ·omega
  ·rw[List.map_append];exact hr3
  ·rw[List.take_succ_eq_append_getElem hi]
   exact hrs.snoc hr1
  ·rw[List.map_append,List.flatten_append]
   refine qF.append hNr ?_
   simpa using hr2
  ·have e:((rs++[r]).map SR.blk).flatten=(rs.map SR.blk).flatten++r.blk:=by
    rw[List.map_append,List.flatten_append];simp
   rw[e]
   exact hs'.perm (qm fun c=>by simp only[List.map_append,List.map_cons,List.sum_append,List.sum_cons];omega)
 ·have hge:=of_decide_eq_false hge
  have hin:i=s.rows.length:=by omega
  subst hin
  rw[List.take_length]at hrs
  obtain⟨ra,rc,e⟩:=hS.form
  subst e
  obtain⟨ta,tc,e⟩:=hT.form
  subst e
  rw[qov]
  have hs2:St w0 w1 ((n27,Cs (vZ s (.slice ra s.rows.length rc) (.slice ta (2 ^ s.k) tc)) 73)::((n1,Cs [J 0,J 0,J 0,.slice none 0 0,J 0,U 0,.slice none 0 0,J 0,J 0] 73)::((N++((rs.map SR.blk).flatten++Tb))++(L.bl q s++H)))):=hs.perm (qm fun c=>by simp only[List.map_append,List.map_cons,List.sum_append,List.sum_cons];omega)
  refine hs2.ldA (k:=0) rfl (by simp[vZ]) ?_
  refine hs2.stA (k:=1) rfl rfl (by simp) (by simp[vZ,Value.oneCell']) fun w3 hs3=>?_
  have hs3:St w0 w3 ((n27,Cs (vZ s (.slice ra s.rows.length rc) (.slice ta (2 ^ s.k) tc)) 73)::((n1,Cs (vZ s (.slice ra s.rows.length rc) (.slice ta (2 ^ s.k) tc)) 73)::((N++((rs.map SR.blk).flatten++Tb))++(L.bl q s++H)))):=hs3
  refine hs3.ldA (k:=1) rfl (by simp[vZ]) ?_
  exact hK w3 _ _ N Tb rs ⟨hS,hrs,hT⟩ (qF.append hN (qF.append hNr hTN)) ((hs3.tail hn27).tail hn1)
theorem qzG(h:St w0 w (L.bl q s++H))(hL:L.Ok w0 q s)(hr:∀ r∈s.rows,r.length<1000000)
  (hK:∀ (w':World) (rv tv:Value) (N Tb:qE) (rs:List SR),qvU s rv tv N rs Tb->qF w0 (N++((rs.map SR.blk).flatten++Tb))->St w0 w' ((N++((rs.map SR.blk).flatten++Tb))++(L.bl q s++H))->K (.agg (vZ s rv tv).toArray) w') :
  q9 P 35 [.pointer (some ⟨q.cb,0,none⟩)] w K:=by
 refine qGs _ _ _ ?_
 rw[qFQ,Jx]
 refine h.newC fun n1 w2 hn1 h2=>?_
 have h2:St w0 w2 ((n1,Cs [J 0,J 0,J 0,.slice none 0 0,J 0,U 0,.slice none 0 0,J 0,J 0] 73)::(L.bl q s++H)):=h2
 have h3:St w0 w2 (L.bl q s++((n1,Cs [J 0,J 0,J 0,.slice none 0 0,J 0,U 0,.slice none 0 0,J 0,J 0] 73)::H)):=h2.perm (qm fun c=>by simp only[List.map_append,List.map_cons,List.sum_append,List.sum_cons];omega)
 refine QQ h3 ⟨_,rfl,?_⟩
 simp only[qb]
 rw[qor]
 have h4:=h3.drew
 have htl:=hL.tl
 have h2k:=(zQ hL.k4 hL.k16).2
 have ldb:∀ {w':World} {Y:qE},St w0 w' Y->(q.cb,Cs (CCs s q.ib q.hb q.rb q.tb) 109)∈Y->Qv 3 (Addr.mk q.cb 0 none) #[J s.rows.length,J s.len,J (2 ^ s.k:Nat)] w':=fun h' hm j hj=>by
  rw[qa,qw (h'.has _ _ hm)]
  have:j=0\/j=1\/j=2:=by omega
  rcases this with rfl | rfl | rfl<;>rfl
 have cel:∀ {w':World} {Y:qE} {j:Nat} {v:Value},St w0 w' Y->(q.cb,Cs (CCs s q.ib q.hb q.rb q.tb) 109)∈Y->(CCs s q.ib q.hb q.rb q.tb)[j]?=some v->w'.cell? ((Addr.mk q.cb 0 none).add j)=some v:=fun {w' Y j v} h' hm hj=>by
  rw[qa,qw (h'.has _ _ hm),Nat.zero_add];exact hj
 have hrowT:∀ (w':World) (Y:qE),St w0 w' (L.bl q s++Y)->vo w' 1 (.slice (some ⟨q.tb,0,none⟩) (2 ^ s.k) (2 ^ s.k)) (s.table.map U).length (s.table.map U):=fun w' Y h'=>by
  refine⟨by simp,.inr ⟨_,_,by rw[List.length_map,htl],fun j hj=>?_⟩⟩
  rw[qa,Nat.zero_add,h'.cell (k:=0) rfl]
 refine h4.ldA (k:=1) rfl (by simp[CCs]) ⟨s.cur,cel h4 (.tail _ (.head _)) rfl,s.given,cel h4 (.tail _ (.head _)) rfl,some ⟨q.tb,0,none⟩,2 ^ s.k,2 ^ s.k,cel h4 (.tail _ (.head _)) rfl,s.ev,cel h4 (.tail _ (.head _)) rfl,s.dr,cel h4 (.tail _ (.head _)) rfl,?_,?_⟩
 ·refine YH (l:=s.table) h4 (fun w' h'=>by have:=hrowT w' _ h';rw[List.length_map]at this;exact this) (by rw[htl];omega) fun w5 tv Tb hT hTN h5=>?_
  obtain⟨ta,tc,e⟩:=hT.form
  subst e
  have hm:(q.cb,Cs (CCs s q.ib q.hb q.rb q.tb) 109)∈Tb++(L.bl q s++((n1,Cs [J 0,J 0,J 0,.slice none 0 0,J 0,U 0,.slice none 0 0,J 0,J 0] 73)::H)):=List.mem_append_right _ (.tail _ (.head _))
  refine⟨_,_,_,rfl,cel h5 hm rfl,cel h5 hm rfl,cel h5 hm rfl,cel h5 hm rfl,ldb h5 hm,_,qka _ _ _ _ _ _ _ _ _ _,?_⟩
  rw[Jx]
  refine h5.newC fun n27 w6 hn27 h6=>h6.stA (k:=0) rfl rfl (by simp) (by simp[Value.oneCell']) fun w7 h7=>?_
  rw[htl]at h7 hT
  have h7:St w0 w7 ((n27,Cs (vZ s (.slice none 0 0) (.slice ta (2 ^ s.k) tc)) 73)::(Tb++(L.bl q s++((n1,Cs [J 0,J 0,J 0,.slice none 0 0,J 0,U 0,.slice none 0 0,J 0,J 0] 73)::H)))):=h7
  exact qiM hL hr hn1 hn27 hT hTN (h7.perm (qm fun c=>by simp only[List.map_append,List.map_cons,List.sum_append,List.sum_cons];omega)) hK
 ·rw[Jx]
  refine h4.newC fun n120 w5 hn120 h5=>?_
  have h5:St w0 w5 ((n120,Cs [J 0,J 0,J 0,.slice none 0 0,J 0,U 0,.slice none 0 0,J 0,J 0] 73)::(L.bl q s++((n1,Cs [J 0,J 0,J 0,.slice none 0 0,J 0,U 0,.slice none 0 0,J 0,J 0] 73)::H))):=h5
  refine YH (l:=s.table) h5 (fun w' h'=>by
   have:=hrowT w' _ (h'.tail hn120);rw[List.length_map]at this;exact this) (by rw[htl];omega) fun w6 tv Tb hT hTN h6=>?_
  obtain⟨ta,tc,e⟩:=hT.form
  subst e
  have hm:(q.cb,Cs (CCs s q.ib q.hb q.rb q.tb) 109)∈Tb++((n120,Cs [J 0,J 0,J 0,.slice none 0 0,J 0,U 0,.slice none 0 0,J 0,J 0] 73)::(L.bl q s++((n1,Cs [J 0,J 0,J 0,.slice none 0 0,J 0,U 0,.slice none 0 0,J 0,J 0] 73)::H))):=List.mem_append_right _ (.tail _ (.tail _ (.head _)))
  refine⟨_,_,_,rfl,cel h6 hm rfl,cel h6 hm rfl,cel h6 hm rfl,cel h6 hm rfl,ldb h6 hm,_,qka _ _ _ _ _ _ _ _ _ _,?_⟩
  have h7:St w0 w6 ((n120,Cs [J 0,J 0,J 0,.slice none 0 0,J 0,U 0,.slice none 0 0,J 0,J 0] 73)::(Tb++(L.bl q s++((n1,Cs [J 0,J 0,J 0,.slice none 0 0,J 0,U 0,.slice none 0 0,J 0,J 0] 73)::H)))):=h6.perm (qm fun c=>by simp only[List.map_append,List.map_cons,List.sum_append,List.sum_cons];omega)
  refine h7.stA (k:=0) rfl rfl (by simp) (by simp[Value.oneCell']) fun w8 h8=>?_
  rw[htl]at h8 hT
  have h8:St w0 w8 ((n120,Cs (vZ s (.slice none 0 0) (.slice ta (2 ^ s.k) tc)) 73)::(Tb++(L.bl q s++((n1,Cs [J 0,J 0,J 0,.slice none 0 0,J 0,U 0,.slice none 0 0,J 0,J 0] 73)::H)))):=h8
  exact qiM hL hr hn1 hn120 hT hTN (h8.perm (qm fun c=>by simp only[List.map_append,List.map_cons,List.sum_append,List.sum_cons];omega)) hK
end Go.Fx.Tryz
namespace Go.Fx.Ch
open Go.Fx.Tryz
set_option linter.all false
theorem qcD{s:qd}{m:Nat}(hb:qT s)(hc:qP s)(h5:VW (fun _ t=>t.code.length<=5000) s)(hg:s.given<=m):s.hold.length<1000000/\∀ c,vK s c<=5000*(m+1):=by
 constructor
 ·have h1:(keys s.hold).length<=(keys s.items).length:=q2H hc.ok.nd fun c hcm=>by
   obtain⟨l,hl⟩:=q71.1 hcm
   obtain⟨hne,_⟩:=hc.ok.each c l hl
   obtain⟨p,hp⟩:=List.exists_mem_of_ne_nil l hne
   have hp':p∈Zr s.hold c:=by unfold Zr;rw[hl];exact hp
   obtain⟨h0,h1,e,he,_,hec⟩:=(hc.held c p).1 hp'
   have:=(hc.up p.1 h1 e he (by rw[hec];exact h0)).1
   rw[hec]at this;exact this
  rw[qI,qI]at h1
  have:=hb.few
  omega
 ·intro c
  unfold vK
  show((Zr s.hold c).length:Int)<=_
  have hinj:((Zr s.hold c).map fun p=>p.1*5000+p.2).Nodup:=by
   refine List.pairwise_map.2 ((hc.ok.nodup c).imp_of_mem fun {p q} hp hq hne he=>hne ?_)
   obtain⟨_,p1,e,pe,ps,_⟩:=(hc.held c p).1 hp
   obtain⟨_,q1,f,qf,qs,_⟩:=(hc.held c q).1 hq
   obtain⟨l1,hl1⟩:=hc.dec p.1 p1
   obtain⟨l2,hl2⟩:=hc.dec q.1 q1
   have g1:=vP hl1 (by rw[<-vV hl1];exact pe)
   have g2:=vP hl2 (by rw[<-vV hl2];exact qf)
   have k1:(qj s.items p.1).code.length<=5000:=h5 p.1 p1
   have k2:(qj s.items q.1).code.length<=5000:=h5 q.1 q1
   have b1:=hb.pos p.1 p1
   have b2:=hb.pos q.1 q1
   have he:p.1*5000+p.2=q.1*5000+q.2:=he
   exact Prod.ext om om
  have hsub:∀ x∈(Zr s.hold c).map (fun p=>p.1*5000+p.2),x∈(List.range (5000*(m+1))).map (fun(i:Nat)=>(i:Int)):=fun x hx=>by
   obtain⟨p,hp,rfl⟩:=List.mem_map.1 hx
   obtain⟨_,p1,e,pe,ps,_⟩:=(hc.held c p).1 hp
   obtain⟨l1,hl1⟩:=hc.dec p.1 p1
   have g1:=vP hl1 (by rw[<-vV hl1];exact pe)
   have k1:(qj s.items p.1).code.length<=5000:=h5 p.1 p1
   have b1:=hb.pos p.1 p1
   exact List.mem_map.2 ⟨(p.1*5000+p.2).toNat,List.mem_range.2 om,by omega⟩
  have:=q2H hinj hsub
  rw[List.length_map,List.length_map,List.length_range]at this
  omega
abbrev R5:Int->TR->Prop:=fun _ t=>t.code.length<=5000
theorem q0A:yL R5:=yL.len 5000
theorem PI.held{n k m:Nat}{len:Int}{s:qd}(h:PI R5 n len k m s)(hm:m<=100):s.hold.length<1000000/\∀ c,vK s c<=1000000:=by
 obtain⟨h1,h2⟩:=qcD h.base h.q.ch h.q.all h.giv
 exact⟨h1,fun c=>by have:=h2 c;omega⟩
end Go.Fx.Ch
namespace Go.Fx.Tryz
open Go Go.Fx Go.Fx.Ch
open Go.Proofs
set_option linter.all false
set_option maxRecDepth 20000
variable {w0 w:World} {H X:qE} {K:KT} {s:qd} {L:qQ} {q:LB}
theorem qaT{a:yE}(ha:qjr w0 H a)(hl:vT a=true):∀ x,R5 x a.tr:=fun x=>by
 obtain⟨_,h2,_,_⟩:=ha.tr hl
 unfold vT at hl
 rw[Bool.and_eq_true]at hl
 have:=of_decide_eq_true hl.1
 show a.code.length<=5000
 omega
theorem qpp:qx P 47=#[J 0,J 0,J 0,J 0,J 0]:=kr
theorem qcS{n k:Nat}{len:Int}{m:Nat}(hPI:PI R5 n len k m s)(hm:m<=100)(hL:L.Ok w0 q s)(hg:zD H)(hX:qF w0 X)(h:St w0 w (L.bl q s++(X++H)))(hK:∀ w',St w0 w' H->K (.bool true) w') :
  qhv s.given (some ⟨q.cb,0,none⟩) w K:=by
 have hgA:zD (L.bl q s++(X++H)):=hg.mono fun v hv=>List.mem_append_right _ (List.mem_append_right _ hv)
 obtain⟨hh1,hh2⟩:=hPI.held hm
 have hfit:=hPI.base.fit
 have htot:=hPI.tot
 have hsum:=hPI.base.sum
 have hev:=hPI.base.ev
 have hdr:=hPI.base.dr
 have hgv:=hPI.base.given
 rw[qoL]
 refine q63 h hL hfit.rows hh1 hh2 fun w1 h1=>⟨_,rfl,?_⟩
 rw[qpp]
 refine h1.newC fun n98 w2 hn98 h2=>h2.stA (k:=0) rfl rfl (by simp) (by simp[Value.oneCell']) fun w3 h3=>?_
 have h3:St w0 w3 ((n98,Cs [J s.items.length,J (vR s),J (yC s),J s.ev,J s.dr] 47)::(L.bl q s++(X++H))):=h3
 refine q6R h3 (hgA.mono fun v hv=>.tail _ hv) fun w4 h4=>⟨_,rfl,?_⟩
 rw[qe]
 have h5:St w0 w4 (L.bl q s++((n98,Cs [J s.items.length,J (vR s),J (yC s),J s.ev,J s.dr] 47)::(X++H))):=h4.perm (qm fun c=>by simp only[List.map_append,List.map_cons,List.sum_append,List.sum_cons];omega)
 refine qzG h5 hL hfit.rows fun w5 rv tv N Tb rs hS hNew h6=>⟨_,rfl,s.given,rfl,?_⟩
 rw[beq_self_eq_true,qe]
 have h7:St w0 w5 ((n98,Cs [J s.items.length,J (vR s),J (yC s),J s.ev,J s.dr] 47)::((N++((rs.map SR.blk).flatten++Tb))++(L.bl q s++(X++H)))):=h6.perm (qm fun c=>by simp only[List.map_append,List.map_cons,List.sum_append,List.sum_cons];omega)
 refine⟨_,h7.cell (k:=0) rfl,_,by rw[qa];exact h7.cell (k:=0) rfl,_,by rw[qa];exact h7.cell (k:=0) rfl,?_⟩
 rw[qq8]
 have e:(IntKind.wrap .i64 ((IntKind.wrap .i64 ((s.items.length:Int)+s.ev))+s.dr)==IntKind.wrap .i64 s.given)=true:=by
  rw[qc (x:=(s.items.length:Int)+s.ev) om om,qc (x:=(s.items.length:Int)+s.ev+s.dr) om om,qc (x:=s.given) om om,htot,beq_self_eq_true]
 rw[e]
 exact hK w5 ((((h7.tail hn98).sub hNew).sub hL.newB).sub hX)
theorem qp5{aa:Option Addr}{ac:Nat}{l:List yE}{sec len slots:Int}(hl:q3n w0 H (.slice aa l.length ac) l)(hg:zD H)(h:St w0 w H)(hK:∀ w',St w0 w' H->K (.bool true) w') :
  q9 P 8 [.agg #[J sec,J len,J slots],.slice aa l.length ac] w K:=by
 refine qJB _ _ _ _ _ _ ?_
 rw[qIX,qwf]
 refine h.newC fun n4 w5 hn4 h5=>?_
 have h5:St w0 w5 ([(n4,Cs (vW sec len slots) 27)]++H):=h5
 have hX:qF w0 [(n4,Cs (vW sec len slots) 27)]:=fun v hv=>by rw[List.mem_singleton.1 hv];exact hn4
 have hg5:zD ([(n4,Cs (vW sec len slots) 27)]++H):=hg.mono fun v hv=>List.mem_append_right _ hv
 rw[qto]
 refine qGN (m:=60) h5 hX hl fun w6 h6=>⟨_,rfl,?_⟩
 rw[qg]
 refine⟨fun hf=>q6R h6 hg5 fun w7 h7=>⟨_,rfl,hK w7 (h7.sub hX)⟩,fun hf=>?_⟩
 have hf:q3U l 60=true:=by rw[Bool.not_eq_false']at hf;exact hf
 obtain⟨hlen,hlt⟩:=qhi hf
 rw[qrT]
 have h6':St w0 w6 ((n4,Cs (vW sec len slots) 27)::H):=h6
 refine h6'.ldA (k:=0) rfl (by simp) ?_
 refine qhd h6' (fun hcf w7 h7=>⟨_,_,rfl,?_⟩) (fun n k hn hk h1 h16 hk4 hk16 hl0 hl1 hcf w7 q L hL h7=>⟨_,_,rfl,?_⟩)
 ·rw[q8Q]
  simp only[show((1:Int) != 0)=true from rfl,qe]
  rw[q9L,qe]
  refine q6R h7 (hg.mono fun v hv=>.tail _ hv) fun w8 h8=>⟨_,rfl,?_⟩
  rw[qe]
  refine h8.ldA (k:=0) rfl (by simp) ?_
  refine qu9 hcf h8 fun w9 h9=>⟨_,rfl,?_⟩
  rw[qs4]
  exact hK w9 (h9.tail hn4)
 rw[q8Q]
 simp only[show((0:Int) != 0)=false from rfl,qb,Option.isNone_some]
 rw[q9L,qb,qr7,qvk,qrp]
 have hbase:qT (jf n len k):=qT.new h1 om hk4 hk16 om hl1
 refine⟨fun m e' w'=>∃ (i:Nat) (s:qd) (L':qQ) (X':qE),i<=l.length/\m=l.length-i/\e'=qi.mk 93 [(4,.bool false),(7,U s.given),(5,.pointer (some ⟨q.cb,0,none⟩)),(8,J i),(1,.slice aa l.length ac)] []/\
  PI R5 n len k i s/\L'.Ok w0 q s/\qF w0 X'/\St w0 w' (L'.bl q s++(X'++H)),⟨_,0,_,L,_,by omega,rfl,rfl,PI.new h1 h16 hk4 hk16 om hl1 hbase,hL,hX,h7⟩,?_⟩
 rintro m e' w1 ⟨i,s,L',X',hi,rfl,rfl,hPI,hL',hX',hs⟩
 show qsl ..
 rw[qqh,qg]
 refine⟨fun hlt'=>?_,fun hge=>?_⟩
 ·have hlt':=of_decide_eq_true hlt'
  have hi:i<l.length:=by omega
  have hs0:=(hs.sub hL'.newB).sub hX'
  obtain⟨ad,rfl⟩:=hl.ptr hi hs0
  have hmem:=List.getElem_mem hi
  have hao:=hl.each _ hmem
  have hrow:=hl.row w1 hs0
  rw[qob]
  have hcell0:=vo.elem (f:=yE.cs) (m:=9) (fun _=>rfl) rfl hrow hi (j:=0) om
  rw[vv,Nat.add_zero]at hcell0
  refine⟨by omega,by omega,l[i].kd,by rw[Int.toNat_natCast];exact hcell0,by decide,?_⟩
  have e10:l[i].kd.tmod 10=l[i].kd % 10:=Int.tmod_eq_emod_of_nonneg hao.kd.1
  rw[e10,qg]
  refine⟨fun h0=>?_,fun h0=>?_⟩
  ·have h0:l[i].kd % 10≠0:=by simpa using h0
   refine⟨by omega,by omega,?_⟩
   rw[Int.toNat_natCast]
   refine vo.whole (f:=yE.cs) (m:=9) (fun _=>rfl) rfl hrow hi ?_
   refine qH4 hao (hlt _ hmem) q0A hPI.base hPI.q hL' hg hX' hs fun w2 s2 L2 X2 hA hL2 hX2' h2=>⟨rfl,?_⟩
   have hgiv:s2.given=s.given:=by
    cases hA with
    | put h1 _ _=>exact absurd h1 h0
    | putNo _ _=>rfl
    | chain _=>exact(q00 s _ _).2.2.2.2
    | unchain _=>exact(Yj s _ _).2.2.2.2
    | drop _ hF=>exact hF.conf.2.2.2.1
    | flush _ hF=>exact hF.conf.2.2.2.1
    | other=>rfl
   rw[Jq]
   refine⟨_,?_,i+1,s2,L2,X2,by omega,rfl,?_,hPI.act q0A hao.tat (qaT hao (hlt _ hmem)) hA,hL2,hX2',h2⟩
   ·omega
   ·rw[qc om om,hgiv];rfl
  ·have h0:l[i].kd % 10=0:=by simpa using h0
   rw[qoR]
   refine⟨by omega,by omega,?_⟩
   rw[Int.toNat_natCast]
   refine vo.part (f:=yE.cs) (m:=9) (fun _=>rfl) rfl hrow hi om ?_
   obtain⟨hsl,hcl,hS,hB⟩:=hao.tr (hlt _ hmem)
   have hgi:=hPI.giv
   have hsum:=hPI.base.sum
   have hev:=hPI.base.ev
   have hdr:=hPI.base.dr
   have hgv:=hPI.base.given
   refine q7A (t:=l[i].tr) (sv:=.slice l[i].sa l[i].sl l[i].sc) (cv:=.slice l[i].ca l[i].cl l[i].cc) hs hL' (hg.mono fun v hv=>List.mem_append_right _ hv) (hS.more hX') (hB.more hX') hao.tat om hgv (fun he=>?_) (fun he w2 h2=>?_) (fun he w2 L2 gone s1 ov N hE hok hSl hN h2=>?_)
   ·obtain⟨_,_,_,hlen',_⟩:=Jl he
    exact⟨_,hPI.base.evR (YV q0A) hPI.q hlen'⟩
   ·refine⟨_,_,_,_,_,rfl,?_⟩
    have e:(yn s l[i].tr==0)=false:=by simpa using he
    rw[e,qb,Jq]
    refine⟨_,?_,i+1,s,L',X',by omega,rfl,?_,hPI.mono om,hL',hX',h2⟩
    ·omega
    ·rw[qc om om];rfl
   ·obtain⟨oa,oc,e⟩:=hSl.form
    subst e
    have hg1:s1.given=s.given:=hE.conf.2.2.1
    refine⟨_,_,_,_,_,rfl,?_⟩
    have e2:IntKind.wrap .u32 (s.given+1)=s1.given+1:=by rw[hg1];exact Qy om om
    simp only[show((0:Int)==0)=true from rfl,qe,e2]
    have e3:((s1.given+1) != (s1.given+1))=false:=by simp
    rw[e3,qb,Jq]
    refine⟨_,?_,i+1,zL s1 l[i].tr,L2,N++X',by omega,rfl,?_,(hPI.put q0A hao.tat he hE (qaT hao (hlt _ hmem) _)).1,hok,qF.append hN hX',?_⟩
    ·omega
    ·rw[qc om om];rfl
    ·exact h2.perm (qm fun c=>by simp only[List.map_append,List.map_cons,List.sum_append,List.sum_cons];omega)
 ·have hge:=of_decide_eq_false hge
  have hin:i=l.length:=by omega
  subst hin
  exact qcS hPI om hL' hg hX' hs hK
end Go.Fx.Tryz
