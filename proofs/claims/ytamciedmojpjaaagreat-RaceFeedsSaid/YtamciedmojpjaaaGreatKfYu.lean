/- A part of the proof. -/
import Derived.Test.YtamciedmojpjaaaGreatKaYu
import Derived.Test.YtamciedmojpjaaaGreatKeYu
import Derived.KernelRfl
import Derived.Shelf.SlMaps.Clone
import Derived.Test.YtamciedmojpjaaaGreatKcYu
import Derived.Test.YtamciedmojpjaaaGreatRows
import Derived.Deep.Slices
import Derived.ProofKit
import Derived.OpenShut
import Derived.JoinedOf
import Derived.Carry
set_option linter.unusedSectionVars false
set_option autoImplicit true
set_option relaxedAutoImplicit true
noncomputable section
namespace Go.Fx.Tryz
open Go Go.Fx Go.Fx.Mo
open Go.Proofs
variable {w0 w:World} {H Y:qP} {K:KT}
set_option maxRecDepth 20000
theorem qKb{size:Nat}{ov:Value}{n:Nat}{xs:List Value}(h:Qt w size ov n xs)(hs:0<size){i:Nat}(hi:i<n):∃ a c,ov=.slice (some a) n c/\w.cell? (a.add (i*size))=xs[i*size]?:=by
 obtain⟨a,c,h1,h2⟩:=q6V (j:=0) h hi hs
 exact⟨a,c,h1,h2⟩
theorem q3P{l:List vH}{i j:Nat}(hi:i<l.length)(hj:j<4):(Qh l)[i*4+j]?=(zu l[i])[j]?:=by
 rw[<-qgv hi,List.getElem?_take,if_pos hj,List.getElem?_drop]
theorem qBF{l:List Int}{ov:Value}(b:Int)(h:St w0 w H)(hrow:∀ w',St w0 w' H->Qt w' 1 ov l.length (l.map zt))(hl:l.length<1000000000)
  (hK:∀ w',St w0 w' H->K (.bool (decide (b∈l))) w'):qa P 53 [ov,.int .u32 b] w K:=by
 obtain⟨sa,sc,hov⟩:=(hrow w h).form
 subst hov
 refine qGR _ _ _ _ _ _ ?_
 rw[qFZ]
 refine⟨fun m ee w=>∃ (i:Nat),i<=l.length/\m=l.length-i/\ee=ql.mk 18 [(5,(Value.int .i64 i)),(1,(Value.int .u32 b)),(0,(Value.slice sa l.length sc)),(4,(Value.bool false))] []/\decide (b∈l)=decide (b∈l.drop i)/\St w0 w H,
  ⟨l.length,0,by omega,rfl,rfl,by rw[List.drop_zero],h⟩,?_⟩
 rintro m ee w ⟨i,hi,rfl,rfl,hd,hw⟩
 show qiB ..
 rw[qhw]
 refine⟨l.length,fun wq _=>qZ _ _ _ Tryz.underlying49 3,?_⟩
 rw[qg]
 constructor
 ·intro hlt
  have hlt:i<l.length:=by simpa using hlt
  rw[qpZ]
  obtain⟨a,c,hac,hca⟩:=qxn (hrow _ hw) hlt
  obtain⟨hsa,-⟩:sa=some a/\sc=c:=by simpa using hac
  subst hsa
  have e0:(l.map zt)[i]?=some (zt l[i]):=by simp[hlt]
  have hdrop:l.drop i=l[i]::l.drop (i+1):=List.drop_eq_getElem_cons hlt
  refine⟨by omega,by omega,l[i],by rw[Int.toNat_natCast,hca,e0],?_⟩
  rw[qg]
  constructor
  ·intro he
   have he:l[i]=b:=by simpa using he
   have:decide (b∈l)=true:=by rw[hd,hdrop,he];simp
   rw[this]at hK
   exact hK w hw
  ·intro he
   have he:¬ l[i]=b:=by simpa using he
   rw[qmx]
   refine⟨l.length-(i+1),by omega,i+1,by omega,rfl,?_,?_,hw⟩
   ·rw[qk om om];rfl
   ·rw[hd,hdrop]
    have:¬ b=l[i]:=fun hh=>he hh.symm
    exact decide_eq_decide.2 (by rw[List.mem_cons];exact or_iff_right this)
 ·intro hge
  have hge:l.length<=i:=by simpa using hge
  rw[qny]
  have:decide (b∈l)=false:=by rw[hd,List.drop_eq_nil_of_le hge];simp
  rw[this]at hK
  exact hK w hw
theorem qAe{l:List vH}{ov:Value}(t:Int)(h:St w0 w H)(hrow:∀ w',St w0 w' H->Qt w' 4 ov l.length (Qh l))(hl:l.length<1000000000)
  (hK:∀ w',St w0 w' H->K (.bool (YV l t)) w'):qa P 55 [ov,.int .i64 t] w K:=by
 obtain⟨sa,sc,hov⟩:=(hrow w h).form
 subst hov
 refine qHz _ _ _ _ _ _ ?_
 rw[qIs]
 refine⟨fun m ee w=>∃ (i:Nat),i<=l.length/\m=l.length-i/\ee=ql.mk 19 [(5,(Value.int .i64 i)),(1,(Value.int .i64 t)),(0,(Value.slice sa l.length sc)),(4,(Value.bool false))] []/\YV l t=YV (l.drop i) t/\St w0 w H,
  ⟨l.length,0,by omega,rfl,rfl,by rw[List.drop_zero],h⟩,?_⟩
 rintro m ee w ⟨i,hi,rfl,rfl,hd,hw⟩
 show qlj ..
 rw[qgl]
 refine⟨l.length,fun wq _=>qZ _ _ _ Tryz.underlying60 3,?_⟩
 rw[qg]
 constructor
 ·intro hlt
  have hlt:i<l.length:=by simpa using hlt
  rw[qpo]
  obtain⟨a,c,hac,hca⟩:=q6V (j:=1) (hrow _ hw) hlt om
  obtain⟨hsa,-⟩:sa=some a/\sc=c:=by simpa using hac
  subst hsa
  have hdrop:l.drop i=l[i]::l.drop (i+1):=List.drop_eq_getElem_cons hlt
  refine⟨by omega,by omega,l[i].th,by rw[Int.toNat_natCast,hca,q3P hlt om];rfl,?_⟩
  rw[qg]
  constructor
  ·intro he
   have:YV l t=true:=by rw[hd,hdrop];unfold YV;rw[List.any_cons,he];rfl
   rw[this]at hK
   exact hK w hw
  ·intro he
   have he:(l[i].th==t)=false:=by simpa using he
   rw[qow]
   refine⟨l.length-(i+1),by omega,i+1,by omega,rfl,?_,?_,hw⟩
   ·rw[qk om om];rfl
   ·rw[hd,hdrop];unfold YV;rw[List.any_cons,he,Bool.false_or]
 ·intro hge
  have hge:l.length<=i:=by simpa using hge
  rw[qpD]
  have:YV l t=false:=by rw[hd,List.drop_eq_nil_of_le hge];rfl
  rw[this]at hK
  exact hK w hw
def qKL(w0:World)(H:qP)(l:List vH)(x:Int)(sa:Option Addr)(sc:Nat)(m:Nat)(ee:ql)(w:World):Prop:=
 ∃ (i:Nat),i<=l.length/\m=l.length-i/\ee=ql.mk 35 [(5,(Value.int .i64 i)),(0,(Value.slice sa l.length sc)),(1,(Value.int .i64 x)),(4,(Value.bool false))] []/\Jy l x=Jy (l.drop i) x/\St w0 w H
theorem q9T{l:List vH}{ov:Value}(x:Int)(h:St w0 w H)(hrow:∀ w',St w0 w' H->Qt w' 4 ov l.length (Qh l))(hl:l.length<1000000000)
  (hK:∀ w',St w0 w' H->K (.bool (Jy l x)) w'):qa P 56 [ov,.int .i64 x] w K:=by
 obtain⟨sa,sc,hov⟩:=(hrow w h).form
 subst hov
 refine qFs _ _ _ _ _ _ ?_
 rw[qFn,qnY,qmE,qnN]
 refine⟨qKL w0 H l x sa sc,
  ⟨l.length,0,by omega,rfl,rfl,by rw[List.drop_zero],h⟩,?_⟩
 rintro m ee w ⟨i,hi,rfl,rfl,hd,hw⟩
 show qkP ..
 rw[qeE]
 refine⟨l.length,fun wq _=>qZ _ _ _ Tryz.underlying60 3,?_⟩
 rw[qg]
 constructor
 ·intro hlt
  have hlt:i<l.length:=by simpa using hlt
  rw[qmR]
  obtain⟨a,c,hac,hca⟩:=q6V (j:=3) (hrow _ hw) hlt om
  obtain⟨hsa,-⟩:sa=some a/\sc=c:=by simpa using hac
  subst hsa
  obtain⟨a',c',hac',hca'⟩:=qKb (hrow _ hw) om hlt
  obtain⟨rfl,-⟩:a=a'/\sc=c':=by simpa using hac'
  have hdrop:l.drop i=l[i]::l.drop (i+1):=List.drop_eq_getElem_cons hlt
  have hkind:w.cell? (a.add (Int.toNat i*4))=some (Value.int .i64 l[i].kind):=by
   rw[Int.toNat_natCast,hca']
   have:=q3P (j:=0) hlt om
   rw[Nat.add_zero]at this
   rw[this];rfl
  have fin:∀ c:Bool,c=((l[i].obj==x)&&jG l[i])->q46 c (some a) l.length sc x i false w K (fun e' w'=>∃ m,m<l.length-i/\qKL w0 H l x (some a) sc m e' w'):=fun c hc=>by
   rw[qod,qg]
   constructor
   ·intro he
    have:Jy l x=true:=by rw[hd,hdrop];unfold Jy;rw[List.any_cons,<-hc,he];rfl
    rw[this]at hK
    exact hK w hw
   ·intro he
    have he:c=false:=by simpa using he
    rw[qnv]
    refine⟨l.length-(i+1),by omega,i+1,by omega,rfl,?_,?_,hw⟩
    ·rw[qk om om];rfl
    ·rw[hd,hdrop];unfold Jy;rw[List.any_cons,<-hc,he,Bool.false_or]
  refine⟨by omega,by omega,l[i].obj,by rw[Int.toNat_natCast,hca,q3P hlt om];rfl,?_⟩
  rw[qg]
  constructor
  ·intro he
   refine⟨by omega,by omega,l[i].kind,hkind,?_⟩
   rw[qg]
   constructor
   ·intro h2
    refine fin true ?_
    unfold jG
    rw[he,h2];rfl
   ·intro h2
    refine⟨by omega,by omega,l[i].kind,hkind,fin _ ?_⟩
    have h2:(l[i].kind==2)=false:=by simpa using h2
    unfold jG
    rw[he,h2];rfl
  ·intro he
   have he:(l[i].obj==x)=false:=by simpa using he
   refine fin false ?_
   rw[he];rfl
 ·intro hge
  have hge:l.length<=i:=by simpa using hge
  rw[qn1]
  have:Jy l x=false:=by rw[hd,List.drop_eq_nil_of_le hge];rfl
  rw[this]at hK
  exact hK w hw
theorem qxm{A Lo:qP}{oa:Option Addr}{oc nb:Nat}{out:List Int}{b:Int}{t:TypeId}(h:St w0 w (A++(Lo++H)))(hS:zC 1 43 (.slice oa out.length oc) out.length (out.map zt) Lo)(hN:zr w0 Lo){j:Nat}(hj:A[j]?=some (nb,Cs [zt b] t))(hb:out.length<1000000000) :
  ∃ g cap w' L',(Builtin.append_ #[49,49] 49 [.slice oa out.length oc,.slice (some ⟨nb,0,none⟩) 1 1].toArray).run P w=.ok (.slice (some ⟨g,0,none⟩) (out++[b]).length cap) w'/\
   zC 1 43 (.slice (some ⟨g,0,none⟩) (out++[b]).length cap) (out++[b]).length ((out++[b]).map zt) L'/\St w0 w' (A++(L'++H))/\zr w0 L':=by
 rw[show(out++[b]).length=out.length+1 by simp,List.map_append]
 exact St.append (P:=P) 49 49 43 Tryz.t43 (.int .u32 0) 1 4 Tryz.underlying49 kr rfl rfl rfl rfl om h hS hN hj rfl (by simp[zt,Value.oneCell']) (by simp[maxLen];omega) om
def qEF(w0:World)(H:qP)(l:List Int)(b:Int)(sa:Option Addr)(sc:Nat)(m:Nat)(ee:ql)(w:World):Prop:=
 ∃ (i:Nat) (out:List Int) (dn:Bool) (oa:Option Addr) (oc:Nat) (Lo:qP),i<=l.length/\m=l.length-i/\ee=ql.mk 43 [(7,(Value.int .i64 i)),(0,(Value.slice sa l.length sc)),(1,(Value.int .u32 b)),(5,(Value.slice oa out.length oc)),(6,(Value.bool dn)),(4,(Value.slice none 0 0))] []/\
   yj l b=(if dn then out++l.drop i else out++yj (l.drop i) b)/\out.length<=i+(if dn then 1 else 0)/\zC 1 43 (.slice oa out.length oc) out.length (out.map zt) Lo/\zr w0 Lo/\St w0 w (Lo++H)
theorem qtr{l:List Int}{ov:Value}(b:Int)(h:St w0 w H)(hrow:∀ w',St w0 w' H->Qt w' 1 ov l.length (l.map zt))(hl:l.length<1000000)
  (hK:∀ w' a c Lo,zC 1 43 (.slice a (yj l b).length c) (yj l b).length ((yj l b).map zt) Lo->zr w0 Lo->St w0 w' (Lo++H)->K (.slice a (yj l b).length c) w'):qa P 54 [ov,.int .u32 b] w K:=by
 obtain⟨sa,sc,hov⟩:=(hrow w h).form
 subst hov
 have hnl:=Jq l b
 refine qIS _ _ _ _ _ _ ?_
 rw[qHO,qqa,qpj]
 refine⟨_,_,_,_,qK8 w,?_⟩
 have h1:=h.alloc (.cells #[] 43 (0,0))
 have hn:=h.le
 generalize w.heap.size=n at h1 hn
 have h1:St w0 (w.alloc (.cells #[] 43 (0,0))) ([(n,Cs [] 43)]++H):=h1
 rw[qnP,qnA,qn4]
 refine⟨qEF w0 H l b sa sc,
  ⟨l.length,0,[],false,_,_,_,by omega,rfl,rfl,by simp,by simp,Qg 1 43 n,by simpa [zr]using hn,h1⟩,?_⟩
 rintro m ee w ⟨i,out,dn,oa,oc,Lo,hi,rfl,rfl,hno,hol,hS,hN,hw⟩
 have hol2:out.length<=i+1:=by cases dn<;>simp at hol<;>omega
 show qhZ ..
 rw[qdi]
 refine⟨l.length,fun wq _=>qZ _ _ _ Tryz.underlying49 3,?_⟩
 rw[qg]
 constructor
 ·intro hlt
  have hlt:i<l.length:=by simpa using hlt
  have hdrop:l.drop i=l[i]::l.drop (i+1):=List.drop_eq_getElem_cons hlt
  have hdb:∀ dn:Bool,(if dn then 1 else 0)<=1:=fun dn=>by cases dn<;>simp
  obtain⟨a,c,hac,hca⟩:=qxn (hrow _ (hw.sub hN)) hlt
  obtain⟨hsa,-⟩:sa=some a/\sc=c:=by simpa using hac
  subst hsa
  have e0:(l.map zt)[i]?=some (zt l[i]):=by simp[hlt]
  have s8:∀ (w:World) (out:List Int) (dn:Bool) (oa:Option Addr) (oc:Nat) (Lo:qP),yj l b=(if dn then(out++[l[i]])++l.drop (i+1)else(out++[l[i]])++yj (l.drop (i+1)) b)->out.length<=i+(if dn then 1 else 0)->zC 1 43 (.slice oa out.length oc) out.length (out.map zt) Lo->zr w0 Lo->St w0 w (Lo++H)->
    q8I (some a) l.length sc b dn none 0 0 i oa out.length oc w K (fun e' w'=>∃ m,m<l.length-i/\qEF w0 H l b (some a) sc m e' w'):=fun w out dn oa oc Lo hno hol hS hN hw=>by
   have hdb:=hdb dn
   rw[qmw]
   obtain⟨a',c',hac',hca'⟩:=qxn (hrow _ (hw.sub hN)) hlt
   obtain⟨rfl,-⟩:a=a'/\sc=c':=by simpa using hac'
   refine⟨by omega,by omega,l[i],by rw[Int.toNat_natCast,hca',e0],⟨rfl,trivial⟩,?_⟩
   refine hw.newC fun n2 w2 hn2 h2=>?_
   obtain⟨g,cap,w3,L3,hru,hS3,h3,hN3⟩:=qxm (A:=[(n2,_)]) (b:=l[i]) h2 hS hN (j:=0) rfl om
   refine⟨_,_,_,w3,hru,?_⟩
   rw[qpM]
   have hwr:IntKind.wrap .i64 ((i:Int)+1)=((i+1:Nat):Int):=by rw[qk om om];rfl
   rw[hwr]
   exact⟨l.length-(i+1),by omega,i+1,out++[l[i]],dn,_,cap,L3,by omega,rfl,rfl,hno,by simp;omega,hS3,hN3,h3.tail hn2⟩
  rw[qmB,qg]
  have s7f:yj l b=(if dn then(out++[l[i]])++l.drop (i+1)else(out++[l[i]])++yj (l.drop (i+1)) b)->q7z false (some a) l.length sc b none 0 0 i oa out.length oc dn w K (fun e' w'=>∃ m,m<l.length-i/\qEF w0 H l b (some a) sc m e' w'):=fun hh=>by
   rw[q65,qd]
   exact s8 w out dn oa oc Lo hh hol hS hN hw
  constructor
  ·intro hdn
   have hdn:dn=false:=by simpa using hdn
   subst hdn
   rw[if_neg (by decide),hdrop]at hno
   refine⟨by omega,by omega,l[i],by rw[Int.toNat_natCast,hca,e0],?_⟩
   by_cases hgt:l[i] > b
   ·rw[decide_eq_true hgt,q65,qm]
    refine⟨⟨rfl,trivial⟩,?_⟩
    refine hw.newC fun n2 w2 hn2 h2=>?_
    obtain⟨g,cap,w3,L3,hru,hS3,h3,hN3⟩:=qxm (A:=[(n2,_)]) (b:=b) h2 hS hN (j:=0) rfl om
    refine⟨_,_,_,w3,hru,?_⟩
    refine s8 w3 (out++[b]) true _ cap L3 ?_ (by simp at hol ⊢;omega) hS3 hN3 (h3.tail hn2)
    have e1:yj (l[i]::l.drop (i+1)) b=b::l[i]::l.drop (i+1):=by
     rw[yj,if_pos hgt]
    rw[if_pos rfl,hno,e1]
    simp
   ·rw[decide_eq_false hgt]
    refine s7f ?_
    rw[if_neg (by decide),hno]
    have e1:yj (l[i]::l.drop (i+1)) b=l[i]::yj (l.drop (i+1)) b:=by
     rw[yj,if_neg hgt]
    rw[e1]
    simp
  ·intro hdn
   have hdn:dn=true:=by simpa using hdn
   subst hdn
   refine s7f ?_
   rw[if_pos rfl]at hno ⊢
   rw[hno,hdrop]
   simp
 ·intro hge
  have hge:l.length<=i:=by simpa using hge
  rw[List.drop_eq_nil_of_le hge]at hno
  rw[qgf,qg]
  constructor
  ·intro hdn
   have hdn:dn=false:=by simpa using hdn
   subst hdn
   rw[if_neg (by decide)]at hno
   refine⟨⟨rfl,trivial⟩,?_⟩
   refine hw.newC fun n2 w2 hn2 h2=>?_
   obtain⟨g,cap,w3,L3,hru,hS3,h3,hN3⟩:=qxm (A:=[(n2,_)]) (b:=b) h2 hS hN (j:=0) rfl om
   refine⟨_,_,_,w3,hru,?_⟩
   rw[q4y]
   have hno:yj l b=out++[b]:=hno
   rw[hno]at hK
   exact hK _ _ _ _ hS3 hN3 (h3.tail hn2)
  ·intro hdn
   have hdn:dn=true:=by simpa using hdn
   subst hdn
   rw[if_pos rfl,List.append_nil]at hno
   rw[q4y]
   rw[hno]at hK
   exact hK _ _ _ _ hS hN hw
end Go.Fx.Tryz
namespace Go.Fx.Mo
theorem q6D(r:RR)(n:Nat):VA r (n+1)=VA r n+if(decide (n > 0)&&zb r.begun n)||(decide (n=0)&&YV r.L 0)then 1 else 0:=rfl
theorem q5V(r:RR)(n:Nat):JB r (n+1)=JB r n+if Jy r.L n then 1 else 0:=rfl
theorem JY(r:RR):∀ n,0<=VA r n/\VA r n<=n
 | 0=>by simp[VA]
 | n+1=>by
  have:=JY r n
  unfold VA
  split<;>omega
theorem q4S(r:RR):∀ n,0<=JB r n/\JB r n<=n
 | 0=>by simp[JB]
 | n+1=>by
  have:=q4S r n
  unfold JB
  split<;>omega
end Go.Fx.Mo
namespace Go.Fx.Tryz
open Go Go.Fx Go.Fx.Mo
open Go.Proofs
variable {w0 w:World} {H Y:qP} {K:KT}
set_option maxRecDepth 20000
def qKi(w0:World)(R:qP)(r:RR)(n7 n2:Nat)(m:Nat)(ee:ql)(w:World):Prop:=
 ∃ (t:Nat),t<=8/\m=8-t/\ee=ql.mk 52 [(6,(Value.int .i64 t)),(5,(Value.int .i64 (VA r t))),(4,(Value.pointer (some (Addr.mk n7 0 none)))),(2,(Value.int .i64 0)),(3,(Value.int .i64 0)),(1,(Value.pointer (some (Addr.mk n2 0 none))))] []/\St w0 w R
theorem qdW{l:List Ev}{lv tv:Value}{r:RR}(h:St w0 w H)(hrow:∀ w',St w0 w' H->Qt w' 6 lv l.length (zq l))(hr:QA l=.inl r)
  (hK:∀ w',St w0 w' H->K (.tuple [qj (mny (yh l) 0),qj (Mo.JI r)].toArray) w'):qa P 13 [.agg [lv,tv].toArray] w K:=by
 obtain⟨sa,sc,hov⟩:=(hrow w h).form
 subst hov
 refine qJm _ _ _ ?_
 rw[qGx,qmF]
 refine h.newC fun n2 w1 hn2 h1=>?_
 rw[qn2]
 refine⟨sa,_,sc,h1.cell (k:=0) rfl,?_⟩
 have h0:=jT 0
 refine q22 h1 (fun w' h'=>hrow w' (h'.tail hn2)) (fun x hx=>by rw[hr]at hx;cases hx) fun r' hr' hl20 hbd w2 cs g1=>⟨_,rfl,?_⟩
 rw[hr]at hr'
 cases hr'
 obtain⟨lv,vv,xv,LL,LO,LX,rfl,hri,hs⟩:=g1
 have hc:jL (qS r 0 lv vv xv):=⟨jg hri.bl hri.el,jl (zW hri.sl) (zW hri.so) (zW hri.sx)⟩
 rw[JG]
 refine hs.newC fun n7 w3 hn7 h3=>h3.stA (k:=0) rfl (by simp[hc.len]) (by simp[hc.len,h0.len]) hc.one fun w4 h4=>?_
 have h4:St w0 w4 ((n7,Cs (qI (zU 0) 0 (qS r 0 lv vv xv)) 64)::(LL++(LO++(LX++((n2,Cs [.slice sa l.length sc,tv] 52)::H))))):=h4
 rw[qB (by rw[hc.len,h0.len])]at h4
 have hback:∀ {w':World},St w0 w' ((n7,Cs (qS r 0 lv vv xv) 64)::(LL++(LO++(LX++((n2,Cs [.slice sa l.length sc,tv] 52)::H)))))->St w0 w' ((n2,Cs [.slice sa l.length sc,tv] 52)::H):=fun h'=>(((h'.tail hn7).sub hri.nl).sub hri.no).sub hri.nx
 obtain⟨la,lc,hlv⟩:=hri.sl.form
 obtain⟨xa,xc,hxv⟩:=hri.sx.form
 have hbl:=hbd.l
 have hbx:=hbd.x
 have hrowL:∀ w',St w0 w' ((n7,Cs (qS r 0 lv vv xv) 64)::(LL++(LO++(LX++((n2,Cs [.slice sa l.length sc,tv] 52)::H)))))->Qt w' 4 (.slice la r.L.length lc) r.L.length (Qh r.L):=fun w' h'=>by
  rw[<-hlv]
  exact hri.sl.row fun y hy=>h'.has _ _ (by simp[hy])
 have hcl:∀ {w':World},St w0 w' ((n7,Cs (qS r 0 lv vv xv) 64)::(LL++(LO++(LX++((n2,Cs [.slice sa l.length sc,tv] 52)::H)))))->w'.cell? (Addr.mk n7 0 none)=some (.slice la r.L.length lc):=fun h'=>by
  rw[h'.cell (k:=0) rfl,<-hlv];rfl
 rw[qnK,qnL,qqr]
 refine⟨qKi w0 ((n7,Cs (qS r 0 lv vv xv) 64)::(LL++(LO++(LX++((n2,Cs [.slice sa l.length sc,tv] 52)::H))))) r n7 n2,
  ⟨8,0,by omega,rfl,rfl,h4⟩,?_⟩
 rintro m ee w5 ⟨t,ht,rfl,rfl,h5⟩
 show ql1 ..
 rw[qfc,qg]
 constructor
 ·intro hlt
  have hlt:t<8:=by simp at hlt;omega
  have hwr:∀ x:Int,0<=x->x<100->IntKind.wrap .i64 (x+1)=x+1:=fun x h0 h1=>by rw[qk om om]
  have htr:=JY r t
  have fin:∀ (c:Bool) (w':World),c=((decide (t > 0)&&zb r.begun t)||(decide (t=0)&&YV r.L 0))->St w0 w' ((n7,Cs (qS r 0 lv vv xv) 64)::(LL++(LO++(LX++((n2,Cs [.slice sa l.length sc,tv] 52)::H)))))->
    q0d c (Addr.mk n7 0 none) 0 0 (Addr.mk n2 0 none) t (VA r t) w' K (fun e' w'=>∃ m,m<8-t/\qKi w0 ((n7,Cs (qS r 0 lv vv xv) 64)::(LL++(LO++(LX++((n2,Cs [.slice sa l.length sc,tv] 52)::H))))) r n7 n2 m e' w'):=fun c w' hc h'=>by
   have hwt:IntKind.wrap .i64 ((t:Int)+1)=((t+1:Nat):Int):=by rw[hwr _ om om];rfl
   rw[qpY,qg]
   constructor
   ·intro hct
    rw[q6c]
    refine⟨8-(t+1),by omega,t+1,by omega,rfl,?_,h'⟩
    rw[hwt,hwr _ om om]
    rw[q6D,<-hc,if_pos hct]
   ·intro hcf
    have hcf:c=false:=by simpa using hcf
    rw[q6c]
    refine⟨8-(t+1),by omega,t+1,by omega,rfl,?_,h'⟩
    rw[hwt]
    rw[q6D,<-hc,hcf]
    simp
  rw[qmA]
  by_cases h0t:t=0
  ·subst h0t
   rw[show decide (((0:Nat):Int) > 0)=false by decide,qd,show(((0:Nat):Int)==0)=true by decide,qm]
   refine⟨la,_,lc,hcl h5,?_⟩
   refine qAe 0 h5 hrowL om fun w6 h6=>⟨_,rfl,?_⟩
   refine fin _ w6 ?_ h6
   simp
  ·have hgt:decide (((t:Nat):Int) > 0)=true:=by simp;omega
   have hne:(((t:Nat):Int)==0)=false:=by rw[beq_eq_false_iff_ne];omega
   have hbt:zb r.begun t=r.begun[t]'(by rw[hri.bl];omega):=by
    unfold zb
    simp[List.getD,show t<r.begun.length by rw[hri.bl];omega]
   rw[hgt,qm]
   refine⟨by omega,by omega,zb r.begun t,?_,?_⟩
   ·rw[qc,Int.toNat_natCast,Nat.mul_one]
    rw[qc,h5.cell (k:=0) rfl,Nat.zero_add]
    rw[show 3+t=t+3 by omega]
    show(vw r 0)[t]?=_
    unfold vw
    rw[List.getElem?_append_left (by rw[List.length_map,hri.bl];omega),hbt]
    simp
   ·rw[qg]
    constructor
    ·intro hb
     refine fin true w5 ?_ h5
     rw[hb];simp;omega
    ·intro hb
     have hb:zb r.begun t=false:=by simpa using hb
     rw[hne,qd]
     refine fin false w5 ?_ h5
     rw[hb];simp[h0t]
 ·intro hge
  have hge:t=8:=by simp at hge;omega
  subst hge
  rw[qq8,qfk]
  have htr:=JY r 8
  refine⟨fun m ee w=>∃ (x:Nat),x<=r.objs.length/\m=r.objs.length-x/\ee=ql.mk 52 [(7,(Value.int .i64 x)),(5,(Value.int .i64 (VA r 8+JB r x))),(4,(Value.pointer (some (Addr.mk n7 0 none)))),(2,(Value.int .i64 0)),(3,(Value.int .i64 0)),(1,(Value.pointer (some (Addr.mk n2 0 none))))] []/\
    St w0 w ((n7,Cs (qS r 0 lv vv xv) 64)::(LL++(LO++(LX++((n2,Cs [.slice sa l.length sc,tv] 52)::H))))),
   ⟨r.objs.length,0,by omega,rfl,by rw[show VA r 8+JB r 0=VA r 8 by simp[JB]];rfl,h5⟩,?_⟩
  rintro m ee w6 ⟨x,hx,rfl,rfl,h6⟩
  show qce ..
  rw[qbt]
  refine⟨xa,_,xc,by rw[qc,h6.cell (k:=0) rfl,<-hxv];rfl,r.objs.length,fun wq _=>qZ _ _ _ Tryz.underlying62 3,?_⟩
  rw[qg]
  have hor:=q4S r x
  constructor
  ·intro hlt
   have hlt:x<r.objs.length:=by simpa using hlt
   rw[qgm]
   refine⟨la,_,lc,hcl h6,?_⟩
   refine q9T x h6 hrowL om fun w7 h7=>⟨_,rfl,?_⟩
   have hwx:IntKind.wrap .i64 ((x:Int)+1)=((x+1:Nat):Int):=by rw[qk om om];rfl
   rw[qg]
   constructor
   ·intro hb
    rw[q5A]
    refine⟨r.objs.length-(x+1),by omega,x+1,by omega,rfl,?_,h7⟩
    rw[hwx,qk om om,q5V,if_pos hb]
    rw[show VA r 8+JB r x+1=VA r 8+(JB r x+1)by omega]
   ·intro hb
    have hb:Jy r.L x=false:=by simpa using hb
    rw[q5A]
    refine⟨r.objs.length-(x+1),by omega,x+1,by omega,rfl,?_,h7⟩
    rw[hwx,q5V,hb]
    simp
  ·intro hge
   have hge:x=r.objs.length:=by simp at hge;omega
   subst hge
   rw[qeS]
   have h7:=hback h6
   refine⟨sa,_,sc,h7.cell (k:=0) rfl,?_⟩
   refine qa9 h7 (fun w' h'=>hrow w' (h'.tail hn2)) hl20 fun w8 pa pc Lp hS hN hpl h8=>⟨pa,_,pc,rfl,?_⟩
   refine qlu h8 (fun w' h'=>hS.row fun y hy=>h'.has _ _ (by simp[hy])) hpl fun w9 h9=>⟨_,rfl,?_⟩
   exact hK w9 ((h9.sub hN).tail hn2)
end Go.Fx.Tryz
namespace Go.Fx.Mo
theorem qo5(l:List Ev)(t:Tab)(told0:List Int)(b:Int)(r:List Int)(s:List qQ × List Int):q2C l t told0 (b::r) s=q2C l t told0 r (if b∈told0 then s else match(yS l t b).head? with
  | none=>s
  | some x=>(s.1++[x],yj s.2 b)):=rfl
end Go.Fx.Mo
namespace Go.Fx.Tryz
open Go Go.Fx Go.Fx.Mo
open Go.Proofs
variable {w0 w:World} {H Y:qP} {K:KT}
set_option maxRecDepth 20000
theorem z52:qn P 52=([qy,qy]:List Value).toArray:=kr
theorem qMk(w:World):(Instr.buildSlice 22 0 ([]:List (Nat × Value)).toArray).run P w=.ok (.slice (some ⟨w.heap.size,0,none⟩) 0 0) (w.alloc (.cells #[] 45 (0,0))):=kr
theorem qi3:P.info? 45=some Tryz.t45:=kr
theorem qAy(a b:Option Addr)(n m c d:Nat)(wq:World):(Instr.build 52 [(0,(Value.slice a n c)),(1,(Value.slice b m d))].toArray).run P wq=.ok (.agg ([.slice a n c,.slice b m d]:List Value).toArray) wq:=kr
theorem qlY(l:List Ev):∀ u∈zq l,u.oneCell'=true:=by
 intro u hu
 obtain⟨x,hx,hu⟩:=List.mem_flatten.1 hu
 obtain⟨r,_,rfl⟩:=List.mem_map.1 hx
 exact yr r u (by simpa using hu)
theorem qgo(l:List Ev)(e:Ev):zq (l++[e])=zq l++qE e:=by simp[zq]
theorem q13(e:Ev):((qE e).drop 0).take 6=qE e:=by rw[List.drop_zero,List.take_of_length_le (by rw[qu];exact Nat.le_refl 6)]
theorem qDc(e:Ev):(([Value.agg (qE e).toArray].map fun(v:Value)=>v.cells.toList).flatten)=qE e:=by simp[Value.cells]
theorem qtL(x:Mo.qQ):(([Value.agg (qz x).toArray].map fun(v:Value)=>v.cells.toList).flatten)=qz x:=by simp[Value.cells]
theorem qHy{A Lo:qP}{oa:Option Addr}{oc nb:Nat}{l:List Ev}{e:Ev}{t:TypeId}(h:St w0 w (A++(Lo++H)))(hS:zC 6 45 (.slice oa l.length oc) l.length (zq l) Lo)(hN:zr w0 Lo){j:Nat}(hj:A[j]?=some (nb,Cs (qE e) t))(hb:l.length<1000000) :
  ∃ g cap w' L',(Builtin.append_ #[22,22] 22 [.slice oa l.length oc,.slice (some ⟨nb,0,none⟩) 1 1].toArray).run P w=.ok (.slice (some ⟨g,0,none⟩) (l++[e]).length cap) w'/\
   zC 6 45 (.slice (some ⟨g,0,none⟩) (l++[e]).length cap) (l++[e]).length (zq (l++[e])) L'/\St w0 w' (A++(L'++H))/\zr w0 L':=by
 rw[show(l++[e]).length=l.length+1 by simp,qgo]
 exact St.append (P:=P) 22 22 45 Tryz.t45 (.agg #[qj 0,qj 0,.int .u32 0,.int .u32 0,.int .u32 0,qj 0]) 6 40 Tryz.underlying22 qi3 rfl rfl rfl rfl om h hS hN hj (qu _) (by simpa using yr _) (by simp[maxLen];omega) om
theorem qID{A Lo:qP}{oa:Option Addr}{oc nb:Nat}{l:List Mo.qQ}{e:Mo.qQ}{t:TypeId}(h:St w0 w (A++(Lo++H)))(hS:zC 11 108 (.slice oa l.length oc) l.length (qA l) Lo)(hN:zr w0 Lo){j:Nat}(hj:A[j]?=some (nb,Cs (qz e) t))(hb:l.length<1000000) :
  ∃ g cap w' L',(Builtin.append_ #[39,39] 39 [.slice oa l.length oc,.slice (some ⟨nb,0,none⟩) 1 1].toArray).run P w=.ok (.slice (some ⟨g,0,none⟩) (l++[e]).length cap) w'/\
   zC 11 108 (.slice (some ⟨g,0,none⟩) (l++[e]).length cap) (l++[e]).length (qA (l++[e])) L'/\St w0 w' (A++(L'++H))/\zr w0 L':=by
 rw[show(l++[e]).length=l.length+1 by simp,q1s]
 exact St.append (P:=P) 39 39 108 Tryz.t108 (.agg #[.int .u32 0,qj 0,qj 0,.int .u32 0,.bool false,.bool false,qj 0,qj 0,.int .u32 0,.bool false,.bool false]) 11 56 Tryz.underlying39 q8j rfl rfl rfl rfl om h hS hN hj (yO _) (by simpa using vY _) (by simp[maxLen];omega) om
abbrev fdB(n8 n6 n4:Nat)(rv:List Value)(e:Ev)(sv:List Value)(H:qP):List (Nat × Obj):=(n8,Cs rv 52)::(n6,Cs (qE e) 45)::(n4,Cs sv 52)::H
def FdI(w0:World)(H:qP)(T:Int->List Mo.qQ × List Int->List Mo.qQ × List Int)(bs:List Int)(res:List Mo.qQ × List Int)(told0:List Int)(e:Ev)(n8 n6 n4 n9:Nat)(rv sv:List Value)(lv gv jv:Value)(Lt L7 LT:qP)(m:Nat)(ee:ql)(w:World):Prop:=
 ∃ (i:Nat) (s:List Mo.qQ × List Int) (oa ua:Option Addr) (oc uc:Nat) (LO LX LU:qP),i<=bs.length/\m=bs.length-i/\ee=ql.mk 93 [(12,(Value.int .i64 i)),(10,(Value.pointer (some (Addr.mk n9 0 none)))),(9,(Value.slice oa s.1.length oc)),(2,(Value.pointer (some (Addr.mk n4 0 none)))),(11,gv),(7,lv),(3,(Value.pointer (some (Addr.mk n6 0 none)))),(4,(Value.pointer (some (Addr.mk n8 0 none)))),(5,(Value.slice none 0 0)),(6,(Value.int .i64 0))] []/\
  (bs.drop i).foldl (fun s b=>T b s) s=res/\s.1.length<=i/\s.2.length<=told0.length+i/\
  zC 11 108 (.slice oa s.1.length oc) s.1.length (qA s.1) LO/\zr w0 LO/\zC 1 43 (.slice ua s.2.length uc) s.2.length (s.2.map zt) LU/\(∀ y∈LU,y∈LX++LT)/\zr w0 LX/\
  St w0 w ((n9,Cs [lv,.slice ua s.2.length uc] 52)::fdB n8 n6 n4 rv e sv (LO++(LX++(Lt++(L7++H)))))
theorem q6Q(l:List Ev)(t:Tab)(told0:List Int):∀ (bs:List Int) (s:List Mo.qQ × List Int),q2C l t told0 bs s=bs.foldl (fun s b=>if b∈told0 then s else match(yS l t b).head? with
  | none=>s
  | some x=>(s.1++[x],yj s.2 b)) s
 | [],_=>rfl
 | b::r,s=>by rw[qo5,List.foldl_cons,q6Q l t told0 r]
theorem qfg{s:q0k}{e:Ev}{lv tv:Value}{LL LT:qP}(h:St w0 w H)(hL:zC 6 45 lv s.L.length (zq s.L) LL)(hLL:∀ y∈LL,y∈H)(hT:zC 1 43 tv s.Told.length (s.Told.map zt) LT)(hLT:∀ y∈LT,y∈H)
  (hl:s.L.length<1000) (ht:s.Told.length<=100000) (hn:∀ r,QA (s.L++[e])=.inl r->acs e=true->0<=e.n/\e.n<=65536)
  (herr:∀ y,yU s e=(s,.inr y)->∀ w',St w0 w' H->K (.tuple [.agg [lv,tv].toArray,qy,qj y].toArray) w')
  (hok:∀ s' out,yU s e=(s',.inl out)->∀ w' lv' tv' ov LL' LT' LO X,zC 6 45 lv' s'.L.length (zq s'.L) LL'->zC 1 43 tv' s'.Told.length (s'.Told.map zt) LT'->zC 11 108 ov out.length (qA out) LO->
   (∀ y∈LL',y∈X)->(∀ y∈LT',y∈X++LT)->(∀ y∈LO,y∈X)->zr w0 X->St w0 w' (X++H)->K (.tuple [.agg [lv',tv'].toArray,ov,qj 0].toArray) w') :
  qa P 12 [.agg [lv,tv].toArray,.agg (qE e).toArray] w K:=by
 obtain⟨la,lc,hlv⟩:=hL.form
 subst hlv
 obtain⟨ta,tc,htv⟩:=hT.form
 subst htv
 refine qIF _ _ _ _ ?_
 rw[qJc,qnk]
 refine h.newC fun n4 w1 hn4 h1=>h1.newC fun n6 w2 hn6 h2=>?_
 rw[z52]
 refine h2.newC fun n8 w3 hn8 h3=>?_
 have h3:St w0 w3 (fdB n8 n6 n4 [qy,qy] e [.slice la s.L.length lc,.slice ta s.Told.length tc] H):=h3
 rw[qnF]
 refine⟨la,_,lc,h3.cell (k:=2) rfl,s.L.length,fun wq _=>yb wq,?_⟩
 rw[show decide ((s.L.length:Int)>=20000)=false by simp;omega,qd,qpw]
 refine⟨_,_,_,_,qMk w3,?_⟩
 have h4:=h3.alloc (.cells #[] 45 (0,0))
 have hm:=h3.le
 generalize w3.heap.size=m at h4 hm
 generalize w3.alloc (.cells #[] 45 (0,0))=w4 at h4
 have h4:St w0 w4 ([]++([(m,Cs [] 45)]++fdB n8 n6 n4 [qy,qy] e [.slice la s.L.length lc,.slice ta s.Told.length tc] H)):=h4
 refine⟨la,_,lc,h4.cell (k:=3) rfl,?_⟩
 obtain⟨v5,w5,L5,hr5,hS5,hs5,hN5⟩:=St.appendN (P:=P) 22 22 45 Tryz.t45 (.agg #[qj 0,qj 0,.int .u32 0,.int .u32 0,.int .u32 0,qj 0]) 6 40 Tryz.underlying22 qi3 rfl rfl rfl rfl om
  (A:=[]) (L:=[(m,Cs [] 45)]) (M:=LL) h4 (Qg 6 45 m) (by simpa [zr]using hm) hL (fun y hy=>h4.has _ _ (by simp[hLL y hy])) (qlY _) (by simp[maxLen];omega) om
 have hS5:zC 6 45 v5 s.L.length (zq s.L) L5:=by simpa using hS5
 obtain⟨a5,c5,hv5⟩:=hS5.form
 subst hv5
 refine⟨a5,_,c5,w5,hr5,?_⟩
 have h5:St w0 w5 (fdB n8 n6 n4 [qy,qy] e [.slice la s.L.length lc,.slice ta s.Told.length tc] (L5++H)):=hs5.perm (qK fun c=>by
  simp only[List.nil_append,List.map_append,List.map_cons,List.sum_append,List.sum_cons];omega)
 rw[qpL]
 refine h5.ldA (k:=1) (i:=0) rfl (by simp[qu]) ?_
 rw[q13]
 refine⟨⟨by simp[Value.cells,qu],trivial⟩,?_⟩
 rw[qDc]
 refine h5.newC fun n50 w6 hn50 h6=>?_
 obtain⟨g,cap,w7,L7,hr7,hS7,h7,hN7⟩:=qHy (A:=[(n50,Cs (qE e) 45),(n8,Cs [qy,qy] 52),(n6,Cs (qE e) 45),(n4,Cs [.slice la s.L.length lc,.slice ta s.Told.length tc] 52)]) h6 hS5 hN5 (j:=0) rfl om
 refine⟨_,_,_,w7,hr7,?_⟩
 have h7:St w0 w7 (fdB n8 n6 n4 [qy,qy] e [.slice la s.L.length lc,.slice ta s.Told.length tc] (L7++H)):=St.tail (b:=n50) h7 hn50
 have hlen:(s.L++[e]).length=s.L.length+1:=by simp
 have hrow:∀ {w':World} {rv sv:List Value} {A Z:qP},St w0 w' (A++(L7++Z))->Qt w' 6 (.slice (some ⟨g,0,none⟩) (s.L++[e]).length cap) (s.L++[e]).length (zq (s.L++[e])):=fun h'=>hS7.row fun y hy=>h'.has _ _ (by simp[hy])
 have hH:∀ {w':World} {rv sv:List Value} {e':Ev} {Z:qP},zr w0 Z->St w0 w' (fdB n8 n6 n4 rv e' sv (Z++H))->St w0 w' H:=fun hZ h'=>(((h'.tail hn8).tail hn6).tail hn4).sub hZ
 rw[qnS]
 have h0:=jT 0
 have back:∀ (y:Int) (w':World) (Z:qP),yU s e=(s,.inr y)->zr w0 Z->St w0 w' (fdB n8 n6 n4 [qy,qy] e [.slice la s.L.length lc,.slice ta s.Told.length tc] (Z++H))->
   qN 2 (Addr.mk n8 0 none) ([.slice la s.L.length lc,.slice ta s.Told.length tc]:List Value).toArray w' (fun w2=>qf 2 (Addr.mk n8 0 none) w2 (fun cs=>K (.tuple [.agg cs,qy,qj y].toArray) w2)):=fun y w' Z hy hZ h'=>
  h'.stA (k:=0) rfl rfl (by simp) (by simp[Value.oneCell']) fun w2 h2=>by
   have h2:St w0 w2 (fdB n8 n6 n4 [.slice la s.L.length lc,.slice ta s.Told.length tc] e [.slice la s.L.length lc,.slice ta s.Told.length tc] (Z++H)):=h2
   exact h2.ldA (k:=0) (i:=0) rfl (by simp) (herr y hy _ (hH hZ h2))
 refine q22 h7 (fun w' h'=>hrow (A:=[(n8,_),(n6,_),(n4,_)]) (rv:=[]) (sv:=[]) h') (fun x hx hx0 w8 h8=>⟨_,rfl,?_⟩) fun r hr hl20 hbd w8 cs g8=>⟨_,rfl,?_⟩
 ·have hy:yU s e=(s,.inr x):=by
   unfold yU
   rw[if_neg om,hx]
  have hxc:=jT x
  rw[JG]
  refine h8.newC fun n71 w9 hn71 h9=>h9.stA (k:=0) rfl (by simp[hxc.len]) (by simp[hxc.len,h0.len]) hxc.one fun w10 h10=>?_
  have h10:St w0 w10 ((n71,Cs (qI (zU 0) 0 (zU x)) 64)::fdB n8 n6 n4 [qy,qy] e [.slice la s.L.length lc,.slice ta s.Told.length tc] (L7++H)):=h10
  rw[qB (by rw[hxc.len,h0.len])]at h10
  rw[q6F]
  refine⟨x,by rw[qc,h10.cell (k:=0) rfl];simp[zU],?_⟩
  rw[show(x != 0)=true by simpa using hx0,qm]
  have hd:=h10.drew
  refine hd.ldA (k:=3) (i:=0) rfl (by simp) ?_
  simp only[qqy]
  refine⟨⟨x,by rw[qc,hd.cell (k:=0) rfl];simp[zU],back x _ L7 hy hN7 (hd.tail hn71)⟩,?_⟩
  refine hd.stA (k:=1) rfl rfl (by simp) (by simp[Value.oneCell']) fun w11 h11=>?_
  have h11:St w0 w11 ((n71,Cs (zU x) 64)::fdB n8 n6 n4 [.slice la s.L.length lc,.slice ta s.Told.length tc] e [.slice la s.L.length lc,.slice ta s.Told.length tc] (L7++H)):=h11
  refine⟨x,by rw[qc,h11.cell (k:=0) rfl];simp[zU],?_⟩
  exact h11.ldA (k:=1) (i:=0) rfl (by simp) (herr x hy _ (hH hN7 (h11.tail hn71)))
 ·obtain⟨hv1,hv2,hv3,HL,HO,HX,rfl,hri,hs⟩:=g8
  have hc:jL (qS r 0 hv1 hv2 hv3):=⟨jg hri.bl hri.el,jl (zW hri.sl) (zW hri.so) (zW hri.sx)⟩
  rw[JG]
  refine hs.newC fun n71 w9 hn71 h9=>h9.stA (k:=0) rfl (by simp[hc.len]) (by simp[hc.len,h0.len]) hc.one fun w10 h10=>?_
  have h10:St w0 w10 ((n71,Cs (qI (zU 0) 0 (qS r 0 hv1 hv2 hv3)) 64)::(HL++(HO++(HX++fdB n8 n6 n4 [qy,qy] e [.slice la s.L.length lc,.slice ta s.Told.length tc] (L7++H))))):=h10
  rw[qB (by rw[hc.len,h0.len])]at h10
  have c19:(qS r 0 hv1 hv2 hv3)[19]?=some (qj 0):=by
   show(vw r 0)[16]?=_
   unfold vw
   rw[List.getElem?_append_right (by simp[hri.bl]),List.getElem?_append_right (by simp[hri.bl,hri.el])]
   simp[hri.bl,hri.el]
  rw[q6F]
  refine⟨0,by rw[qc,h10.cell (k:=0) rfl];exact c19,?_⟩
  rw[show((0:Int) != 0)=false by decide,qd]
  have h11:St w0 w10 (fdB n8 n6 n4 [qy,qy] e [.slice la s.L.length lc,.slice ta s.Told.length tc] (L7++H)):=(((h10.tail hn71).sub hri.nl).sub hri.no).sub hri.nx
  rw[qpz]
  refine qa9 h11 (fun w' h'=>hrow (A:=[(n8,_),(n6,_),(n4,_)]) (rv:=[]) (sv:=[]) h') om fun w12 pa pc Lp hSp hNp hpl h12=>⟨pa,_,pc,rfl,?_⟩
  refine qlu h12 (fun w' h'=>hSp.row fun y hy=>h'.has _ _ (by simp[hy])) hpl fun w13 h13=>⟨_,rfl,?_⟩
  have h13:St w0 w13 (fdB n8 n6 n4 [qy,qy] e [.slice la s.L.length lc,.slice ta s.Told.length tc] (L7++H)):=h13.sub hNp
  rw[qg]
  constructor
  ·intro hgt
   have hgt:mny (yh (s.L++[e])) 0 > 20000:=by simpa using hgt
   have hy:yU s e=(s,.inr 2):=by
    unfold yU
    rw[if_neg om,hr]
    simp only
    rw[if_pos hgt]
   exact h13.ldA (k:=2) (i:=0) rfl (by simp) (back 2 _ L7 hy hN7 h13)
  intro hle
  have hle:¬ mny (yh (s.L++[e])) 0 > 20000:=by simpa using hle
  have fin18:∀ (w':World) (st:List Mo.qQ × List Int) (oa ua:Option Addr) (oc uc n9:Nat) (LO LX LU Lt:qP),st=q0j s e r->st.2.length<=200000->w0.heap.size<=n9->zC 11 108 (.slice oa st.1.length oc) st.1.length (qA st.1) LO->zr w0 LO->
    zC 1 43 (.slice ua st.2.length uc) st.2.length (st.2.map zt) LU->(∀ y∈LU,y∈LX++LT)->zr w0 LX->zr w0 Lt->
    St w0 w' ((n9,Cs [.slice (some ⟨g,0,none⟩) (s.L++[e]).length cap,.slice ua st.2.length uc] 52)::fdB n8 n6 n4 [qy,qy] e [.slice la s.L.length lc,.slice ta s.Told.length tc] (LO++(LX++(Lt++(L7++H)))))->
    q3a (Addr.mk n8 0 none) (Addr.mk n4 0 none) oa st.1.length oc (Addr.mk n9 0 none) w' K:=fun w' st oa ua oc uc n9 LO LX LU Lt hst htl hn9 hSO hNO hSU hLU hNX hNt h'=>by
   have hZ:zr w0 (LO++(LX++(Lt++L7))):=fun y hy=>by
    simp only[List.mem_append]at hy
    rcases hy with hy | hy | hy | hy
    ·exact hNO y hy
    ·exact hNX y hy
    ·exact hNt y hy
    ·exact hN7 y hy
   have eZ:LO++(LX++(Lt++(L7++H)))=(LO++(LX++(Lt++L7)))++H:=by simp only[List.append_assoc]
   rw[eZ]at h'
   rw[qeO]
   refine⟨ua,_,uc,by rw[qc,h'.cell (k:=0) rfl];rfl,st.2.length,fun wq _=>qZ _ _ _ Tryz.underlying49 3,?_⟩
   rw[qg]
   constructor
   ·intro hgt
    have hgt:st.2.length > 1000:=by simp at hgt;omega
    have hy:yU s e=(s,.inr 2):=by
     unfold yU
     rw[if_neg om,hr]
     simp only
     rw[if_neg hle,if_pos (by rw[<-hst];exact hgt)]
    exact h'.ldA (k:=3) (i:=0) rfl (by simp) (back 2 _ _ hy hZ (h'.tail hn9))
   ·intro hng
    have hng:¬ st.2.length > 1000:=by simp at hng;omega
    have hy:yU s e=(⟨s.L++[e],st.2⟩,.inl st.1):=by
     unfold yU
     rw[if_neg om,hr]
     simp only
     rw[if_neg hle,if_neg (by rw[<-hst];exact hng),hst]
    rw[qhI]
    refine h'.ldA (k:=0) (i:=0) rfl (by simp) ?_
    refine h'.stA (k:=1) rfl rfl (by simp) (by simp[Value.oneCell']) fun w2 h2=>?_
    have h2:St w0 w2 ((n9,Cs [.slice (some ⟨g,0,none⟩) (s.L++[e]).length cap,.slice ua st.2.length uc] 52)::fdB n8 n6 n4 [.slice (some ⟨g,0,none⟩) (s.L++[e]).length cap,.slice ua st.2.length uc] e [.slice la s.L.length lc,.slice ta s.Told.length tc] ((LO++(LX++(Lt++L7)))++H)):=h2
    refine h2.ldA (k:=1) (i:=0) rfl (by simp) ?_
    refine hok _ _ hy w2 _ _ _ L7 LU LO (LO++(LX++(Lt++L7))) hS7 hSU hSO (fun y hy=>by simp[hy]) (fun y hy=>?_) (fun y hy=>by simp[hy]) hZ ((((h2.tail hn9).tail hn8).tail hn6).tail hn4)
    have:=hLU y hy
    simp only[List.mem_append]at this ⊢
    rcases this with h | h
    ·exact .inl (.inr (.inl h))
    ·exact .inr h
  rw[qot]
  refine⟨_,_,_,_,qE2 w13,?_⟩
  have h14:=h13.alloc (.cells #[] 108 (0,0))
  have hq:=h13.le
  generalize w13.heap.size=q at h14 hq
  generalize w13.alloc (.cells #[] 108 (0,0))=w14 at h14
  have h14:St w0 w14 ((q,Cs [] 108)::fdB n8 n6 n4 [qy,qy] e [.slice la s.L.length lc,.slice ta s.Told.length tc] (L7++H)):=h14
  rw[qmN]
  refine⟨ta,_,tc,by rw[qc,h14.cell (k:=3) rfl];rfl,_,fun wq=>qAy _ _ _ _ _ _ wq,?_⟩
  rw[z52]
  refine h14.newC fun n9 w15 hn9 h15=>h15.stA (k:=0) rfl rfl (by simp) (by simp[Value.oneCell']) fun w16 h16=>?_
  have h16:St w0 w16 ((n9,Cs [.slice (some ⟨g,0,none⟩) (s.L++[e]).length cap,.slice ta s.Told.length tc] 52)::(q,Cs [] 108)::fdB n8 n6 n4 [qy,qy] e [.slice la s.L.length lc,.slice ta s.Told.length tc] (L7++H)):=h16
  have h16:St w0 w16 ((n9,Cs [.slice (some ⟨g,0,none⟩) (s.L++[e]).length cap,.slice ta s.Told.length tc] 52)::fdB n8 n6 n4 [qy,qy] e [.slice la s.L.length lc,.slice ta s.Told.length tc] ([(q,Cs [] 108)]++(L7++H))):=h16.perm (qK fun c=>by
   simp only[List.map_append,List.map_cons,List.map_nil,List.sum_append,List.sum_cons,List.sum_nil];omega)
  have hSO0:zC 11 108 (.slice (some ⟨q,0,none⟩) 0 0) 0 (qA []) [(q,Cs [] 108)]:=Qg 11 108 q
  have hNq:zr w0 [(q,Cs [] 108)]:=by simpa [zr]using hq
  rw[qgc]
  refine h16.ldA (k:=2) (i:=0) rfl (by simp[qu]) ?_
  rw[q13]
  refine q9n h16 e fun w17 h17=>⟨_,rfl,?_⟩
  rw[qg]
  constructor
  rotate_left
  ·intro hna
   have hna:acs e=false:=by simpa using hna
   have hbs:Ql e=[]:=by unfold Ql;rw[hna];rfl
   refine fin18 w17 ([],s.Told) _ _ _ _ n9 [(q,Cs [] 108)] [] LT [] ?_ (by simp;omega) hn9 hSO0 hNq hT (by simp) (zr.nil w0) (zr.nil w0) h17
   unfold q0j
   rw[hbs];rfl
  ·intro hac
   obtain⟨e0,e1⟩:=hn r hr hac
   have hbs:Ql e=Mo.bytes e.a e.n:=by unfold Ql;rw[hac];rfl
   have hbl:(Ql e).length=e.n.toNat:=by rw[hbs];simp[Mo.bytes]
   rw[qgU]
   refine qsW h17 (fun w' h'=>hrow (A:=(n9,_)::(n8,_)::(n6,_)::(n4,_)::[(q,_)]) (rv:=[]) (sv:=[]) h') hr fun w18 ga gc Lt hNt htab h18=>⟨ga,_,gc,rfl,?_⟩
   rw[qeu,qgE]
   have h18:St w0 w18 ((n9,Cs [.slice (some ⟨g,0,none⟩) (s.L++[e]).length cap,.slice ta s.Told.length tc] 52)::fdB n8 n6 n4 [qy,qy] e [.slice la s.L.length lc,.slice ta s.Told.length tc] ([(q,Cs [] 108)]++([]++(Lt++(L7++H))))):=h18.perm (qK fun c=>by
    simp only[List.map_append,List.map_cons,List.map_nil,List.sum_append,List.sum_cons,List.sum_nil];omega)
   let T:Int->List Mo.qQ × List Int->List Mo.qQ × List Int:=fun b st=>if b∈s.Told then st else match(yS (s.L++[e]) (YS r (s.L++[e]).length) b).head? with
    | none=>st
    | some x=>(st.1++[x],yj st.2 b)
   have hfold:(Ql e).foldl (fun st b=>T b st) ([],s.Told)=q0j s e r:=by
    unfold q0j
    rw[q6Q,<-hlen]
   refine⟨FdI w0 H T (Ql e) (q0j s e r) s.Told e n8 n6 n4 n9 [qy,qy] [.slice la s.L.length lc,.slice ta s.Told.length tc] (.slice (some ⟨g,0,none⟩) (s.L++[e]).length cap) (.slice ga (s.L++[e]).length gc) qy Lt L7 LT,
    ⟨(Ql e).length,0,([],s.Told),_,_,_,_,[(q,Cs [] 108)],[],LT,by omega,rfl,rfl,by rw[List.drop_zero];exact hfold,by simp,by simp,hSO0,hNq,hT,by simp,zr.nil w0,h18⟩,?_⟩
   rintro mm ee w19 ⟨i,st,oa,ua,oc,uc,LO,LX,LU,hi,rfl,rfl,hfo,hl1,hl2,hSO,hNO,hSU,hLU,hNX,h19⟩
   show qcC ..
   rw[qbC]
   refine⟨e.n,by rw[qc,h19.cell (k:=2) rfl];rfl,?_⟩
   rw[qg]
   constructor
   rotate_left
   ·intro hge
    have hge:(Ql e).length<=i:=by simp at hge;omega
    rw[List.drop_eq_nil_of_le hge]at hfo
    exact fin18 w19 st oa ua oc uc n9 LO LX LU Lt hfo om hn9 hSO hNO hSU hLU hNX hNt h19
   ·intro hlt
    have hlt:i<(Ql e).length:=by simp at hlt;omega
    have hdrop:(Ql e).drop i=(Ql e)[i]::(Ql e).drop (i+1):=List.drop_eq_getElem_cons hlt
    rw[hdrop,List.foldl_cons]at hfo
    have hbi:(Ql e)[i]=IntKind.wrap .u32 (e.a+IntKind.wrap .u32 (i:Int)):=by
     simp only[hbs,Mo.bytes,List.getElem_map,List.getElem_range]
     rfl
    generalize hb:(Ql e)[i]=b at hfo hbi
    rw[qfU]
    refine⟨e.a,by rw[qc,h19.cell (k:=2) rfl];rfl,?_⟩
    rw[<-hbi]
    refine qnd h19 (fun w' h'=>hS7.row fun y hy=>h'.has _ _ (by simp[hy])) (fun w' h'=>htab w' fun y hy=>h'.has _ _ (by simp[hy])) hl20 fun w20 ra rc Lr hSr hNr hrl h20=>⟨ra,_,rc,rfl,?_⟩
    have h21:St w0 w20 ((n9,Cs [.slice (some ⟨g,0,none⟩) (s.L++[e]).length cap,.slice ua st.2.length uc] 52)::fdB n8 n6 n4 [qy,qy] e [.slice la s.L.length lc,.slice ta s.Told.length tc] (Lr++(LO++(LX++(Lt++(L7++H)))))):=h20.perm (qK fun c=>by
     simp only[List.map_append,List.map_cons,List.map_nil,List.sum_append,List.sum_cons,List.sum_nil];omega)
    have hdrp:∀ {w':World} {a b:Value},St w0 w' ((n9,Cs [a,b] 52)::fdB n8 n6 n4 [qy,qy] e [.slice la s.L.length lc,.slice ta s.Told.length tc] (Lr++(LO++(LX++(Lt++(L7++H))))))->St w0 w' ((n9,Cs [a,b] 52)::fdB n8 n6 n4 [qy,qy] e [.slice la s.L.length lc,.slice ta s.Told.length tc] (LO++(LX++(Lt++(L7++H))))):=fun h'=>St.sub (L:=Lr) (h'.perm (qK fun c=>by
     simp only[List.map_append,List.map_cons,List.map_nil,List.sum_append,List.sum_cons,List.sum_nil];omega)) hNr
    refine⟨ta,_,tc,by rw[qc,h21.cell (k:=3) rfl];rfl,?_⟩
    refine qBF b h21 (fun w' h'=>hT.row fun y hy=>h'.has _ _ (by simp[hLT y hy])) om fun w22 h22=>⟨_,rfl,?_⟩
    have nx:∀ (w':World) (st':List Mo.qQ × List Int) (oa ua:Option Addr) (oc uc:Nat) (LO LX LU:qP),T b st=st'->st'.1.length<=i+1->st'.2.length<=s.Told.length+(i+1)->zC 11 108 (.slice oa st'.1.length oc) st'.1.length (qA st'.1) LO->zr w0 LO->
      zC 1 43 (.slice ua st'.2.length uc) st'.2.length (st'.2.map zt) LU->(∀ y∈LU,y∈LX++LT)->zr w0 LX->
      St w0 w' ((n9,Cs [.slice (some ⟨g,0,none⟩) (s.L++[e]).length cap,.slice ua st'.2.length uc] 52)::fdB n8 n6 n4 [qy,qy] e [.slice la s.L.length lc,.slice ta s.Told.length tc] (LO++(LX++(Lt++(L7++H)))))->
      q3i (Addr.mk n9 0 none) oa st'.1.length oc (Addr.mk n4 0 none) ga (s.L++[e]).length gc (some ⟨g,0,none⟩) (s.L++[e]).length cap (Addr.mk n6 0 none) (Addr.mk n8 0 none) none 0 0 0 i w' K (fun e' w'=>∃ m,m<(Ql e).length-i/\FdI w0 H T (Ql e) (q0j s e r) s.Told e n8 n6 n4 n9 [qy,qy] [.slice la s.L.length lc,.slice ta s.Told.length tc] (.slice (some ⟨g,0,none⟩) (s.L++[e]).length cap) (.slice ga (s.L++[e]).length gc) qy Lt L7 LT m e' w'):=fun w' st' oa ua oc uc LO LX LU hT' hl1 hl2 hSO hNO hSU hLU hNX h'=>by
     rw[qgX]
     refine⟨(Ql e).length-(i+1),by omega,i+1,st',oa,ua,oc,uc,LO,LX,LU,by omega,rfl,?_,by rw[<-hT'];exact hfo,hl1,hl2,hSO,hNO,hSU,hLU,hNX,h'⟩
     rw[qk om om];rfl
    have no:T b st=st->q2J false (Addr.mk n9 0 none) (Addr.mk n4 0 none) ga (s.L++[e]).length gc (some ⟨g,0,none⟩) (s.L++[e]).length cap (Addr.mk n6 0 none) (Addr.mk n8 0 none) none 0 0 0 i b ra (yS (s.L++[e]) (YS r (s.L++[e]).length) b).length rc oa st.1.length oc w22 K (fun e' w'=>∃ m,m<(Ql e).length-i/\FdI w0 H T (Ql e) (q0j s e r) s.Told e n8 n6 n4 n9 [qy,qy] [.slice la s.L.length lc,.slice ta s.Told.length tc] (.slice (some ⟨g,0,none⟩) (s.L++[e]).length cap) (.slice ga (s.L++[e]).length gc) qy Lt L7 LT m e' w'):=fun hT'=>by
     rw[q3E,qd]
     exact nx w22 st oa ua oc uc LO LX LU hT' om om hSO hNO hSU hLU hNX (hdrp h22)
    rw[qg]
    constructor
    ·intro hnt
     have hnt:b ∉ s.Told:=by simpa using hnt
     refine⟨_,fun wq _=>qZ _ _ _ Tryz.underlying39 3,?_⟩
     cases hrc:yS (s.L++[e]) (YS r (s.L++[e]).length) b with
     | nil=>
      have hT':T b st=st:=by simp only[T];rw[if_neg hnt,hrc];rfl
      have:=no hT'
      rw[hrc]at this
      exact this
     | cons x xs=>
      have hT':T b st=(st.1++[x],yj st.2 b):=by simp only[T];rw[if_neg hnt,hrc];rfl
      rw[hrc]at hSr hrl
      rw[show decide ((((x::xs).length:Nat):Int) > 0)=true by simp,q3E,qm]
      obtain⟨a,c,hac,hld⟩:=(hSr.row fun y hy=>h22.has _ _ (by simp[hy])).ldA (i:=0) (by simp)
      obtain⟨hsa,-⟩:ra=some a/\rc=c:=by simpa using hac
      subst hsa
      refine⟨by omega,by simp,hld _ ?_⟩
      rw[q47 (l:=x::xs) (i:=0) (by simp)]
      refine⟨⟨by simp[Value.cells,yO],trivial⟩,?_⟩
      rw[qtL]
      refine h22.newC fun n262 w23 hn262 h23=>?_
      obtain⟨g2,cap2,w24,LO2,hr24,hSO2,h24,hNO2⟩:=qID (A:=(n262,_)::(n9,_)::(n8,_)::(n6,_)::(n4,_)::Lr) h23 hSO hNO (j:=0) rfl om
      refine⟨_,_,_,w24,hr24,?_⟩
      have h25:St w0 w24 ((n9,Cs [.slice (some ⟨g,0,none⟩) (s.L++[e]).length cap,.slice ua st.2.length uc] 52)::fdB n8 n6 n4 [qy,qy] e [.slice la s.L.length lc,.slice ta s.Told.length tc] (Lr++(LO2++(LX++(Lt++(L7++H)))))):=St.tail (b:=n262) h24 hn262
      have h25:St w0 w24 ((n9,Cs [.slice (some ⟨g,0,none⟩) (s.L++[e]).length cap,.slice ua st.2.length uc] 52)::fdB n8 n6 n4 [qy,qy] e [.slice la s.L.length lc,.slice ta s.Told.length tc] (LO2++(LX++(Lt++(L7++H))))):=St.sub (L:=Lr) (h25.perm (qK fun c=>by
       simp only[List.map_append,List.map_cons,List.map_nil,List.sum_append,List.sum_cons,List.sum_nil];omega)) hNr
      refine⟨ua,_,uc,by rw[qc,h25.cell (k:=0) rfl];rfl,?_⟩
      refine qtr b h25 (fun w' h'=>hSU.row fun y hy=>h'.has _ _ (by have:=hLU y hy;simp only[List.mem_append]at this;exact this.elim (fun h=>by simp[h]) (fun h=>by simp[hLT y h]))) om fun w26 ua2 uc2 LU2 hSU2 hNU2 h26=>⟨_,_,_,rfl,?_⟩
      have h27:St w0 w26 ((n9,Cs [.slice (some ⟨g,0,none⟩) (s.L++[e]).length cap,.slice ua st.2.length uc] 52)::fdB n8 n6 n4 [qy,qy] e [.slice la s.L.length lc,.slice ta s.Told.length tc] (LO2++((LU2++LX)++(Lt++(L7++H))))):=h26.perm (qK fun c=>by
       simp only[List.map_append,List.map_cons,List.map_nil,List.sum_append,List.sum_cons,List.sum_nil];omega)
      refine h27.st1 (k:=0) rfl (by simp) rfl fun w28 h28=>?_
      have h28:St w0 w28 ((n9,Cs [.slice (some ⟨g,0,none⟩) (s.L++[e]).length cap,.slice ua2 (yj st.2 b).length uc2] 52)::fdB n8 n6 n4 [qy,qy] e [.slice la s.L.length lc,.slice ta s.Told.length tc] (LO2++((LU2++LX)++(Lt++(L7++H))))):=h28
      have hnl:=Jq st.2 b
      refine nx w28 (st.1++[x],yj st.2 b) _ ua2 _ uc2 LO2 (LU2++LX) LU2 hT' (by simp;omega) (by dsimp only;omega) hSO2 hNO2 hSU2 (fun y hy=>by simp[hy]) ?_ h28
      intro y hy
      rcases List.mem_append.1 hy with hy | hy
      ·exact hNU2 y hy
      ·exact hNX y hy
    ·intro hyt
     have hyt:b∈s.Told:=by simpa using hyt
     exact no (by simp only[T];rw[if_pos hyt])
end Go.Fx.Tryz
namespace Go.Fx.Mo
def Qw(e:Ev):Int:=if(e.kind=2\/e.kind=3\/e.kind=4\/e.kind=22\/e.kind=23)/\e.n > 0 then(if 1048576<e.n then 1048576 else e.n)else 0
def ZV:List Ev->Int
 | []=>0
 | e::r=>Qw e+ZV r
theorem Zx(e:Ev):0<=Qw e/\Qw e<=1048576:=by
 unfold Qw;split
 ·split<;>omega
 ·omega
theorem q2y:∀ l,0<=ZV l
 | []=>Int.le_refl _
 | e::r=>by have:=q2y r;have:=Zx e;unfold ZV;omega
theorem q88(e:Ev)(h:Qw e<=2000):(Qb e:Int)<=Qw e:=by
 have h0:=(Zx e).1
 unfold Qb
 split
 ·rename_i hi
  have hk:e.kind=2\/e.kind=3\/e.kind=4\/e.kind=22\/e.kind=23:=by
   unfold zl at hi
   split at hi
   ·omega
   ·split at hi
    ·omega
    ·split at hi
     ·omega
     ·cases hi
  unfold Qw at h ⊢
  by_cases hn:e.n > 0
  ·rw[if_pos ⟨hk,hn⟩]at h ⊢
   split at h
   ·omega
   ·rename_i hh;rw[if_neg hh];omega
  ·rw[if_neg (fun hh=>hn hh.2)];omega
 ·simpa using h0
end Go.Fx.Mo
namespace Go.Fx.Tryz
open Go Go.Fx Go.Fx.Mo
open Go.Proofs
variable {w0 w:World} {H:qP} {K:KT}
set_option maxRecDepth 20000
def qJj(w0:World)(H:qP)(l:List Ev)(sa:Option Addr)(sc:Nat)(m:Nat)(ee:ql)(w:World):Prop:=
 ∃ (i:Nat) (s:Int),i<=l.length/\m=l.length-i/\ee=ql.mk 30 [(8,(Value.int .i64 i)),(3,(Value.int .i64 s)),(6,(Value.slice sa l.length sc)),(2,(Value.int .i64 0)),(7,(Value.int .i64 l.length))] []/\
  s+ZV (l.drop i)=ZV l/\0<=s/\s<=(i:Int)*1048576/\St w0 w H
theorem qcO{l:List Ev}{ov:Value}(h:St w0 w H)(hrow:∀ w',St w0 w' H->Qt w' 6 ov l.length (zq l))(hl:l.length<=1000)(hK:∀ w',St w0 w' H->K (.int .i64 (ZV l)) w'):qa P 16 [ov] w K:=by
 obtain⟨sa,sc,hov⟩:=(hrow w h).form
 rw[hov]
 refine qFH _ _ _ _ _ ?_
 rw[qI7]
 refine⟨l.length,fun wq _=>yb wq,?_⟩
 refine⟨qJj w0 H l sa sc,⟨l.length,0,0,by omega,rfl,rfl,by simp,by omega,by omega,h⟩,?_⟩
 rintro m ee w ⟨i,s,hi,rfl,rfl,hs,hs0,hs1,hw⟩
 show qiD ..
 rw[qep,qg]
 constructor
 ·intro hlt
  have hlt:i<l.length:=by simpa using hlt
  rw[qoo]
  obtain⟨a,c,hac,hld⟩:=(hrow w hw).ldA hlt
  rw[hov]at hac
  obtain⟨hsa,-⟩:sa=some a/\sc=c:=by simpa using hac
  subst hsa
  refine⟨by omega,by omega,hld _ ?_⟩
  rw[QM hlt]
  obtain⟨ze,hze,hzel⟩:=z35
  rw[hze]
  refine hw.newC fun n14 w6 hn14 h6=>h6.stA (k:=0) rfl (by simp[qu]) (by simp[hzel]) (yr _) fun w7 h7=>?_
  have h7:St w0 w7 ((n14,Cs (qI ze 0 (qE l[i])) 45)::H):=h7
  rw[qB (by rw[qu,hzel])]at h7
  rw[List.drop_eq_getElem_cons hlt]at hs
  generalize hx:l[i]=x at h7 hs ⊢
  rw[show ZV (x::l.drop (i+1))=Qw x+ZV (l.drop (i+1)) from rfl]at hs
  have hr:=Zx x
  have fin:∀ v,v=s+Qw x->q4j v (some a) l.length sc 0 l.length i w7 K (fun e' w'=>∃ m,m<l.length-i/\qJj w0 H l (some a) sc m e' w'):=fun v hv=>by
   rw[qoC]
   refine⟨l.length-(i+1),by omega,i+1,v,by omega,rfl,?_,by omega,by omega,by omega,h7.tail hn14⟩
   rw[qk om om];rfl
  have s2:∀ b,(b=true↔(x.kind=2\/x.kind=3\/x.kind=4\/x.kind=22\/x.kind=23))->q0q b (some a) l.length sc 0 l.length i (Addr.mk n14 0 none) s w7 K (fun e' w'=>∃ m,m<l.length-i/\qJj w0 H l (some a) sc m e' w'):=by
   intro b hb
   have c5:w7.cell? ((Addr.mk n14 0 none).add 5)=some (qj x.n):=by rw[qc,h7.cell (k:=0) rfl];rfl
   rw[qnr,qg]
   refine⟨fun hbt=>⟨_,c5,?_⟩,fun hbf=>fin _ ?_⟩
   ·rw[qg]
    refine⟨fun hn=>⟨_,c5,_,w7,q9i _ _ _,fin _ ?_⟩,fun hn=>fin _ ?_⟩
    ·have hn:x.n > 0:=by simpa using hn
     have e1:Qw x=if 1048576<x.n then 1048576 else x.n:=by unfold Qw;rw[if_pos ⟨hb.1 hbt,hn⟩]
     rw[e1]at hr ⊢
     rw[qk om om]
    ·have hn:¬ x.n > 0:=by simpa using hn
     have:Qw x=0:=by unfold Qw;rw[if_neg (fun hh=>hn hh.2)]
     omega
   ·have:Qw x=0:=by unfold Qw;rw[if_neg (fun hh=>by rw[hb.2 hh.1]at hbf;cases hbf)]
    omega
  refine⟨x.kind,by rw[h7.cell (k:=0) rfl];rfl,?_⟩
  have no:∀ m:Int,(x.kind==m)=false->x.kind≠m:=fun m hm=>by simpa using hm
  have ye:∀ m:Int,(x.kind==m)=true->x.kind=m:=fun m hm=>by simpa using hm
  rw[qg]
  refine⟨fun h1=>s2 true ⟨fun _=>by have:=ye _ h1;omega,fun _=>rfl⟩,fun h1=>?_⟩
  rw[qg]
  refine⟨fun h2=>s2 true ⟨fun _=>by have:=ye _ h2;omega,fun _=>rfl⟩,fun h2=>?_⟩
  rw[qg]
  refine⟨fun h3=>s2 true ⟨fun _=>by have:=ye _ h3;omega,fun _=>rfl⟩,fun h3=>?_⟩
  rw[qg]
  refine⟨fun h4=>s2 true ⟨fun _=>by have:=ye _ h4;omega,fun _=>rfl⟩,fun h4=>s2 _ ⟨fun h5=>by have:=ye _ h5;omega,fun hh=>?_⟩⟩
  have:=no _ h1;have:=no _ h2;have:=no _ h3;have:=no _ h4
  have:x.kind=23:=by omega
  simpa using this
 ·intro hge
  have:i=l.length:=by simp at hge;omega
  subst this
  rw[List.drop_length]at hs
  have:s=ZV l:=by rw[show ZV []=0 from rfl]at hs;omega
  rw[qpV,this]
  exact hK w hw
theorem qss{l:List Ev}{ov:Value}(n:Int)(hn:n<=1000)(h:St w0 w H)(hrow:∀ w',St w0 w' H->Qt w' 6 ov l.length (zq l))(hK:∀ b w',(b=true->l.length<=n/\ZV l<=600)->St w0 w' H->K (.bool b) w'):qa P 6 [ov,.int .i64 n] w K:=by
 obtain⟨sa,sc,hov⟩:=(hrow w h).form
 rw[hov]
 refine qKm _ _ _ _ _ _ ?_
 rw[qL5]
 refine⟨l.length,fun wq _=>yb wq,?_⟩
 rw[qg]
 constructor
 ·intro hle
  have hle:(l.length:Int)<=n:=by simpa using hle
  rw[<-hov]
  refine qcO h hrow om fun w1 h1=>⟨_,rfl,?_⟩
  rw[qbW]
  exact hK _ w1 (fun hb=>⟨hle,by simpa using hb⟩) h1
 ·intro _
  rw[qbW]
  exact hK false w (fun hb=>by cases hb) h
end Go.Fx.Tryz
namespace Go.Fx.Tryz
set_option maxRecDepth 100000
open Go Go.Fx Go.Proofs
def c9:=qx Tryz.f9
def rs9:=Tryz.f9.results.toList
abbrev jr K:=qH P rs9 K
def f9 a w K:=CS P c9 none [2] [2] (jr K) (zh 65 [(VP a)]) w
def qE7 a w K:=SC c9 1 [2] [2] (jr K) 65 [(0,VP a)] w
abbrev qKB K:=kq c9 1 [2] [2] (jr K)
def qDV a b w K:=SC c9 3 [2] [2] (jr K) 65 [(2,VP a),(0,VP b)] w
abbrev qyg K:=kq c9 3 [2] [2] (jr K)
abbrev qK1 K:=kq c9 6 [2,0] [2] (qyg K)
def qle a b c w K:=SG c9 13 [2,0] [2] (qyg K) 65 [(15,VB a),(2,VP b),(0,VP c)] w
def qEn a b w K:=SG c9 7 [2] [2] (jr K) 65 [(2,VP a),(0,VP b)] w
abbrev qJY K:=kq c9 7 [2] [2] (jr K)
def qEg a b c d e f w K:=SC c9 15 [2] [2] (jr K) 65 [(3,VQ a),(18,Value.agg b),(17,VQ c),(16,VP d),(2,VP e),(0,VP f)] w
abbrev qKN K:=kq c9 15 [2] [2] (jr K)
def JF a b c w K:=SG c9 31 [2] [2] (jr K) 65 [(3,VQ a),(2,VP b),(0,VP c)] w
abbrev qL4 K:=kq c9 31 [2] [2] (jr K)
def qDM a b c d e w K:=SC c9 63 [2] [2] (jr K) 65 [(42,VQ a),(41,Value.map b),(3,VQ c),(2,VP d),(0,VP e)] w
abbrev qbx K:=kq c9 63 [2] [2] (jr K)
abbrev qKH K:=kq c9 126 [3] [2] (qbx K)
def qE1 a b c d e f g h i j w K:=SC c9 253 [3] [2] (qbx K) 65 [(47,VQ a),(46,Value.map b),(45,VQ c),(44,VQ d),(43,VP e),(42,VQ f),(41,Value.map g),(3,VQ h),(2,VP i),(0,VP j)] w
abbrev qyZ K:=qq 0 (qbx K)
def quB K Y8 e w:=zJ (fun e w=>CS P (cA c9 1012) none [3,47,2] [2,3] (qw [3,47,2] Y8 (qyZ K)) e w) e w
abbrev YK K Y8:=qw [3,47,2] Y8 (qyZ K)
def qgM a b c w K Y8:=SG c9 1012 [3,47,2] [2,3] (YK K Y8) 65 [(3,VQ a),(47,VQ b),(2,VP c)] w
abbrev qHk K Y8:=kq c9 1012 [3,47,2] [2,3] (YK K Y8)
def qDP a b c d w K Y8:=SC c9 2025 [3,47,2] [2,3] (YK K Y8) 65 [(49,VB false),(48,(Value.tuple #[(VB a)])),(3,VQ b),(47,VQ c),(2,VP d)] w
abbrev qxc K Y8:=kq c9 2025 [3,47,2] [2,3] (YK K Y8)
def qtU a w K:=SG c9 127 [2] [2] (jr K) 65 [(3,VQ a)] w
abbrev qJ7 K:=kq c9 127 [2] [2] (jr K)
theorem qlz:qtU c w K=(K (Value.pointer (some c)) w):=qV (qT [2] (qJ7 K) kr)
theorem qsR:qDP d c e f w K Y8=(qtU c w K):=Eq.trans (b:=CS P (cA c9 2025) none [3,47,2] [2,3] (YK K Y8) (ql.mk 65 [(49,(VB false)),(48,(Value.tuple #[(VB d)])),(3,(VP (some c))),(47,(VP (some e))),(2,(VP f))] []) w) kr (Eq.trans (zN [3,47,2] (qxc K Y8) kr) kr)
def quQ a b c d e f w K Y8:=SC c9 2025 [3,47,2] [2,3] (YK K Y8) 65 [(49,VB true),(48,(Value.tuple #[(VB a),b,c])),(3,VQ d),(47,VQ e),(2,VP f)] w
def qwX a b c w K Y8:=SG c9 4051 [3,47,2] [2,3] (YK K Y8) 65 [(3,VQ a),(47,VQ b),(2,VP c)] w
abbrev quf K Y8:=qq 1 (YK K Y8)
abbrev qGS K Y8:=kq c9 8102 [3,47,2] [2,3,47] (quf K Y8)
theorem qo1:qwX c d e w K Y8=(∃ (k85 i:Value) (f:World),(Instr.entry (Value.pointer (some d))).run P w=.ok (.tuple #[k85,i]) f/\∃ j:Int,k85=(.int .u32 j)/\∃ g:Option Addr,i=(.pointer g)/\qi g (fun u=>qf 25 u f (fun v=>qt (qn P 112) 112 f (fun h x=>qN 25 (Addr.mk h 0 none) v x (fun k=>qi g (fun y=>∃ (l:OA) (m n:Nat),k.cell? y=some (.slice l m n)/\qa P 44 [(Value.slice l m n)] k (fun z a0=>∃ (o:OA) (p q:Nat),z=(.slice o p q)/\zG (Addr.mk h 0 none) (Value.slice o p q) a0 (fun r=>∃ s:Option Nat,r.cell? (c.add 92)=some (.map s)/\∃ t:World,(Instr.mapUpdate 34 (Value.map s) (Value.int .u32 j) (Value.pointer (some (Addr.mk h 0 none)))).run P r=.ok () t/\Y8 (ql.mk 65 [(3,(Value.pointer (some c))),(47,(Value.pointer (some d))),(2,(Value.pointer e))] []) t)))))))):=qV (QJ 1 [2,3,47] (quf K Y8) (qT [3,47,2,4,5] (qGS K Y8) kr))
theorem qmK:quQ f g h c d e w K Y8=(qwX c d e w K Y8):=Eq.trans (b:=CS P (cA c9 2025) none [3,47,2] [2,3] (YK K Y8) (ql.mk 65 [(49,(VB true)),(48,(Value.tuple #[(VB f),g,h])),(3,(VP (some c))),(47,(VP (some d))),(2,(VP e))] []) w) kr (Eq.trans (zN [3,47,2] (qxc K Y8) kr) kr)
theorem q5T:qgM d c e w K Y8=((∃ f:World,(Instr.next (Value.pointer (some c)) false 0).run P w=.ok (.tuple #[.bool false]) f/\qDP false d c e f K Y8)\/∃ (k68 g:Value) (h:World),(Instr.next (Value.pointer (some c)) false 0).run P w=.ok (.tuple #[.bool true,k68,g]) h/\quQ true k68 g d c e h K Y8):=qV (qT [49,3,47,2] (qHk K Y8) kr)
theorem qsc:qE1 a e f g h i j c d k w K=(za (quB K) (ql.mk 65 [(3,(Value.pointer (some c))),(47,(Value.pointer (some a))),(2,(Value.pointer d))] []) w):=Eq.trans (b:=CS P (cA c9 253) none [3] [2] (qbx K) (ql.mk 65 [(47,(VP (some a))),(46,(Value.map e)),(45,(VP (some f))),(44,(VP (some g))),(43,(VP h)),(42,(VP (some i))),(41,(Value.map j)),(3,(VP (some c))),(2,(VP d)),(0,(VP k))] []) w) kr (Eq.trans (YD 0 [2,3] (qyZ K) kr) ((qY (b:=(cA c9 1012)) (X':=[2,3]) (H:=[3,47,2]) kr kr kr).trans kr))
theorem quu:qDM d e f g c w K=(qi c (fun h=>∃ i:Option Nat,w.cell? (h.add 92)=some (.map i)/\∃ (j:Nat) (k:World),(Instr.range 34 (Value.map i)).run P w=.ok (.pointer (some (Addr.mk j 0 none))) k/\qE1 (Addr.mk j 0 none) i (h.add 92) h c d e f g c k K)):=Eq.trans (b:=CS P (cA c9 63) none [2] [2] (jr K) (ql.mk 65 [(42,(VP (some d))),(41,(Value.map e)),(3,(VP (some f))),(2,(VP g)),(0,(VP c))] []) w) kr (Eq.trans (zN [3] (qbx K) kr) (Eq.trans (zN [3,47,2] (qKH K) kr) kr))
theorem qrm:JF c d e w K=(q4L (.map #[] 0) w (fun f g=>zG (c.add 92) (Value.map (some f)) g (fun h=>qDM (c.add 92) (some f) c d e h K))):=qV (qT [3,2,0] (qL4 K) kr)
theorem qu8:qEg c k l m e d w K=(qi d (fun v0=>qi d (fun h=>qi d (fun f=>∃ g:Option Nat,w.drew.cell? (v0.add 88)=some (.map g)/\(qa P 41 [(Value.map g)] w.drew (fun x0 i=>∃ n:Option Nat,x0=(.map n)/\∃ o:Option Nat,i.cell? (h.add 89)=some (.map o)/\(qa P 42 [(Value.map o)] i (fun y0 s=>∃ t:Option Nat,y0=(.map t)/\∃ u:Option Nat,s.cell? (f.add 93)=some (.map u)/\qa P 43 [(Value.map u)] s (fun z0 A0=>∃ v:Option Nat,z0=(.map v)/\zG (c.add 88) (Value.map n) A0 (fun B0=>zG (c.add 89) (Value.map t) B0 (fun C0=>zG (c.add 93) (Value.map v) C0 (fun D0=>JF c e d D0 K))))))/\(∃ x:Option Nat,i.cell? (f.add 93)=some (.map x)/\qa P 42 [(Value.map o)] i (fun E0 F0=>∃ y:Option Nat,E0=(.map y)/\qa P 43 [(Value.map x)] F0 (fun G0 H0=>∃ z:Option Nat,G0=(.map z)/\zG (c.add 88) (Value.map n) H0 (fun I0=>zG (c.add 89) (Value.map y) I0 (fun J0=>zG (c.add 93) (Value.map z) J0 (fun L0=>JF c e d L0 K))))))))/\(∃ j:Option Nat,w.drew.cell? (h.add 89)=some (.map j)/\(qa P 41 [(Value.map g)] w.drew (fun M0 p=>∃ q:Option Nat,M0=(.map q)/\(qa P 42 [(Value.map j)] p (fun N0 a0=>∃ b0:Option Nat,N0=(.map b0)/\∃ c0:Option Nat,a0.cell? (f.add 93)=some (.map c0)/\qa P 43 [(Value.map c0)] a0 (fun O0 Q0=>∃ d0:Option Nat,O0=(.map d0)/\zG (c.add 88) (Value.map q) Q0 (fun R0=>zG (c.add 89) (Value.map b0) R0 (fun S0=>zG (c.add 93) (Value.map d0) S0 (fun T0=>JF c e d T0 K))))))/\(∃ e0:Option Nat,p.cell? (f.add 93)=some (.map e0)/\qa P 42 [(Value.map j)] p (fun U0 V0=>∃ f0:Option Nat,U0=(.map f0)/\qa P 43 [(Value.map e0)] V0 (fun W0 X0=>∃ g0:Option Nat,W0=(.map g0)/\zG (c.add 88) (Value.map q) X0 (fun Y0=>zG (c.add 89) (Value.map f0) Y0 (fun Z0=>zG (c.add 93) (Value.map g0) Z0 (fun a1=>JF c e d a1 K))))))))/\(∃ h0:Option Nat,w.drew.cell? (f.add 93)=some (.map h0)/\qa P 41 [(Value.map g)] w.drew (fun b1 c1=>∃ i0:Option Nat,b1=(.map i0)/\qa P 42 [(Value.map j)] c1 (fun d1 e1=>∃ j0:Option Nat,d1=(.map j0)/\qa P 43 [(Value.map h0)] e1 (fun f1 g1=>∃ l0:Option Nat,f1=(.map l0)/\zG (c.add 88) (Value.map i0) g1 (fun h1=>zG (c.add 89) (Value.map j0) h1 (fun i1=>zG (c.add 93) (Value.map l0) i1 (fun j1=>JF c e d j1 K))))))))/\(∃ r:Option Nat,w.drew.cell? (f.add 93)=some (.map r)/\(qa P 41 [(Value.map g)] w.drew (fun l1 m0=>∃ n0:Option Nat,l1=(.map n0)/\∃ o0:Option Nat,m0.cell? (h.add 89)=some (.map o0)/\qa P 42 [(Value.map o0)] m0 (fun m1 n1=>∃ p0:Option Nat,m1=(.map p0)/\qa P 43 [(Value.map r)] n1 (fun o1 p1=>∃ q0:Option Nat,o1=(.map q0)/\zG (c.add 88) (Value.map n0) p1 (fun q1=>zG (c.add 89) (Value.map p0) q1 (fun r1=>zG (c.add 93) (Value.map q0) r1 (fun s1=>JF c e d s1 K)))))))/\(∃ r0:Option Nat,w.drew.cell? (h.add 89)=some (.map r0)/\qa P 41 [(Value.map g)] w.drew (fun t1 u1=>∃ s0:Option Nat,t1=(.map s0)/\qa P 42 [(Value.map r0)] u1 (fun v1 x1=>∃ t0:Option Nat,v1=(.map t0)/\qa P 43 [(Value.map r)] x1 (fun y1 z1=>∃ u0:Option Nat,y1=(.map u0)/\zG (c.add 88) (Value.map s0) z1 (fun A1=>zG (c.add 89) (Value.map t0) A1 (fun B1=>zG (c.add 93) (Value.map u0) B1 (fun C1=>JF c e d C1 K)))))))))))):=Eq.trans (b:=CS P (cA c9 15) none [2] [2] (jr K) (ql.mk 65 [(3,(VP (some c))),(18,(Value.agg k)),(17,(VP (some l))),(16,(VP m)),(2,(VP e)),(0,(VP d))] []) w) kr (Eq.trans (zN [3,2,0] (qKN K) kr) kr)
theorem qt4:qEn d c w K=(qi c (fun e=>qf 94 e w (fun f=>qt (qn P 37) 37 w (fun g h=>qN 94 (Addr.mk g 0 none) f h (fun i=>qEg (Addr.mk g 0 none) f e c d c i K))))):=qV (qT [3,2,0] (qJY K) kr)
theorem qbD:qle a c d w K=(qC a (K (Value.pointer none) w) (qEn c d w K)):=qV kr
theorem qaY:qDV d c w K=(qC c.isNone (qle true d c w K) (qi c (fun f=>∃ e:Bool,w.cell? (f.add 90)=some (.bool e)/\qle (!e) d c w K))):=Eq.trans (b:=CS P (cA c9 3) none [2] [2] (jr K) (ql.mk 65 [(2,(VP d)),(0,(VP c))] []) w) kr (Eq.trans (zN [2,0] (qyg K) kr) (Eq.trans (zN [15,2,0] (qK1 K) kr) kr))
theorem qa8:qE7 c w K=(qDV none c w K):=Eq.trans (b:=CS P (cA c9 1) none [2] [2] (jr K) (ql.mk 65 [(0,(VP c))] []) w) kr (Eq.trans (zN [2,0] (qKB K) kr) kr)
theorem qDJ:f9 a w K=(qE7 a w K):=kr
theorem qEe a w K(h:f9 a w K):qa P 9 [(Value.pointer a)] w K:=zj c9 Tryz.func9 h
def c44:=qx Tryz.f44
def qLi:=Tryz.f44.results.toList
abbrev qx8 K:=qH P qLi K
def f44 a b c w K:=CS P c44 none [2] [2] (qx8 K) (zh 8 [(VS a b c)]) w
def qsr a b c w K:=SG c44 7 [2] [2] (qx8 K) 8 [(0,VS a b c)] w
theorem qno:qsr a b c w K=(∃ (d:OA) (e f:Nat),∃ g:World,(Instr.buildSlice 109 0 ([]:List (Nat × Value)).toArray).run P w=.ok (.slice d e f) g/\∃ (h:OA) (i j:Nat),∃ k:World,(Builtin.append_ #[109,109] 109 #[(Value.slice d e f),(Value.slice a b c)]).run P g=.ok (.slice h i j) k/\K (Value.slice h i j) k):=kr
theorem qEJ:f44 a b c w K=(qC a.isNone (K (Value.slice none 0 0) w) (qsr a b c w K)):=kr
theorem qHb a b c w K(h:f44 a b c w K):qa P 44 [(Value.slice a b c)] w K:=zj c44 Tryz.func44 h
end Go.Fx.Tryz
namespace Go.Proofs
open Go.Shelf
set_option maxRecDepth 100000
def Tryz.clone69_ren:Go.Shelf.Ren:=⟨fun | 5=>41 | 7=>75 | n=>n,fun | 23=>30 | 25=>117 | 3=>27 | n=>n,fun n=>n⟩
theorem Tryz.clone69:Go.Proofs.SlLaysW.n5 Tryz.prog Tryz.clone69_ren:={
 mixed:=kr,
 f5:=⟨Tryz.f41.name,by decide,Tryz.func41.trans (congrArg some kr)⟩,
 f7:=Tryz.func75.trans (congrArg some kr),
 t4:=Tryz.underlying4,a4:=Tryz.isAgg4,z4:=Tryz.sizeOf4,v4:=Tryz.zeroValue4,
 t20:=Tryz.underlying20,a20:=Tryz.isAgg20,z20:=Tryz.sizeOf20,v20:=Tryz.zeroValue20,
 t23:=Tryz.underlying30,a23:=Tryz.isAgg30,z23:=Tryz.sizeOf30,v23:=Tryz.zeroValue30 }
def Tryz.clone70_ren:Go.Shelf.Ren:=⟨fun | 5=>42 | 7=>75 | n=>n,fun | 23=>31 | 25=>117 | 3=>3 | n=>n,fun n=>n⟩
theorem Tryz.clone70:Go.Proofs.SlLaysW.n5 Tryz.prog Tryz.clone70_ren:={
 mixed:=kr,
 f5:=⟨Tryz.f42.name,by decide,Tryz.func42.trans (congrArg some kr)⟩,
 f7:=Tryz.func75.trans (congrArg some kr),
 t4:=Tryz.underlying4,a4:=Tryz.isAgg4,z4:=Tryz.sizeOf4,v4:=Tryz.zeroValue4,
 t20:=Tryz.underlying20,a20:=Tryz.isAgg20,z20:=Tryz.sizeOf20,v20:=Tryz.zeroValue20,
 t23:=Tryz.underlying31,a23:=Tryz.isAgg31,z23:=Tryz.sizeOf31,v23:=Tryz.zeroValue31 }
def Tryz.clone71_ren:Go.Shelf.Ren:=⟨fun | 5=>43 | 7=>75 | n=>n,fun | 23=>35 | 25=>43 | 3=>4 | n=>n,fun n=>n⟩
theorem Tryz.clone71:Go.Proofs.SlLaysW.n5 Tryz.prog Tryz.clone71_ren:={
 mixed:=kr,
 f5:=⟨Tryz.f43.name,by decide,Tryz.func43.trans (congrArg some kr)⟩,
 f7:=Tryz.func75.trans (congrArg some kr),
 t4:=Tryz.underlying4,a4:=Tryz.isAgg4,z4:=Tryz.sizeOf4,v4:=Tryz.zeroValue4,
 t20:=Tryz.underlying20,a20:=Tryz.isAgg20,z20:=Tryz.sizeOf20,v20:=Tryz.zeroValue20,
 t23:=Tryz.underlying35,a23:=Tryz.isAgg35,z23:=Tryz.sizeOf35,v23:=Tryz.zeroValue35 }
end Go.Proofs
namespace Go.Fx.Tryz
open Go Go.Fx Go.Fx.Mo
open Go.Proofs
variable {w0 w:World} {H:qP} {K:KT}
set_option maxRecDepth 20000
theorem Yk{m clk:Nat}{es:Array MapEntry}(h:St w0 w H)(hm:(m,Obj.map es clk)∈H)(hK:∀ n w',w0.heap.size<=n->St w0 w' ((n,.map es clk)::H)->K (.map (some n)) w'):qa P 41 [.map (some m)] w K:=by
 refine Qi (AnyW.maps_Clone (P:=P) (ρ:=Tryz.clone69_ren) Tryz.clone69 m es clk w (h.has _ _ hm)) ?_
 rintro e w' ⟨rfl,rfl⟩
 exact⟨_,rfl,hK _ _ h.le (h.alloc _)⟩
theorem jO{m clk:Nat}{es:Array MapEntry}(h:St w0 w H)(hm:(m,Obj.map es clk)∈H)(hK:∀ n w',w0.heap.size<=n->St w0 w' ((n,.map es clk)::H)->K (.map (some n)) w'):qa P 42 [.map (some m)] w K:=by
 refine Qi (AnyW.maps_Clone (P:=P) (ρ:=Tryz.clone70_ren) Tryz.clone70 m es clk w (h.has _ _ hm)) ?_
 rintro e w' ⟨rfl,rfl⟩
 exact⟨_,rfl,hK _ _ h.le (h.alloc _)⟩
theorem qm1{m clk:Nat}{es:Array MapEntry}(h:St w0 w H)(hm:(m,Obj.map es clk)∈H)(hK:∀ n w',w0.heap.size<=n->St w0 w' ((n,.map es clk)::H)->K (.map (some n)) w'):qa P 43 [.map (some m)] w K:=by
 refine Qi (AnyW.maps_Clone (P:=P) (ρ:=Tryz.clone71_ren) Tryz.clone71 m es clk w (h.has _ _ hm)) ?_
 rintro e w' ⟨rfl,rfl⟩
 exact⟨_,rfl,hK _ _ h.le (h.alloc _)⟩
theorem qKs(w:World):(Instr.buildSlice 109 0 ([]:List (Nat × Value)).toArray).run P w=.ok (.slice (some ⟨w.heap.size,0,none⟩) 0 0) (w.alloc (.cells #[] 122 (0,0))):=kr
theorem qp6(l:List q2D):∀ v∈YR l,v.oneCell'=true:=by
 intro v hv
 obtain⟨x,hx,hv⟩:=List.mem_flatten.1 hv
 obtain⟨p,_,rfl⟩:=List.mem_map.1 hx
 simp[jx,qO]at hv
 rcases hv with rfl | rfl | rfl | rfl | rfl | rfl<;>rfl
theorem qfX{l:List q2D}{ov:Value}{L:qP}(h:St w0 w H)(hS:zC 6 122 ov l.length (YR l) L)(hL:∀ y∈L,y∈H)(hl:l.length<2000000000)
  (hK:∀ a c L' w',zC 6 122 (.slice a l.length c) l.length (YR l) L'->zr w0 L'->St w0 w' (L'++H)->K (.slice a l.length c) w'):qa P 44 [ov] w K:=by
 obtain⟨sa,sc,hov⟩:=hS.form
 rw[hov]
 refine qHb _ _ _ _ _ ?_
 rw[qEJ,qg]
 constructor
 ·intro hn
  have hn:sa=none:=by simpa using hn
  subst hn
  rcases hS.2 with⟨h1,h2,h3⟩ | ⟨g,cap,cur,hg,_⟩
  ·rw[hov]at h1
   have hz:l.length=0/\sc=0:=by simpa using h1
   have hl0:l=[]:=List.eq_nil_of_length_eq_zero hz.1
   subst hl0
   exact hK none 0 [] w (zC.nil 6 122) (zr.nil w0) h
  ·rw[hov]at hg;simp at hg
 ·intro _
  rw[qno,<-hov]
  refine⟨_,_,_,_,qKs w,?_⟩
  have h3:=h.alloc (.cells #[] 122 (0,0))
  have hn3:=h.le
  generalize w.heap.size=m at h3 hn3
  have h3:St w0 (w.alloc (.cells #[] 122 (0,0))) ([]++([(m,Cs [] 122)]++H)):=h3
  have hS0:zC 6 122 (.slice (some ⟨m,0,none⟩) 0 0) ([]:List q2D).length (YR []) [(m,Cs [] 122)]:=⟨rfl,.inr ⟨m,0,[],rfl,rfl,by simp,by simp[maxLen],rfl,rfl⟩⟩
  obtain⟨v',w',L',hr,hS',hs,hN'⟩:=St.appendN (P:=P) 109 109 122 Tryz.t122 (.agg #[qj 0,qj 0,.int .u32 0,.bool false,.bool false,qj 0]) 6 32 Tryz.underlying109 qlb rfl rfl rfl rfl om
   (A:=[]) (L:=[(m,Cs [] 122)]) (H:=H) (M:=L) h3 hS0 (by simpa [zr]using hn3) hS (fun y hy=>h3.has _ _ (by simp[hL y hy])) (qp6 _) (by simp[maxLen];omega) (by simp;omega)
  have hS':zC 6 122 v' l.length (YR l) L':=by simpa [YR]using hS'
  obtain⟨a,c,hv⟩:=hS'.form
  subst hv
  exact⟨a,_,c,w',hr,hK a c L' w' hS' hN' hs⟩
theorem q5Z{α β:Type}{f:α->β}:∀ {m:List β} {l:List α},(l.map f).Perm m->∃ l':List α,l'.Perm l/\l'.map f=m
 | [],l,h=>by
  have:l=[]:=by simpa using h.length_eq
  subst this
  exact⟨[],.refl _,rfl⟩
 | b::m,l,h=>by
  obtain⟨a,ha,rfl⟩:=List.mem_map.1 (h.mem_iff.2 (List.mem_cons_self ..))
  obtain⟨l1,l2,rfl⟩:=List.append_of_mem ha
  have h2:((l1++l2).map f).Perm m:=by
   have h3:((l1++a::l2).map f).Perm (f a::(l1++l2).map f):=by
    rw[List.map_append,List.map_cons,List.map_append]
    exact List.perm_middle
   exact List.Perm.cons_inv (h3.symm.trans h)
  obtain⟨l',h4,h5⟩:=q5Z h2
  exact⟨a::l',(h4.cons a).trans List.perm_middle.symm,by rw[List.map_cons,h5]⟩
def thB(T:Th):List Value:=T.clocks.flatten.map qj++(T.begun.map .bool++(T.ended.map .bool++T.rels.map qj))
theorem q2T(T:Th)(ob nb:Nat):qU T ob nb=thB T++[.map (some ob),.map (some nb)]:=by simp[qU,thB]
theorem qiU{T:Th}(h:vr T):(thB T).length=88:=by
 have:=yu (ob:=0) (nb:=0) h
 rw[q2T,List.length_append]at this
 simpa using this
theorem qq7{T:Th}(hT:vr T){ob nb cb lb a b c d:Nat}(x:Int) :
  ((((qU T ob nb++[.bool true,qj x,.map (some cb),.map (some lb)]).set 88 (.map (some a))).set 89 (.map (some b))).set 93 (.map (some c))).set 92 (.map (some d))=qU T a b++[.bool true,qj x,.map (some d),.map (some c)]:=by
 have hl:=qiU hT
 rw[q2T,q2T,List.append_assoc,List.append_assoc,List.set_append_right _ _ om,List.set_append_right _ _ om,List.set_append_right _ _ om,List.set_append_right _ _ om,hl]
 rfl
theorem qsv{T:Th}{ob nb:Nat}:∀ v∈qU T ob nb,v.oneCell'=true:=by
 intro v hv
 simp only[qU,List.mem_append,List.mem_map]at hv
 rcases hv with⟨_,_,rfl⟩ | ⟨_,_,rfl⟩ | ⟨_,_,rfl⟩ | ⟨_,_,rfl⟩ | hv
 ·rfl
 ·rfl
 ·rfl
 ·rfl
 ·simp at hv
  rcases hv with rfl | rfl<;>rfl
theorem qLJ:∃ cs:List Value,qn P 37=cs.toArray/\cs.length=94:=⟨_,rfl,by kernel_rfl⟩
theorem qL2:∃ cs:List Value,qn P 112=cs.toArray/\cs.length=25:=⟨_,rfl,by kernel_rfl⟩
theorem Zd{x:CB}(hx:x.c.last.length=24):(yn x).length=25:=by simp[yn,hx]
theorem qgH{x:CB}(hx:Ye w0 x):∀ v∈yn x,v.oneCell'=true:=by
 intro v hv
 obtain⟨a,c,e⟩:=hx.sl.form
 rcases List.mem_cons.1 hv with rfl | hv
 ·rw[e];rfl
 ·obtain⟨_,_,rfl⟩:=List.mem_map.1 hv;rfl
abbrev cpH(D:DB)(n8 n32 a b c:Nat)(es':Array MapEntry)(c':Nat):List (Nat × Obj):=
 (n32,.map es' c')::(n8,Cs (qU D.d.th a b++[.bool true,qj D.d.many,.map (some n32),.map (some c)]) 37)::(c,.map D.es6 D.c6)::(b,.map D.es4 D.c4)::[(a,.map D.es3 D.c3)]
def CpJ(w0:World)(D:DB)(H:qP)(it n8 n32 a b c:Nat)(vis:List MapEntry)(seen:Array Nat)(w:World):Prop:=
 ∃ (ms cs' rest:List CB) (es':Array MapEntry) (c':Nat),vis.map (fun e=>(e.key,e.val))=ms.map (fun x=>(zt x.byte,ptr x.addr))/\D.cs.Perm (ms++rest)/\zI cs'=zI ms/\(∀ x∈cs',Ye w0 x)/\MapIs zt es' c' (zY cs')/\
  St w0 w ((it,.mapIter (some D.cb) D.c5 seen D.c5)::(cpH D n8 n32 a b c es' c'++(zv cs'++(zg D++H))))
theorem qeV{D:DB}(hD:jz w0 D){it n8 n32 a b c:Nat}(hit:w0.heap.size<=it)(hn:w0.heap.size<=n8/\w0.heap.size<=a/\w0.heap.size<=b/\w0.heap.size<=n32/\w0.heap.size<=c)
  (h:St w0 w ((it,.mapIter (some D.cb) D.c5 #[] D.c5)::(cpH D n8 n32 a b c #[] 0++(zg D++H))))
  (hK:∀ w' D',D'.d=D.d->jz w0 D'->D'.db=n8->St w0 w' (zg D'++(zg D++H))->K (ptr n8) w') :
  za (quB K) (ql.mk 65 [(3,ptr n8),(47,ptr it),(2,(Value.pointer none))] []) w:=by
 refine Jd (es:=D.es5) (CpJ w0 D H it n8 n32 a b c) ⟨[],[],D.cs,#[],0,rfl,.refl _,rfl,by simp,⟨⟨by simp,by simp,by simp⟩,.refl _⟩,h⟩ ?_ ?_
 ·rintro vis seen w1 hv ⟨ms,cs',rest,es',c',hk,hp,hcd,hok,hmi,hw⟩ Y
  show qgM ..
  rw[q5T]
  have hcb:(D.cb,Obj.map D.es5 D.c5)∈(it,Obj.mapIter (some D.cb) D.c5 seen D.c5)::(cpH D n8 n32 a b c es' c'++(zv cs'++(zg D++H))):=by simp[zg]
  refine .inl ⟨w1,Qd (hw.get (k:=0) rfl) (hw.has _ _ hcb) hD.m5.st hv.over,?_⟩
  rw[qsR,qlz]
  have hrest:rest=[]:=by
   have h1:=hv.perm.length_eq
   have h2:=congrArg List.length hk
   have h3:=hp.length_eq
   have h4:=hD.m5.perm.length_eq
   simp[zY]at h1 h2 h3 h4
   exact List.eq_nil_of_length_eq_zero om
  subst hrest
  rw[List.append_nil]at hp
  have hcp:(cs'.map fun x=>(x.byte,x.c)).Perm (zI D.cs):=by
   have e:zI cs'=cs'.map fun x=>(x.byte,x.c):=rfl
   rw[<-e,hcd]
   exact(hp.map _).symm
  obtain⟨cs2,hp2,hc2⟩:=q5Z hcp
  have hc2:zI cs2=zI D.cs:=hc2
  refine hK w1 ⟨n8,a,b,n32,c,D.es3,D.c3,D.es4,D.c4,es',c',D.es6,D.c6,D.d,cs2⟩ rfl ?_ rfl ?_
  ·refine⟨hD.th,hD.m3,hD.m4,hmi.of_perm (hp2.symm.map _),hD.m6,by rw[hD.cells,hc2],fun x hx=>⟨hok x (hp2.mem_iff.1 hx),?_⟩,hD.many,hn⟩
   have:(x.byte,x.c)∈zI D.cs:=by rw[<-hc2];exact List.mem_map.2 ⟨x,hx,rfl⟩
   obtain⟨y,hy,he⟩:=List.mem_map.1 this
   have hc:y.c=x.c:=congrArg (·.2) he
   rw[<-hc]
   exact(hD.each y hy).2
  ·have hpc:(zv cs2).Perm (zv cs'):=hp2.flatMap_right _
   have h1:=hw.tail hit
   refine h1.perm (List.Perm.trans ?_ ((List.Perm.append_right (zg D++H) (List.Perm.append_left [(n8,Cs (qU D.d.th a b++[.bool true,qj D.d.many,.map (some n32),.map (some c)]) 37),(a,.map D.es3 D.c3),(b,.map D.es4 D.c4),(n32,.map es' c'),(c,.map D.es6 D.c6)] hpc)).symm))
   refine qK fun c=>?_
   simp only[List.map_append,List.map_cons,List.map_nil,List.sum_append,List.sum_cons,List.sum_nil]
   omega
 ·rintro vis rem seen w1 hr hv ⟨ms,cs',rest,es',c',hk,hp,hcd,hok,hmi,hw⟩ Y hY
  show qgM ..
  rw[q5T]
  have hcbm:∀ {o:Obj},(D.cb,Obj.map D.es5 D.c5)∈(it,o)::(cpH D n8 n32 a b c es' c'++(zv cs'++(zg D++H))):=by simp[zg]
  obtain⟨e,w2,he,hnb,hw2,hk2,hrun⟩:=jZ (P:=P) (hw.get (k:=0) rfl) (hw.has _ _ hcbm) hD.m5.st (hv.more hD.m5.st hr)
  have h3:St w0 (w2.putObj it (.mapIter (some D.cb) D.c5 (seen.push e.born) D.c5)) ((it,.mapIter (some D.cb) D.c5 (seen.push e.born) D.c5)::(cpH D n8 n32 a b c es' c'++(zv cs'++(zg D++H)))):=(hw.same hw2 hk2).put (k:=0) rfl _
  have hm:(e.key,e.val)∈(zY D.cs).map fun p=>(zt p.1,p.2):=hD.m5.perm.mem_iff.1 (List.mem_map.2 ⟨e,he,rfl⟩)
  obtain⟨q,hq,hqe⟩:=List.mem_map.1 hm
  obtain⟨x,hx,rfl⟩:=List.mem_map.1 hq
  have hek:e.key=zt x.byte:=(congrArg (·.1) hqe).symm
  have hev:e.val=ptr x.addr:=(congrArg (·.2) hqe).symm
  have hfresh:∀ y∈ms,y.byte≠x.byte:=by
   intro y hy hbe
   have h1:e∈rem:=by
    rcases List.mem_append.1 (hv.perm.mem_iff.1 he)with h | h
    ·exact absurd (by rw[hv.seen];exact List.mem_map.2 ⟨e,h,rfl⟩) hnb
    ·exact h
   have h2:((vis++rem).map (·.key)).Nodup:=(hv.perm.map _).nodup_iff.1 hD.m5.st.2.2
   rw[List.map_append,List.nodup_append]at h2
   have h4:(zt y.byte,ptr y.addr)∈vis.map fun e=>(e.key,e.val):=by rw[hk];exact List.mem_map.2 ⟨y,hy,rfl⟩
   obtain⟨e2,he2,h5⟩:=List.mem_map.1 h4
   refine h2.2.2 e2.key (List.mem_map.2 ⟨e2,he2,rfl⟩) e.key (List.mem_map.2 ⟨e,h1,rfl⟩) ?_
   rw[hek,<-hbe]
   exact congrArg (·.1) h5
  have hxr:x∈rest:=by
   rcases List.mem_append.1 (hp.mem_iff.1 hx)with h | h
   ·exact absurd rfl (hfresh x h)
   ·exact h
  obtain⟨r1,r2,rfl⟩:=List.append_of_mem hxr
  obtain⟨hxo,hxl⟩:=hD.each x hx
  have hmany:=hD.many
  have hxh:∀ y∈cbH x,y∈zg D++H:=fun y hy=>List.mem_append_left _ (by
   unfold zg
   refine .tail _ (.tail _ (.tail _ (.tail _ (.tail _ ?_))))
   exact List.mem_flatMap.2 ⟨x,hx,hy⟩)
  have hin:∀ {w':World} {Z:qP},St w0 w' (Z++((it,.mapIter (some D.cb) D.c5 (seen.push e.born) D.c5)::(cpH D n8 n32 a b c es' c'++(zv cs'++(zg D++H)))))->w'.heap[x.addr]?=some (Cs (yn x) 112):=fun h'=>h'.has _ _ (List.mem_append_right _ (.tail _ (List.mem_append_right _ (List.mem_append_right _ (hxh _ (.head _))))))
  refine .inr ⟨_,_,_,hrun,?_⟩
  rw[qmK,qo1]
  refine⟨e.key,e.val,_,VY (h3.get (k:=0) rfl) (h3.has _ _ hcbm) (by simp) (Jb hD.m5.st he),x.byte,hek,some (Addr.mk x.addr 0 none),hev,?_⟩
  refine jU (hin (Z:=[]) h3) (by rw[Zd hxo.last];omega) ?_
  rw[List.drop_zero,List.take_of_length_le (by rw[Zd hxo.last];omega)]
  obtain⟨zc,hzc,hzl⟩:=qL2
  rw[hzc]
  refine h3.newC fun n w4 hnn h4=>h4.stA (k:=0) rfl (by simp[Zd hxo.last]) (by simp[hzl]) (qgH hxo) fun w5 h5=>?_
  have h5:St w0 w5 ((n,Cs (qI zc 0 (yn x)) 112)::((it,.mapIter (some D.cb) D.c5 (seen.push e.born) D.c5)::(cpH D n8 n32 a b c es' c'++(zv cs'++(zg D++H))))):=h5
  rw[qB (by rw[Zd hxo.last,hzl])]at h5
  obtain⟨oa,oc,hov⟩:=hxo.sl.form
  refine⟨oa,_,oc,by rw[qv (hin (Z:=[(n,Cs (yn x) 112)]) h5)];show some x.ov=_;rw[hov],?_⟩
  rw[<-hov]
  refine qfX h5 hxo.sl (fun y hy=>.tail _ (.tail _ (List.mem_append_right _ (List.mem_append_right _ (hxh _ (.tail _ hy)))))) om fun a2 c2 L' w6 hS' hN' h6=>⟨a2,_,c2,rfl,?_⟩
  have h6:St w0 w6 ((n,Cs (yn x) 112)::(L'++((it,.mapIter (some D.cb) D.c5 (seen.push e.born) D.c5)::(cpH D n8 n32 a b c es' c'++(zv cs'++(zg D++H)))))):=h6.perm List.perm_middle
  refine h6.st1 (k:=0) rfl (by rw[Zd hxo.last];omega) rfl fun w7 h7=>?_
  have hl8:=yu (ob:=a) (nb:=b) hD.th
  have hn8:∀ {o:Obj},(n8,Cs (qU D.d.th a b++[.bool true,qj D.d.many,.map (some n32),.map (some c)]) 37)∈(n,o)::(L'++((it,.mapIter (some D.cb) D.c5 (seen.push e.born) D.c5)::(cpH D n8 n32 a b c es' c'++(zv cs'++(zg D++H))))):=by simp
  refine⟨some n32,?_,?_⟩
  ·rw[qc,Nat.zero_add,qv (h7.has _ _ hn8),List.getElem?_append_right om,hl8];rfl
  have hn32:w7.heap[n32]?=some (.map es' c'):=h7.has _ _ (by simp)
  obtain⟨es2,c3,hru,hmi2⟩:=hmi.update qvu jV (w:=w7) (b:=n32) hn32 x.byte (ptr n)
  refine⟨_,hru,hY e _ he hnb ?_⟩
  have hlk:jK (zY cs') x.byte=none:=by
   rw[q3z]
   intro p hp'
   obtain⟨y,hy,rfl⟩:=List.mem_map.1 hp'
   have:(y.byte,y.c)∈zI ms:=by rw[<-hcd];exact List.mem_map.2 ⟨y,hy,rfl⟩
   obtain⟨y2,hy2,he2⟩:=List.mem_map.1 this
   have:y2.byte=y.byte:=congrArg (·.1) he2
   show y.byte≠x.byte
   rw[<-this]
   exact hfresh y2 hy2
  have hpm:q7I (zY cs') x.byte (ptr n)=zY (cs'++[⟨x.byte,n,.slice a2 x.c.l.length c2,x.c,L'⟩]):=by
   unfold q7I
   rw[hlk]
   simp[zY]
  rw[hpm]at hmi2
  have h8:=h7.perm (H':=(n32,.map es' c')::((n,Cs ((yn x).set 0 (.slice a2 x.c.l.length c2)) 112)::(L'++((it,.mapIter (some D.cb) D.c5 (seen.push e.born) D.c5)::(n8,Cs (qU D.d.th a b++[.bool true,qj D.d.many,.map (some n32),.map (some c)]) 37)::(c,.map D.es6 D.c6)::(b,.map D.es4 D.c4)::(a,.map D.es3 D.c3)::(zv cs'++(zg D++H)))))) (qK fun c=>by
    simp only[List.map_append,List.map_cons,List.map_nil,List.sum_append,List.sum_cons,List.sum_nil,List.set_cons_zero];omega)
  have h9:=h8.put (k:=0) rfl (.map es2 c3)
  refine⟨ms++[x],cs'++[⟨x.byte,n,.slice a2 x.c.l.length c2,x.c,L'⟩],r1++r2,es2,c3,?_,?_,?_,fun y hy=>?_,hmi2,?_⟩
  ·rw[List.map_append,List.map_append,hk];simp[hek,hev]
  ·refine hp.trans ?_
   rw[List.append_assoc]
   exact List.Perm.append_left ms List.perm_middle
  ·have e1:zI (cs'++[⟨x.byte,n,.slice a2 x.c.l.length c2,x.c,L'⟩])=zI cs'++[(x.byte,x.c)]:=by simp[zI]
   have e2:zI (ms++[x])=zI ms++[(x.byte,x.c)]:=by simp[zI]
   rw[e1,e2,hcd]
  ·rcases List.mem_append.1 hy with hy | hy
   ·exact hok y hy
   ·rw[List.mem_singleton.1 hy]
    exact⟨hS',hN',hxo.last,hnn,hxo.th⟩
  ·refine h9.perm (qK fun c=>?_)
   have e1:zv (cs'++[⟨x.byte,n,.slice a2 x.c.l.length c2,x.c,L'⟩])=zv cs'++((n,Cs ((yn x).set 0 (.slice a2 x.c.l.length c2)) 112)::L'):=by
    simp[zv,cbH,yn]
   rw[e1]
   simp only[List.map_append,List.map_cons,List.map_nil,List.sum_append,List.sum_cons,List.sum_nil,List.set_cons_zero]
   omega
theorem qbd{D:DB}(h:St w0 w (zg D++H))(hD:jz w0 D)(hK:∀ w' D',D'.d=D.d->jz w0 D'->St w0 w' (zg D'++(zg D++H))->K (ptr D'.db) w'):qa P 9 [ptr D.db] w K:=by
 have hT:=hD.th
 have hlen:=yu (ob:=D.tob) (nb:=D.tnb) hT
 have hB:=qiU hT
 have hmem:(D.db,Cs (qU D.d.th D.tob D.tnb++zp D) 37)∈zg D++H:=List.mem_append_left _ (.head _)
 refine qEe _ _ _ ?_
 rw[qDJ,qa8,qaY,Option.isNone_some,qd]
 refine⟨true,?_,?_⟩
 ·rw[qc,Nat.zero_add,qv (h.has _ _ hmem),List.getElem?_append_right om,hlen];rfl
 rw[Bool.not_true,qbD,qd,qt4]
 have hl94:(qU D.d.th D.tob D.tnb++zp D).length=94:=by rw[List.length_append,hlen];rfl
 refine jU (h.has _ _ hmem) (by rw[hl94];omega) ?_
 rw[List.drop_zero,List.take_of_length_le (by rw[hl94];omega)]
 obtain⟨zc,hzc,hzl⟩:=qLJ
 rw[hzc]
 refine h.newC fun n8 w1 hn8 h1=>h1.stA (k:=0) rfl (by rw[List.size_toArray,hl94]) (by rw[List.toList_toArray];omega) (fun v hv=>?_) fun w2 h2=>?_
 ·rcases List.mem_append.1 (show v∈qU D.d.th D.tob D.tnb++zp D by simpa using hv)with hv | hv
  ·exact qsv v hv
  ·simp[zp]at hv
   rcases hv with rfl | rfl | rfl | rfl<;>rfl
 have h2:St w0 w2 ((n8,Cs (qI zc 0 (qU D.d.th D.tob D.tnb++zp D)) 37)::(zg D++H)):=h2
 rw[qB (by rw[hl94,hzl])]at h2
 have hdet:∀ {w':World} {Z:qP} {o:Obj},St w0 w' (Z++((n8,o)::(zg D++H)))->w'.cell? ((Addr.mk D.db 0 none).add 88)=some (.map (some D.tob))/\w'.cell? ((Addr.mk D.db 0 none).add 89)=some (.map (some D.tnb))/\w'.cell? ((Addr.mk D.db 0 none).add 93)=some (.map (some D.lb))/\w'.cell? ((Addr.mk D.db 0 none).add 92)=some (.map (some D.cb)):=by
  intro w' Z o h'
  have hb:=h'.has D.db (Cs (qU D.d.th D.tob D.tnb++zp D) 37) (List.mem_append_right _ (.tail _ hmem))
  have hx:∀ i,w'.cell? ((Addr.mk D.db 0 none).add (88+i))=([.map (some D.tob),.map (some D.tnb)]++zp D)[i]?:=fun i=>by
   rw[qc,Nat.zero_add,qv hb,q2T,List.append_assoc,List.getElem?_append_right om,hB,show 88+i-88=i by omega]
  exact⟨hx 0,hx 1,hx 5,hx 4⟩
 have hmo:∀ {Z:qP} {o:Obj},(D.tob,Obj.map D.es3 D.c3)∈Z++((n8,o)::(zg D++H))/\(D.tnb,Obj.map D.es4 D.c4)∈Z++((n8,o)::(zg D++H))/\(D.lb,Obj.map D.es6 D.c6)∈Z++((n8,o)::(zg D++H)):=by
  intro Z o;simp[zg]
 rw[qu8]
 have fin:∀ w3 a b c,w0.heap.size<=a->w0.heap.size<=b->w0.heap.size<=c->St w0 w3 ((c,.map D.es6 D.c6)::(b,.map D.es4 D.c4)::(a,.map D.es3 D.c3)::(n8,Cs (qU D.d.th D.tob D.tnb++zp D) 37)::(zg D++H))->
   zG ((Addr.mk n8 0 none).add 88) (Value.map (some a)) w3 (fun w4=>zG ((Addr.mk n8 0 none).add 89) (Value.map (some b)) w4 (fun w5=>zG ((Addr.mk n8 0 none).add 93) (Value.map (some c)) w5 (fun w6=>JF (Addr.mk n8 0 none) none (some (Addr.mk D.db 0 none)) w6 K))):=by
  intro w3 a b c ha hb hc h3
  simp only[qc,Nat.zero_add]
  refine h3.st1 (k:=3) rfl (by rw[hl94];omega) rfl fun w4 h4=>h4.st1 (k:=3) rfl (by rw[List.length_set,hl94];omega) rfl fun w5 h5=>h5.st1 (k:=3) rfl (by rw[List.length_set,List.length_set,hl94];omega) rfl fun w6 h6=>?_
  rw[qrm]
  refine h6.newO fun n32 w7 hn32 h7=>?_
  rw[qc,Nat.zero_add]
  refine h7.st1 (k:=4) rfl (by rw[List.length_set,List.length_set,List.length_set,hl94];omega) rfl fun w8 h8=>?_
  have h8:St w0 w8 ((n32,.map #[] 0)::(c,.map D.es6 D.c6)::(b,.map D.es4 D.c4)::(a,.map D.es3 D.c3)::(n8,Cs (((((qU D.d.th D.tob D.tnb++zp D).set 88 (.map (some a))).set 89 (.map (some b))).set 93 (.map (some c))).set 92 (.map (some n32))) 37)::(zg D++H)):=h8
  have hcs:=qq7 hT (ob:=D.tob) (nb:=D.tnb) (cb:=D.cb) (lb:=D.lb) (a:=a) (b:=b) (c:=c) (d:=n32) D.d.many
  have hr:zp D=[.bool true,qj D.d.many,.map (some D.cb),.map (some D.lb)]:=rfl
  rw[hr,hcs]at h8
  rw[quu]
  have hcbm:(D.cb,Obj.map D.es5 D.c5)∈(n32,Obj.map #[] 0)::(c,Obj.map D.es6 D.c6)::(b,Obj.map D.es4 D.c4)::(a,Obj.map D.es3 D.c3)::(n8,Cs (qU D.d.th a b++[.bool true,qj D.d.many,.map (some n32),.map (some c)]) 37)::(zg D++H):=by simp[zg]
  refine⟨some D.cb,(hdet (Z:=[(n32,.map #[] 0),(c,.map D.es6 D.c6),(b,.map D.es4 D.c4),(a,.map D.es3 D.c3)]) h8).2.2.2,w8.heap.size,_,Jr jV (h8.has _ _ hcbm),?_⟩
  have hit:=h8.le
  have h9:=h8.alloc (.mapIter (some D.cb) D.c5 #[] D.c5)
  generalize w8.heap.size=it at hit h9
  rw[qsc]
  refine qeV (H:=H) hD hit ⟨hn8,ha,hb,hn32,hc⟩ (h9.perm ?_) fun w9 D' hd hok hdb h10=>?_
  ·refine qK fun c=>?_
   simp only[List.map_append,List.map_cons,List.map_nil,List.sum_append,List.sum_cons,List.sum_nil]
   omega
  ·have:=hK w9 D' hd hok h10
   rw[hdb]at this
   exact this
 have hd:=h2.drew
 have d0:=hdet (Z:=[]) hd
 have m0:=hmo (Z:=[]) (o:=Cs (qU D.d.th D.tob D.tnb++zp D) 37)
 have c71:∀ w4 a b,w0.heap.size<=a->w0.heap.size<=b->St w0 w4 ((b,.map D.es4 D.c4)::(a,.map D.es3 D.c3)::(n8,Cs (qU D.d.th D.tob D.tnb++zp D) 37)::(zg D++H))->
   qa P 43 [.map (some D.lb)] w4 (fun r w5=>∃ m:Option Nat,r=Value.map m/\zG ((Addr.mk n8 0 none).add 88) (Value.map (some a)) w5 (fun w6=>zG ((Addr.mk n8 0 none).add 89) (Value.map (some b)) w6 (fun w7=>zG ((Addr.mk n8 0 none).add 93) (Value.map m) w7 (fun w8=>JF (Addr.mk n8 0 none) none (some (Addr.mk D.db 0 none)) w8 K)))):=fun w4 a b ha hb h4=>
  qm1 h4 (hmo (Z:=[(b,.map D.es4 D.c4),(a,.map D.es3 D.c3)])).2.2 fun c w5 hc h5=>⟨_,rfl,fin w5 a b c ha hb hc h5⟩
 have e4:∀ {w4:World} {a b:Nat},St w0 w4 ((b,.map D.es4 D.c4)::(a,.map D.es3 D.c3)::(n8,Cs (qU D.d.th D.tob D.tnb++zp D) 37)::(zg D++H))->w4.cell? ((Addr.mk D.db 0 none).add 93)=some (.map (some D.lb)):=fun {w4 a b} h4=>(hdet (Z:=[(b,.map D.es4 D.c4),(a,.map D.es3 D.c3)]) h4).2.2.1
 have e3:∀ {w4:World} {a:Nat},St w0 w4 ((a,.map D.es3 D.c3)::(n8,Cs (qU D.d.th D.tob D.tnb++zp D) 37)::(zg D++H))->w4.cell? ((Addr.mk D.db 0 none).add 89)=some (.map (some D.tnb))/\w4.cell? ((Addr.mk D.db 0 none).add 93)=some (.map (some D.lb)):=fun {w4 a} h4=>⟨(hdet (Z:=[(a,.map D.es3 D.c3)]) h4).2.1,(hdet (Z:=[(a,.map D.es3 D.c3)]) h4).2.2.1⟩
 have m4:∀ {a:Nat},(D.tnb,Obj.map D.es4 D.c4)∈(a,Obj.map D.es3 D.c3)::(n8,Cs (qU D.d.th D.tob D.tnb++zp D) 37)::(zg D++H):=fun {a}=>(hmo (Z:=[(a,.map D.es3 D.c3)])).2.1
 refine⟨_,d0.1,?_,⟨_,d0.2.1,?_,_,d0.2.2.1,?_⟩,_,d0.2.2.1,?_,_,d0.2.1,?_⟩
 ·exact Yk hd m0.1 fun a w3 ha h3=>⟨_,rfl,_,(e3 h3).1,jO h3 m4 fun b w4 hb h4=>⟨_,rfl,_,e4 h4,c71 w4 a b ha hb h4⟩,_,(e3 h3).2,jO h3 m4 fun b w4 hb h4=>⟨_,rfl,c71 w4 a b ha hb h4⟩⟩
 ·exact Yk hd m0.1 fun a w3 ha h3=>⟨_,rfl,jO h3 m4 fun b w4 hb h4=>⟨_,rfl,_,e4 h4,c71 w4 a b ha hb h4⟩,_,(e3 h3).2,jO h3 m4 fun b w4 hb h4=>⟨_,rfl,c71 w4 a b ha hb h4⟩⟩
 ·exact Yk hd m0.1 fun a w3 ha h3=>⟨_,rfl,jO h3 m4 fun b w4 hb h4=>⟨_,rfl,c71 w4 a b ha hb h4⟩⟩
 ·exact Yk hd m0.1 fun a w3 ha h3=>⟨_,rfl,_,(e3 h3).1,jO h3 m4 fun b w4 hb h4=>⟨_,rfl,c71 w4 a b ha hb h4⟩⟩
 ·exact Yk hd m0.1 fun a w3 ha h3=>⟨_,rfl,jO h3 m4 fun b w4 hb h4=>⟨_,rfl,c71 w4 a b ha hb h4⟩⟩
end Go.Fx.Tryz
namespace Go.Fx
open Go
theorem q5G{P:Program}{w:World}{T kt et:TypeId}(hT:P.underlying T=some (.map kt et)) :
  (Instr.range T (.map none)).run P w=.ok (.pointer (some (Addr.mk w.heap.size 0 none))) (w.alloc (.mapIter none 0 #[] 0)):=by
 simp[Instr.range,run_underlying hT]
theorem q7v{P:Program}{w:World}{it s l:Nat}{seen:Array Nat}(hi:w.heap[it]?=some (.mapIter none s seen l)) :
  (Instr.next (.pointer (some (Addr.mk it 0 none))) false 0).run P w=.ok (.tuple #[.bool false]) w:=by
 have h1:(getObj it).run P w=.ok (.mapIter none s seen l) w:=by simp[getObj,Sem.run,hi]
 simp[Instr.next,h1]
end Go.Fx
namespace Go.Fx.Tryz
open Go Go.Fx Go.Fx.Mo
open Go.Proofs
variable {w0 w:World} {H Y:qP} {K:KT}
set_option maxRecDepth 20000
theorem qdD{v0:Value}{b1:Nat}{t1:TypeId}(h:St w0 w H)(hb:(b1,Cs [.map none] t1)∈H)(hK:∀ W it o,w0.heap.size<=it->St w0 W ((it,o)::H)->K (.tuple [].toArray) W) :
  qa P 78 [v0,.pointer (some (Addr.mk b1 0 none))] w K:=by
 refine qyy _ _ _ _ ?_
 rw[qwz]
 refine⟨none,by rw[qv (h.has _ _ hb)];rfl,w.heap.size,_,q5G QU,?_⟩
 have hit:=h.le
 have h1:=h.alloc (.mapIter none 0 #[] 0)
 generalize hi:w.heap.size=it at hit h1
 refine⟨fun m ee w'=>m=0/\ee=ql.mk 14 [(0,v0),(5,(Value.pointer (some (Addr.mk it 0 none))))] []/\St w0 w' ((it,.mapIter none 0 #[] 0)::H),⟨0,rfl,rfl,h1⟩,?_⟩
 rintro m ee w1 ⟨rfl,rfl,hw⟩
 show q39 ..
 rw[q0f]
 exact .inl ⟨w1,q7v (hw.get (k:=0) rfl),hK w1 it _ hit hw⟩
theorem q5J{b1:Nat}{t1:TypeId}(h:St w0 w H)(hb:(b1,Cs [.map none] t1)∈H)(hK:∀ w',St w0 w' H->K qy w') :
  qa P 76 [.func (.func 78) #[] #[.pointer (some (Addr.mk b1 0 none))]] w K:=by
 refine qxa _ _ _ ?_
 rw[qyv]
 refine qzb _ _ _ _ _ _ ?_
 rw[qy6]
 refine h.newC fun n2 w1 hn2 h1=>?_
 have h1:St w0 w1 ((n2,Cs [qy] 49)::H):=h1
 refine⟨qDG,fun R hy=>?_⟩
 have h2:=(h1.alloc (.deferred (some []))).alloc (.loop (R .ready none))
 have hsz:(w1.alloc (.deferred (some []))).heap.size=w1.heap.size+1:=by simp
 rw[hsz]at h2
 have hle:w0.heap.size<=w1.heap.size:=h1.le
 refine qdD (t1:=t1) h2 (.tail _ (.tail _ (.tail _ hb))) fun W it o hit hs=>?_
 have hs:=hs.tail hit
 refine⟨.ready,none,hs.get (k:=0) rfl,by simp,?_⟩
 have hs:=(hs.put (k:=0) rfl (.loop (R .exhausted none))).tail om
 show q7Z ..
 rw[q5g,q5S]
 refine⟨none,0,0,hs.cell (k:=1) rfl,?_⟩
 refine⟨hs.get (k:=0) rfl,?_⟩
 have h5:=hs.put (k:=0) rfl (.deferred none)
 rw[q6m]
 exact⟨none,0,0,rfl,hK _ ((h5.tail hle).tail hn2)⟩
def zd:List Value:=((qU zi 0 0).set 64 (.bool false) |>.set 88 (.map none) |>.set 89 (.map none))++[.bool false,qj 0,.map none,.map none]
theorem qqG(wq:World):(Instr.build 37 [].toArray).run P wq=.ok (.agg zd.toArray) wq:=kr
theorem qMd:zd[90]?=some (.bool false):=kr
theorem qMh:zd[93]?=some (.map none):=kr
def NoD(H:qP)(p:Option Addr):Prop:=p=none\/∃ n,p=some (Addr.mk n 0 none)/\(n,Cs zd 37)∈H
theorem NoD.made{p:Option Addr}{n:Nat}(h:St w0 w H)(hp:(n,Cs zd 37)∈H):w.cell? ((Addr.mk n 0 none).add 90)=some (.bool false):=by
 rw[qc,qv (h.has _ _ hp)];exact qMd
theorem qqm{p:Option Addr}{e:Ev}(h:St w0 w H)(hp:NoD H p)(hK:∀ w',St w0 w' H->K (.tuple [qy,qj 5].toArray) w'):qa P 7 [.pointer p,.agg (qE e).toArray] w K:=by
 refine qEf _ _ _ _ ?_
 rw[qDF,z25,z28]
 refine h.newC fun n2 w1 hn2 h1=>h1.newC fun n4 w2 hn4 h2=>h2.newC fun n6 w3 hn6 h3=>h3.newC fun n8 w4 hn8 h4=>?_
 have h4:St w0 w4 ((n8,Cs [qj 0] 40)::(n6,Cs [qy] 39)::(n4,Cs (qE e) 45)::(n2,Cs [.pointer p] 25)::H):=h4
 refine⟨p,h4.cell (k:=3) rfl,?_⟩
 have fin:qls true (Addr.mk n6 0 none) (Addr.mk n8 0 none) (Addr.mk n2 0 none) (Addr.mk n4 0 none) w4 K:=by
  rw[qco,qm]
  refine h4.st1 (k:=1) rfl (by simp) rfl fun w5 h5=>h5.st1 (k:=0) rfl (by simp) rfl fun w6 h6=>?_
  exact⟨none,0,0,h6.cell (k:=1) rfl,5,h6.cell (k:=0) rfl,hK w6 ((((h6.tail hn8).tail hn6).tail hn4).tail hn2)⟩
 rcases hp with rfl | ⟨n,rfl,hp⟩
 ·rw[Option.isNone_none,qm]
  exact fin
 ·rw[Option.isNone_some,qd]
  exact⟨_,h4.cell (k:=3) rfl,false,NoD.made (p:=none) h4 (by simp[hp]),fin⟩
theorem qn3{p:Option Addr}(h:St w0 w H)(hp:NoD H p)(hK:∀ w',St w0 w' H->K (.tuple [qj 0,qj 0].toArray) w'):qa P 8 [.pointer p] w K:=by
 refine qDK _ _ _ ?_
 rw[qDT,qaE,qcA]
 have fin:qhT true 0 0 p w K:=by
  rw[qbn,qm]
  exact hK w h
 rcases hp with rfl | ⟨n,rfl,hp⟩
 ·rw[Option.isNone_none,qm]
  exact fin
 ·rw[Option.isNone_some,qd]
  exact⟨false,NoD.made (p:=none) h hp,fin⟩
theorem qeR{p:Option Addr}(h:St w0 w H)(hp:NoD H p)(hK:∀ w',St w0 w' H->K (.pointer none) w'):qa P 9 [.pointer p] w K:=by
 refine qEe _ _ _ ?_
 rw[qDJ,qa8,qaY]
 have fin:qle true none p w K:=by
  rw[qbD,qm]
  exact hK w h
 rcases hp with rfl | ⟨n,rfl,hp⟩
 ·rw[Option.isNone_none,qm]
  exact fin
 ·rw[Option.isNone_some,qd]
  exact⟨false,NoD.made (p:=none) h hp,fin⟩
theorem qp2{p:Option Addr}(h:St w0 w H)(hp:NoD H p)(hK:∀ w' a c,St w0 w' H->K (.slice a 0 c) w'):qa P 10 [.pointer p] w K:=by
 refine qud _ _ _ ?_
 rw[qsF]
 rcases hp with rfl | ⟨n,rfl,hp⟩
 ·rw[Option.isNone_none,qm]
  exact hK w none 0 h
 ·rw[Option.isNone_some,qd,q6X]
  refine⟨none,by rw[qc,qv (h.has _ _ hp)];exact qMh,?_⟩
  refine qxP _ _ _ ?_
  rw[qxs]
  refine h.newC fun n1 w1 hn1 h1=>⟨_,rfl,?_⟩
  have h1:St w0 w1 ((n1,Cs [.map none] 35)::H):=h1
  refine qxM _ _ _ ?_
  rw[qvz]
  refine q5J h1 (.head _) fun w2 h2=>⟨none,0,0,rfl,?_⟩
  refine qa3 (ks:=[]) (Lo:=[]) h2 (zC.nil 1 43) (by simp) fun w3 Lo' hS' hN' h3=>⟨rfl,⟨none,_,0,rfl,?_⟩⟩
  exact hK w3 none 0 ((h3.sub (hN' (zr.nil w0))).tail hn1)
end Go.Fx.Tryz
namespace Go.Fx.Tryz
set_option maxRecDepth 100000
open Go Go.Fx Go.Proofs
def c3:=qx Tryz.f3
def rs3:=Tryz.f3.results.toList
abbrev yZ K:=qH P rs3 K
def f3 a b c w K:=CS P c3 none [2] [2] (yZ K) (zh 152 [(VS a b c)]) w
def qEj a b c w K:=SC c3 1 [2] [2] (yZ K) 152 [(0,VS a b c)] w
abbrev qKu K:=kq c3 1 [2] [2] (yZ K)
def qEo a b c w K:=SC c3 3 [2] [2] (yZ K) 152 [(2,VB false),(0,VS a b c)] w
abbrev qJT K:=kq c3 3 [2] [2] (yZ K)
def qEi a b c d e w K:=SC c3 7 [2] [2] (yZ K) 152 [(3,VB a),(26,VB b),(2,VB false),(0,VS c d e)] w
abbrev qDD K:=kq c3 7 [2] [2] (yZ K)
abbrev qKG K:=kq c3 14 [3,0,2] [2] (qDD K)
def qsz a b c d f w K:=SG c3 15 [2] [2] (yZ K) 152 [(3,VB a),(0,VS b c d),(2,VB f)] w
abbrev qKY K:=kq c3 15 [2] [2] (yZ K)
def qE9 a b c d e f w K:=SC c3 31 [2] [2] (yZ K) 152 [(4,VP a),(3,VB b),(0,VS c d e),(2,VB f)] w
abbrev qKf K:=kq c3 31 [2] [2] (yZ K)
def qEc a b c d e f g h i w K:=SC c3 63 [2] [2] (yZ K) 152 [(5,VQ a),(32,VQ b),(31,Value.agg c),(4,VP d),(3,VB e),(0,VS f g h),(2,VB i)] w
abbrev qbq K:=kq c3 63 [2] [2] (yZ K)
abbrev qJR K:=kq c3 126 [3,2,0] [2] (qbq K)
def qE0 a b c d e f g h i j k l m n o p w K:=SC c3 253 [3,2,0] [2] (qbq K) 152 [(37,VI a),(36,VI b),(35,VS c d e),(34,VQ f),(33,VP g),(5,VQ h),(32,VQ i),(31,Value.agg j),(4,VP k),(3,VB l),(0,VS m n o),(2,VB p)] w
abbrev qv6 K:=qq 0 (qbq K)
def qEI K Y7 e w:=zJ (fun e w=>CS P (cA c3 1012) none [3,0,37,35,2,36] [2,3,0] (qw [3,0,37,35,2,36] Y7 (qv6 K)) e w) e w
abbrev Vd K Y7:=qw [3,0,37,35,2,36] Y7 (qv6 K)
def qyi a b c d f g h i j k w K Y7:=SG c3 1012 [3,0,37,35,2,36] [2,3,0] (Vd K Y7) 152 [(3,VB a),(0,VS b c d),(37,VI f),(35,VS g h i),(2,VB j),(36,VI k)] w
abbrev qFf K Y7:=kq c3 1012 [3,0,37,35,2,36] [2,3,0] (Vd K Y7)
def qDQ a b c d e f g h i j k w K Y7:=SC c3 2025 [3,0,37,35,2,36] [2,3,0] (Vd K Y7) 152 [(38,VB a),(3,VB b),(0,VS c d e),(37,VI f),(35,VS g h i),(2,VB j),(36,VI k)] w
abbrev qEG K Y7:=kq c3 2025 [3,0,37,35,2,36] [2,3,0] (Vd K Y7)
def qDH a b c d f g h i j k w K Y7:=SG c3 4051 [3,0,37,35,2,36] [2,3,0] (Vd K Y7) 152 [(3,VB a),(0,VS b c d),(35,VS f g h),(36,VI i),(37,VI j),(2,VB k)] w
abbrev qyf K Y7:=kq c3 4051 [3,0,37,35,2,36] [2,3,0] (Vd K Y7)
abbrev qfL K Y7:=qq 1 (qyf K Y7)
abbrev qH8 K Y7:=kq c3 16204 [3,0,35,2,36,37] [2,3,0,35,36,37] (qfL K Y7)
def JZ a b c d f g h i j k l w K Y7:=SG c3 259279 [3,0,35,2,36,37] [2,3,0,35,36,37] (qfL K Y7) 152 [(77,VB a),(3,VB b),(0,VS c d f),(35,VS g h i),(36,VI j),(37,VI k),(2,VB l)] w
def qyz a b c d f g h i j k w K Y7:=SG c3 8103 [3,0,37,35,2,36] [2,3,0] (Vd K Y7) 152 [(3,VB a),(0,VS b c d),(35,VS f g h),(2,VB i),(36,VI j),(37,VI k)] w
theorem qp9:qyz a c d e f g h i j k w K Y7=(Y7 (ql.mk 152 [(3,(Value.bool a)),(0,(Value.slice c d e)),(37,(Value.int .i64 (IntKind.wrap .i64 (k+1)))),(35,(Value.slice f g h)),(2,(Value.bool i)),(36,(Value.int .i64 j))] []) w):=qV kr
theorem qnb:JZ a c d e f g h i j k l w K Y7=(qC a (K (Value.bool false) w) (qyz c d e f g h i l j k w K Y7)):=qV kr
theorem qqQ:qDH f g h i d e j k c l w K Y7=(qi d (fun e0=>0<=c/\c<(e:Nat)/\∃ m:Option Addr,w.cell? (e0.add (Int.toNat c*1))=some (.pointer m)/\∃ p:Array Value,(∀ wq,(Instr.build 45 #[(0,(Value.int .i64 1))]).run P wq=.ok (.agg p) wq)/\qa P 7 [(Value.pointer m),(Value.agg p)] w (fun f0 g0=>∃ (q:OA) (r s:Nat),∃ t:Int,f0=(.tuple #[(Value.slice q r s),(Value.int .i64 t)])/\qa P 8 [(Value.pointer m)] g0 (fun h0 n=>∃ u:Int,∃ v:Int,h0=(.tuple #[(Value.int .i64 u),(Value.int .i64 v)])/\qC (t != 5) (JZ true f g h i d e j k c l n K Y7) (∃ x:Int,(∀ wq,zZ n wq->(Builtin.len_ #[39] 3 #[(Value.slice q r s)]).run P wq=.ok (.int .i64 x) wq)/\qC (x != 0) (JZ true f g h i d e j k c l n K Y7) (qa P 9 [(Value.pointer m)] n (fun i0 y=>∃ z:Option Addr,i0=(.pointer z)/\qC (!z.isNone) (JZ true f g h i d e j k c l y K Y7) (qa P 10 [(Value.pointer m)] y (fun j0 o=>∃ (a0:OA) (b0 c0:Nat),j0=(.slice a0 b0 c0)/\∃ d0:Int,(∀ wq,zZ o wq->(Builtin.len_ #[49] 3 #[(Value.slice a0 b0 c0)]).run P wq=.ok (.int .i64 d0) wq)/\qC (d0 != 0) (JZ true f g h i d e j k c l o K Y7) (qC (u != 0) (JZ true f g h i d e j k c l o K Y7) (JZ (v != 0) f g h i d e j k c l o K Y7))))))))))):=qV (qT [3,0,35,2,36,37] (qyf K Y7) (QJ 1 [2,3,0,35,36,37] (qfL K Y7) (qT [3,0,35,36,37,2,7] (qH8 K Y7) kr)))
def qhy a b c d f w K:=SG c3 127 [2] [2] (yZ K) 152 [(3,VB a),(2,VB b),(0,VS c d f)] w
abbrev qIe K:=kq c3 127 [2] [2] (yZ K)
def qrG a b c d e f g h i w K:=SC c3 255 [2] [2] (yZ K) 152 [(12,VP a),(13,VQ b),(80,Value.agg c),(79,VP d),(3,VB e),(2,VB f),(0,VS g h i)] w
abbrev q4E K:=kq c3 255 [2] [2] (yZ K)
abbrev qJs K:=kq c3 510 [3] [2] (q4E K)
def quL a b c d e f g h i j k l m n w K:=SC c3 1021 [3] [2] (q4E K) 152 [(83,VI a),(82,VI b),(81,VS c d e),(12,VP f),(13,VQ g),(80,Value.agg h),(79,VP i),(3,VB j),(2,VB k),(0,VS l m n)] w
abbrev qf3 K:=qq 2 (q4E K)
def qBG K Y15 e w:=zJ (fun e w=>CS P (cA c3 4084) none [3,83,13,12,81,2,82] [2,3] (qw [3,83,13,12,81,2,82] Y15 (qf3 K)) e w) e w
abbrev Zq K Y15:=qw [3,83,13,12,81,2,82] Y15 (qf3 K)
def qiY a b c d f g h i j w K Y15:=SG c3 4084 [3,83,13,12,81,2,82] [2,3] (Zq K Y15) 152 [(3,VB a),(83,VI b),(13,VQ c),(12,VP d),(81,VS f g h),(2,VB i),(82,VI j)] w
abbrev qEO K Y15:=kq c3 4084 [3,83,13,12,81,2,82] [2,3] (Zq K Y15)
def qt7 a b c d e f g h i j w K Y15:=SC c3 8169 [3,83,13,12,81,2,82] [2,3] (Zq K Y15) 152 [(84,VB a),(3,VB b),(83,VI c),(13,VQ d),(12,VP e),(81,VS f g h),(2,VB i),(82,VI j)] w
abbrev qJx K Y15:=kq c3 8169 [3,83,13,12,81,2,82] [2,3] (Zq K Y15)
def qdF a b c d f g h i j w K Y15:=SG c3 16339 [3,83,13,12,81,2,82] [2,3] (Zq K Y15) 152 [(3,VB a),(13,VQ b),(12,VP c),(81,VS d f g),(82,VI h),(83,VI i),(2,VB j)] w
abbrev quA K Y15:=kq c3 16339 [3,83,13,12,81,2,82] [2,3] (Zq K Y15)
abbrev q26 K Y15:=qq 3 (quA K Y15)
abbrev qJw K Y15:=kq c3 65356 [3,13,12,81,2,82,83] [2,3,13,12,81,82,83] (q26 K Y15)
abbrev qHR K Y15:=kq c3 4182847 [3,13,12,81,2,82,83] [2,3,13,12,81,82,83] (q26 K Y15)
def Qo a b c d f g h i j k w K Y15:=SG c3 16731389 [3,13,12,81,82,83,2] [2,3,13,12,81,82,83] (qHR K Y15) 152 [(137,VB a),(3,VB b),(13,VQ c),(12,VP d),(81,VS f g h),(82,VI i),(83,VI j),(2,VB k)] w
def qvZ a b c d f g h i j w K Y15:=SG c3 8365695 [3,13,12,81,2,82,83] [2,3,13,12,81,82,83] (q26 K Y15) 152 [(3,VB a),(13,VQ b),(12,VP c),(81,VS d f g),(82,VI h),(83,VI i),(2,VB j)] w
abbrev qJa K Y15:=kq c3 8365695 [3,13,12,81,2,82,83] [2,3,13,12,81,82,83] (q26 K Y15)
def q1N a b c d f g h i j k w K Y15:=SG c3 33462783 [3,13,12,81,2,82,83] [2,3,13,12,81,82,83] (q26 K Y15) 152 [(149,VB a),(3,VB b),(13,VQ c),(12,VP d),(81,VS f g h),(82,VI i),(83,VI j),(2,VB k)] w
def qqW a b c d f g h i j w K Y15:=SG c3 32679 [3,83,13,12,81,2,82] [2,3] (Zq K Y15) 152 [(3,VB a),(13,VQ b),(12,VP c),(81,VS d f g),(2,VB h),(82,VI i),(83,VI j)] w
theorem qo9:qqW a c d e f g h i j w K Y15=(Y15 (ql.mk 152 [(3,(Value.bool a)),(83,(Value.int .i64 (IntKind.wrap .i64 (j+1)))),(13,(Value.pointer (some c))),(12,(Value.pointer d)),(81,(Value.slice e f g)),(2,(Value.bool h)),(82,(Value.int .i64 i))] []) w):=qV kr
theorem qlB:q1N a c d e f g h i j k w K Y15=(qC a (K (Value.bool false) w) (qqW c d e f g h k i j w K Y15)):=qV kr
theorem qlW:qvZ e c d f g h i j k w K Y15=(qa P 9 [(Value.pointer d)] w (fun d0 l=>∃ m:Option Addr,d0=(.pointer m)/\qC m.isNone ((q1N true e c d f g h i j k l.drew K Y15)/\(q1N true e c d f g h i j k l.drew K Y15)) ((qa P 10 [(Value.pointer m)] l.drew (fun e0 n=>∃ (o:OA) (p q:Nat),e0=(.slice o p q)/\∃ (r:OA) (s t:Nat),n.cell? (c.add 1)=some (.slice r s t)/\qa P 15 [(Value.slice o p q),(Value.slice r s t)] n (fun f0 g0=>∃ u:Bool,f0=(.bool u)/\q1N (!u) e c d f g h i j k g0 K Y15)))/\(∃ (v:OA) (x y:Nat),l.drew.cell? (c.add 1)=some (.slice v x y)/\qa P 10 [(Value.pointer m)] l.drew (fun h0 i0=>∃ (z:OA) (a0 b0:Nat),h0=(.slice z a0 b0)/\qa P 15 [(Value.slice z a0 b0),(Value.slice v x y)] i0 (fun j0 l0=>∃ c0:Bool,j0=(.bool c0)/\q1N (!c0) e c d f g h i j k l0 K Y15)))))):=qV (qT [3,13,12,81,82,83,2,25] (qJa K Y15) kr)
theorem qlE:Qo a c d e f g h i j k w K Y15=(qC a (K (Value.bool false) w) (qvZ c d e f g h i j k w K Y15)):=qV kr
theorem qoM:qdF h c d f g i j e k w K Y15=(qi f (fun B0=>0<=e/\e<(g:Nat)/\qf 6 (B0.add (Int.toNat e*6)) w (fun C0=>qt (qn P 45) 45 w (fun m D0=>qN 6 (Addr.mk m 0 none) C0 D0 (fun v=>qf 6 (Addr.mk m 0 none) v (fun E0=>qa P 7 [(Value.pointer d),(Value.agg E0)] v (fun F0 n=>∃ (x:OA) (y z:Nat),∃ a0:Int,F0=(.tuple #[(Value.slice x y z),(Value.int .i64 a0)])/\qf 2 c n (fun G0=>qf 6 (Addr.mk m 0 none) n (fun H0=>qa P 12 [(Value.agg G0),(Value.agg H0)] n (fun I0 J0=>∃ b0:Array Value,∃ (c0:OA) (d0 e0:Nat),∃ f0:Int,I0=(.tuple #[(Value.agg b0),(Value.slice c0 d0 e0),(Value.int .i64 f0)])/\qt (qn P 52) 52 J0 (fun g0 L0=>qN 2 (Addr.mk g0 0 none) b0 L0 (fun h0=>qf 2 (Addr.mk g0 0 none) h0 (fun M0=>qN 2 c M0 h0 (fun N0=>qa P 8 [(Value.pointer d)] N0 (fun O0 i0=>∃ o:Int,∃ p:Int,O0=(.tuple #[(Value.int .i64 o),(Value.int .i64 p)])/\qf 2 c i0 (fun Q0=>qa P 13 [(Value.agg Q0)] i0 (fun R0 q=>∃ r:Int,∃ s:Int,R0=(.tuple #[(Value.int .i64 r),(Value.int .i64 s)])/\qC (a0 != f0) ((Qo true h c d f g i j e k q.drew K Y15)/\(Qo true h c d f g i j e k q.drew K Y15)) (qa P 14 [(Value.slice x y z),(Value.slice c0 d0 e0)] q.drew (fun S0 l=>∃ j0:Bool,S0=(.bool j0)/\qC (!j0) ((Qo true h c d f g i j e k l K Y15)/\(Qo true h c d f g i j e k l K Y15)) ((qa P 10 [(Value.pointer d)] l (fun T0 l0=>∃ (m0:OA) (n0 o0:Nat),T0=(.slice m0 n0 o0)/\∃ (p0:OA) (q0 r0:Nat),l0.cell? (c.add 1)=some (.slice p0 q0 r0)/\qa P 15 [(Value.slice m0 n0 o0),(Value.slice p0 q0 r0)] l0 (fun U0 t=>∃ s0:Bool,U0=(.bool s0)/\qC (!s0) (Qo true h c d f g i j e k t K Y15) (qC (o != r) (Qo true h c d f g i j e k t K Y15) (Qo (p != s) h c d f g i j e k t K Y15)))))/\(∃ (t0:OA) (u0 v0:Nat),l.cell? (c.add 1)=some (.slice t0 u0 v0)/\qa P 10 [(Value.pointer d)] l (fun V0 W0=>∃ (x0:OA) (y0 z0:Nat),V0=(.slice x0 y0 z0)/\qa P 15 [(Value.slice x0 y0 z0),(Value.slice t0 u0 v0)] W0 (fun X0 u=>∃ A0:Bool,X0=(.bool A0)/\qC (!A0) (Qo true h c d f g i j e k u K Y15) (qC (o != r) (Qo true h c d f g i j e k u K Y15) (Qo (p != s) h c d f g i j e k u K Y15))))))))))))))))))))))))):=qV (qT [3,13,12,81,2,82,83] (quA K Y15) (QJ 3 [2,3,13,12,81,82,83] (q26 K Y15) (qT [3,13,12,81,82,83,2,15] (qJw K Y15) kr)))
def qxb a w K:=SG c3 511 [2] [2] (yZ K) 152 [(3,VB a)] w
abbrev qFN K:=kq c3 511 [2] [2] (yZ K)
theorem qn0:qxb c w K=(K (Value.bool c) w):=qV (qT [2] (qFN K) kr)
theorem qnJ:qt7 d c e f g h i j k l w K Y15=(qC d (qdF c f g h i j l e k w K Y15) (qxb c w K)):=Eq.trans (b:=CS P (cA c3 8169) none [3,83,13,12,81,2,82] [2,3] (Zq K Y15) (ql.mk 152 [(84,(VB d)),(3,(VB c)),(83,(VI e)),(13,(VP (some f))),(12,(VP g)),(81,(VS h i j)),(2,(VB k)),(82,(VI l))] []) w) kr (Eq.trans (zN [3,13,12,81,82,83,2] (qJx K Y15) kr) kr)
theorem qfm:qiY e c f g h i j k d w K Y15=(qt7 (decide (c<d)) e c f g h i j k d w K Y15):=qV (qT [84,3,13,12,81,82,83,2] (qEO K Y15) kr)
theorem qmq:quL a c d e f g h k l i j m n o w K=(za (qBG K) (ql.mk 152 [(3,(Value.bool i)),(83,(Value.int .i64 a)),(13,(Value.pointer (some h))),(12,(Value.pointer g)),(81,(Value.slice d e f)),(2,(Value.bool j)),(82,(Value.int .i64 c))] []) w):=Eq.trans (b:=CS P (cA c3 1021) none [3] [2] (q4E K) (ql.mk 152 [(83,(VI a)),(82,(VI c)),(81,(VS d e f)),(12,(VP g)),(13,(VP (some h))),(80,(Value.agg k)),(79,(VP l)),(3,(VB i)),(2,(VB j)),(0,(VS m n o))] []) w) kr (Eq.trans (YD 2 [2,3] (qf3 K) kr) ((qY (b:=(cA c3 4084)) (X':=[2,3]) (H:=[3,83,13,12,81,2,82]) kr kr kr).trans kr))
theorem qnW:qrG f g h i j k c d e w K=(∃ l:Int,(∀ wq,zZ w wq->(Builtin.len_ #[22] 3 #[(Value.slice c d e)]).run P wq=.ok (.int .i64 l) wq)/\quL 0 l c d e f g h i j k c d e w K):=Eq.trans (b:=CS P (cA c3 255) none [2] [2] (yZ K) (ql.mk 152 [(12,(VP f)),(13,(VP (some g))),(80,(Value.agg h)),(79,(VP i)),(3,(VB j)),(2,(VB k)),(0,(VS c d e))] []) w) kr (Eq.trans (zN [3] (q4E K) kr) (Eq.trans (zN [3,83,13,12,81,2,82] (qJs K) kr) kr))
theorem qlV:qhy c d e f g w K=(qa P 11 [] w (fun k l=>∃ h:Option Addr,k=(.pointer h)/\∃ i:Array Value,(∀ wq,(Instr.build 52 #[]).run P wq=.ok (.agg i) wq)/\qt (qn P 52) 52 l (fun j m=>qN 2 (Addr.mk j 0 none) i m (fun n=>qrG h (Addr.mk j 0 none) i h c d e f g n K)))):=qV (qT [3,13,12,2,0] (qIe K) kr)
theorem qvM:qDQ h c d e f i j k l g m w K Y7=(qC h (qDH c d e f j k l m i g w K Y7) (qhy c g d e f w K)):=Eq.trans (b:=CS P (cA c3 2025) none [3,0,37,35,2,36] [2,3,0] (Vd K Y7) (ql.mk 152 [(38,(VB h)),(3,(VB c)),(0,(VS d e f)),(37,(VI i)),(35,(VS j k l)),(2,(VB g)),(36,(VI m))] []) w) kr (Eq.trans (zN [3,0,35,36,37,2] (qEG K Y7) kr) kr)
theorem qmh:qyi e f g h c i j k l d w K Y7=(qDQ (decide (c<d)) e f g h c i j k l d w K Y7):=qV (qT [38,3,0,35,36,37,2] (qFf K Y7) kr)
theorem qrU:qE0 a c d e f l m n o p q g h i j k w K=(za (qEI K) (ql.mk 152 [(3,(Value.bool g)),(0,(Value.slice h i j)),(37,(Value.int .i64 a)),(35,(Value.slice d e f)),(2,(Value.bool k)),(36,(Value.int .i64 c))] []) w):=Eq.trans (b:=CS P (cA c3 253) none [3,2,0] [2] (qbq K) (ql.mk 152 [(37,(VI a)),(36,(VI c)),(35,(VS d e f)),(34,(VP (some l))),(33,(VP m)),(5,(VP (some n))),(32,(VP (some o))),(31,(Value.agg p)),(4,(VP q)),(3,(VB g)),(0,(VS h i j)),(2,(VB k))] []) w) kr (Eq.trans (YD 0 [2,3,0] (qv6 K) kr) ((qY (b:=(cA c3 1012)) (X':=[2,3,0]) (H:=[3,0,37,35,2,36]) kr kr kr).trans kr))
theorem qqV:qEc c e f d g h i j k w K=(qJ 1 [(Value.pointer d),(Value.pointer (some c))]/\qt (([(Value.pointer d),(Value.pointer (some c))].map fun(v:Value)=>v.cells.toList).flatten.toArray) 25 w (fun l m=>∃ n:Int,(∀ wq,zZ m wq->(Builtin.len_ #[38] 3 #[(Value.slice (some (Addr.mk l 0 none)) 2 2)]).run P wq=.ok (.int .i64 n) wq)/\qE0 0 n (some (Addr.mk l 0 none)) 2 2 c d c e f d g h i j k m K)):=Eq.trans (b:=CS P (cA c3 63) none [2] [2] (yZ K) (ql.mk 152 [(5,(VP (some c))),(32,(VP (some e))),(31,(Value.agg f)),(4,(VP d)),(3,(VB g)),(0,(VS h i j)),(2,(VB k))] []) w) kr (Eq.trans (zN [3,2,0] (qbq K) kr) (Eq.trans (zN [3,0,37,35,2,36] (qJR K) kr) kr))
theorem qyA:qE9 c d e f g h w K=(∃ i:Array Value,(∀ wq,(Instr.build 37 #[]).run P wq=.ok (.agg i) wq)/\qt i 37 w (fun j k=>qEc (Addr.mk j 0 none) (Addr.mk j 0 none) i c d e f g h k K)):=Eq.trans (b:=CS P (cA c3 31) none [2] [2] (yZ K) (ql.mk 152 [(4,(VP c)),(3,(VB d)),(0,(VS e f g)),(2,(VB h))] []) w) kr (Eq.trans (zN [3,0,2,5,4] (qKf K) kr) kr)
theorem qzc:qsz c d e f g w K=(qE9 none c d e f g w K):=qV (qT [3,0,2,4] (qKY K) kr)
theorem qvE:qEi c g d e f w K=(qa P 6 [(Value.slice d e f),(Value.int .i64 40)] w (fun j h=>∃ i:Bool,j=(.bool i)/\qC (!i) (K (Value.bool c) h) (qsz c d e f false h K))):=Eq.trans (b:=CS P (cA c3 7) none [2] [2] (yZ K) (ql.mk 152 [(3,(VB c)),(26,(VB g)),(2,(VB false)),(0,(VS d e f))] []) w) kr (Eq.trans (zN [3,0,2] (qDD K) kr) (Eq.trans (zN [29,3,0,2] (qKG K) kr) kr))
theorem qwc:qEo c d e w K=(qa P 5 [] w (fun g h=>∃ f:Bool,g=(.bool f)/\qEi f f c d e h K)):=Eq.trans (b:=CS P (cA c3 3) none [2] [2] (yZ K) (ql.mk 152 [(2,(VB false)),(0,(VS c d e))] []) w) kr (Eq.trans (zN [3,0,2] (qJT K) kr) kr)
theorem qtl:qEj c d e w K=(qEo c d e w K):=Eq.trans (b:=CS P (cA c3 1) none [2] [2] (yZ K) (ql.mk 152 [(0,(VS c d e))] []) w) kr (Eq.trans (zN [0,2] (qKu K) kr) kr)
theorem qL0:f3 a b c w K=(qEj a b c w K):=kr
theorem qKt a b c w K(h:f3 a b c w K):qa P 3 [(Value.slice a b c)] w K:=zj c3 Tryz.func3 h
end Go.Fx.Tryz
namespace Go.Fx.Mo
end Go.Fx.Mo
namespace Go.Fx.Tryz
open Go Go.Fx Go.Fx.Mo
open Go.Proofs
variable {w0 w:World} {H Y:qP} {K:KT}
set_option maxRecDepth 20000
end Go.Fx.Tryz
namespace Go.Fx.Tryz
set_option maxRecDepth 100000
open Go Go.Fx Go.Proofs
end Go.Fx.Tryz
namespace Go.Fx.Mo
def Zf:List qQ ⊕ Int->List qQ × Int
 | .inl out=>(out,0)
 | .inr x=>([],x)
end Go.Fx.Mo
namespace Go.Fx.Tryz
open Go Go.Fx Go.Fx.Mo
open Go.Proofs
variable {w0 w:World} {H R0:qP} {K:KT}
set_option maxRecDepth 20000
theorem qtq{D:DB}{e:Ev}(h:St w0 w (zg D++R0))(hD:jz w0 D)
  (hK:∀ w' D' a c Lo,D'.d=(feed D.d e).1->jz w0 D'->D'.db=D.db->(Zf (feed D.d e).2).1.length<=65536->zC 11 108 (.slice a (Zf (feed D.d e).2).1.length c) (Zf (feed D.d e).2).1.length (qA (Zf (feed D.d e).2).1) Lo->zr w0 Lo->St w0 w' (zg D'++(Lo++R0))->
   K (.tuple [.slice a (Zf (feed D.d e).2).1.length c,qj (Zf (feed D.d e).2).2].toArray) w') :
  qa P 7 [ptr D.db,.agg (qE e).toArray] w K:=by
 refine qkn h hD (fun d' x hf w' h'=>?_) (fun d' out hf w' D' ov Lo hd hD' hdb hS hN h'=>?_)
 ·have hd:D.d=(feed D.d e).1:=by
   rw[hf];exact(q55 hf).symm
  rw[hf]at hK
  have:=q55 hf
  exact hK w' D none 0 [] this.symm hD rfl (by simp[Zf]) (zC.nil 11 108) (zr.nil w0) h'
 ·rw[hf]at hK
  obtain⟨a,c,hov⟩:=hS.form
  subst hov
  exact hK w' D' a c Lo hd hD' hdb (q4z hf) hS hN h'
theorem qK0{ov:Value}{n:Nat}{xs:List Value}(h:Qt w 1 ov n xs){i:Nat}(hi:i<n):∃ a c,ov=.slice (some a) n c/\w.cell? (a.add (i*1))=xs[i]?:=by
 rcases h.2 with⟨_,h0⟩ | ⟨a,c,h1,h2⟩
 ·omega
 ·exact⟨a,c,h1,by rw[Nat.mul_one];exact h2 i om⟩
theorem Yr{l:List Int}{a1 b1:Option Addr}{a2 b2:Nat}(h:St w0 w H)(ha:∀ w',St w0 w' H->Qt w' 1 (.slice a1 l.length a2) l.length (l.map zt))(hb:∀ w',St w0 w' H->Qt w' 1 (.slice b1 l.length b2) l.length (l.map zt))(hl63:l.length<9223372036854775807)
  (hK:∀ w',St w0 w' H->K (.bool true) w'):qa P 15 [.slice a1 l.length a2,.slice b1 l.length b2] w K:=by
 refine qEx _ _ _ _ _ _ _ _ ?_
 rw[qGb,qpf,qpr]
 refine⟨l.length,fun wq _=>Zr wq,l.length,fun wq _=>Zr wq,?_⟩
 rw[show((l.length:Int) != (l.length:Int))=false by simp,qd,qoO,qnG]
 refine⟨fun m ee w=>∃ (i:Nat),i<=l.length/\m=l.length-i/\ee=ql.mk 26 [(5,(Value.int .i64 i)),(1,(Value.slice b1 l.length b2)),(0,(Value.slice a1 l.length a2)),(4,(Value.bool false))] []/\St w0 w H,
  ⟨l.length,0,by omega,rfl,rfl,h⟩,?_⟩
 rintro m ee w ⟨i,hi,rfl,rfl,hw⟩
 show qk0 ..
 rw[qdN]
 refine⟨l.length,fun wq _=>Zr wq,?_⟩
 rw[qg]
 constructor
 ·intro hlt
  have hlt:i<l.length:=by simpa using hlt
  rw[qne]
  have hd:=hw.drew
  obtain⟨a,c,hac,hld⟩:=qK0 (ha _ hd) hlt
  obtain⟨hsa,-⟩:a1=some a/\a2=c:=by simpa using hac
  subst hsa
  obtain⟨b,c',hbc,hldb⟩:=qK0 (hb _ hd) hlt
  obtain⟨hsb,-⟩:b1=some b/\b2=c':=by simpa using hbc
  subst hsb
  have e:((l.map zt)[i]?:Option Value)=some (.int .u32 l[i]):=by simp[hlt]
  rw[e]at hld hldb
  refine⟨by omega,by omega,by omega,by omega,l[i],hld,l[i],hldb,?_⟩
  rw[show((l[i]:Int) != l[i])=false by simp,qd,qoc]
  refine⟨l.length-(i+1),by omega,i+1,by omega,rfl,?_,hd⟩
  rw[qk om om];rfl
 ·intro hge
  rw[qq9]
  exact hK w hw
end Go.Fx.Tryz
namespace Go.Fx.Tryz
open Go Go.Fx Go.Fx.Mo
open Go.Proofs
variable {w0 w:World} {H Y:qP} {K:KT}
set_option maxRecDepth 20000
end Go.Fx.Tryz
namespace Go.Fx.Mo
theorem q6Z:∀ {l:List Ev} {i:Int} {r r':RR} {n:Nat},yq l i r=some r'->Bd r n->Bd r' (n+16*l.length)
 | [],_,r,r',n,h,hb=>by cases h;exact hb
 | e::t,i,r,r',n,h,hb=>by
  unfold yq at h
  split at h
  ·cases h
  ·rename_i r2 h2
   have:=q6Z h (qaJ h2 hb)
   rw[show n+16*(e::t).length=n+16+16*t.length by simp only[List.length_cons];omega]
   exact this
theorem FR.clocks{d:VO}{s:q0k}(h:FR d s)(hl:s.L.length<=20000):∃ r,QA s.L=.inl r/\Go.Fx.Tryz.clocksOf d=Mo.JI r/\d.th.objs.length<1000000:=by
 obtain⟨hh,hrun⟩:=qxC h.ok hl
 obtain⟨r,hr⟩:∃ r,QA s.L=.inl r:=by
  rcases Vj s.L with⟨x,h1,_⟩ | ⟨_,r,tk,_,h2,_⟩
  ·rw[hrun]at h1;cases h1
  ·exact⟨r,h2⟩
 refine⟨r,hr,qoP h.ok hl hr h.di.th,?_⟩
 have hr':yq s.L 0 rr0=some r:=by
  have hr2:=hr
  unfold QA at hr2
  rw[if_neg om]at hr2
  split at hr2
  ·cases hr2
  ·rename_i r' hh
   cases hr2
   exact hh
 obtain⟨hz,hnd⟩:=qfi h.ok hl s.L.length 0 rr0 r [] om SR0 SZ.zero (by rw[List.drop_zero];exact hr')
 rw[<-h.di.th]at hz
 have hsub:(d.th.objs.map (·.1)).length<=r.objs.length:=List.Nodup.length_le_of_subset hz.nd fun k hk=>((hz.ro.2 k).1 hk).1
 rw[List.length_map]at hsub
 have hb:=(q6Z hr' ⟨Nat.le_refl 0,Nat.le_refl 0,Nat.le_refl 0⟩).x
 omega
end Go.Fx.Mo
namespace Go.Fx.Tryz
open Go Go.Fx Go.Fx.Mo
open Go.Proofs
variable {w0 w:World} {H Y:qP} {K:KT}
set_option maxRecDepth 20000
theorem qua(wq:World):(Instr.build 45 [(0,(Value.int .i64 1))].toArray).run P wq=.ok (.agg (qE ⟨1,0,0,0,0,0⟩).toArray) wq:=kr
theorem qwk(wq:World):(Instr.build 52 [].toArray).run P wq=.ok (.agg ([qy,qy]:List Value).toArray) wq:=kr
theorem qDi(p q:Option Addr):(([Value.pointer p,Value.pointer q].map fun(v:Value)=>v.cells.toList).flatten)=[.pointer p,.pointer q]:=by simp[Value.cells]
theorem qBX{l:List Ev}{sa:Option Addr}{sc:Nat}(h:St w0 w H)(hK:∀ w',St w0 w' H->qhy true false sa l.length sc w' K):qsz true sa l.length sc false w K:=by
 rw[qzc,qyA]
 refine⟨_,qqG,?_⟩
 refine h.newC fun n20 w1 hn20 h1=>?_
 rw[qqV]
 refine⟨⟨rfl,rfl,trivial⟩,?_⟩
 rw[qDi]
 refine h1.newC fun n32 w2 hn32 h2=>⟨2,fun wq _=>qZ _ _ _ Tryz.underlying38 3,?_⟩
 have h2:St w0 w2 ((n32,Cs [.pointer none,.pointer (some (Addr.mk n20 0 none))] 25)::(n20,Cs zd 37)::H):=h2
 rw[qrU]
 refine⟨fun m ee w=>∃ (i:Nat),i<=2/\m=2-i/\ee=ql.mk 152 [(3,(Value.bool true)),(0,(Value.slice sa l.length sc)),(37,(Value.int .i64 i)),(35,(Value.slice (some (Addr.mk n32 0 none)) 2 2)),(2,(Value.bool false)),(36,(Value.int .i64 2))] []/\
   St w0 w ((n32,Cs [.pointer none,.pointer (some (Addr.mk n20 0 none))] 25)::(n20,Cs zd 37)::H),⟨2,0,by omega,rfl,rfl,h2⟩,?_⟩
 rintro m ee w3 ⟨i,hi,rfl,rfl,h3⟩
 show qyi ..
 rw[qmh,qvM,qg]
 constructor
 ·intro hlt
  have hlt:i<2:=by simp at hlt;omega
  rw[qqQ]
  obtain⟨p,hpc,hp⟩:∃ p,([Value.pointer none,.pointer (some (Addr.mk n20 0 none))]:List Value)[i]?=some (.pointer p)/\NoD ((n32,Cs [.pointer none,.pointer (some (Addr.mk n20 0 none))] 25)::(n20,Cs zd 37)::H) p:=by
   rcases(by omega:i=0\/i=1)with rfl | rfl
   ·exact⟨none,rfl,.inl rfl⟩
   ·exact⟨_,rfl,.inr ⟨n20,rfl,by simp⟩⟩
  refine⟨by omega,by omega,p,by rw[qc,h3.cell (k:=0) rfl];simpa using hpc,_,qua,?_⟩
  refine qqm h3 hp fun w4 h4=>⟨none,0,0,5,rfl,?_⟩
  refine qn3 h4 hp fun w5 h5=>⟨0,0,rfl,?_⟩
  rw[show((5:Int) != 5)=false by decide,qd]
  refine⟨0,fun wq _=>qZ _ _ _ Tryz.underlying39 3,?_⟩
  rw[show((0:Int) != 0)=false by decide,qd]
  refine qeR h5 hp fun w6 h6=>⟨none,rfl,?_⟩
  rw[show(!(none:Option Addr).isNone)=false from rfl,qd]
  refine qp2 h6 hp fun w7 a c h7=>⟨a,0,c,rfl,0,fun wq _=>qZ _ _ _ Tryz.underlying49 3,?_⟩
  rw[show((0:Int) != 0)=false by decide,qd,qd,qnb,qd,qp9]
  refine⟨2-(i+1),by omega,i+1,by omega,rfl,?_,h7⟩
  rw[qk om om];rfl
 ·intro hge
  exact hK w3 ((h3.tail hn32).tail hn20)
end Go.Fx.Tryz
namespace Go.Fx.Mo
theorem FR.told_few{d:VO}{s:q0k}(h:FR d s):s.Told.length=d.told.length:=by
 have:=congrArg List.length h.racy
 unfold qxq at this
 rw[List.length_mergeSort,List.length_map]at this
 exact this.symm
theorem qnH{s:q0k}{e:Ev}:Qz (s.L++[e]) (s.L++[e]).length=Qz s.L s.L.length+Qb e:=by
 have hap:∀ k,k<s.L.length->qX s.L k=qX (s.L++[e]) k:=fun k hk=>(q7V hk).symm
 rw[show(s.L++[e]).length=s.L.length+1 by simp]
 have e1:Qz (s.L++[e]) (s.L.length+1)=Qz (s.L++[e]) s.L.length+Qb (qX (s.L++[e]) s.L.length):=rfl
 rw[e1,<-Yj hap]
 congr 2
 unfold qX
 simp[List.getD]
theorem qIJ{s:q0k}{e:Ev}{r:RR}(hr:QA (s.L++[e])=.inl r)(ha:acs e=true):0<=e.n/\e.n<=65536:=by
 rcases Vj (s.L++[e])with⟨x,h1,h2,_⟩ | ⟨hh,r',tk,h1,_⟩
 ·rw[hr]at h2;cases h2
 ·obtain⟨hok,_,_⟩:=qf1 h1
  have e1:qX (s.L++[e]) s.L.length=e:=by unfold qX;simp[List.getD]
  have:=qjW (n:=s.L.length) hok (by simp) (by rw[e1];exact ha)
  rw[e1]at this
  exact this
end Go.Fx.Mo
namespace Go.Fx.Tryz
open Go Go.Fx Go.Fx.Mo
open Go.Proofs
variable {w0 w:World} {H Y:qP} {K:KT}
set_option maxRecDepth 20000
theorem qbA{s s':q0k}{e:Ev}{x:List Mo.qQ ⊕ Int}{lv tv:Value}{LL LT X:qP}(h:St w0 w H)(hL:zC 6 45 lv s.L.length (zq s.L) LL)(hLL:∀ y∈LL,y∈X)(hT:zC 1 43 tv s.Told.length (s.Told.map zt) LT)(hLT:∀ y∈LT,y∈X)(hX:∀ y∈X,y∈H)
  (hl:s.L.length<1000) (ht:s.Told.length<=100000) (hrf:yU s e=(s',x))
  (hK:∀ w' lv' tv' ob oc LL' LT' LO X2,zC 6 45 lv' s'.L.length (zq s'.L) LL'->zC 1 43 tv' s'.Told.length (s'.Told.map zt) LT'->zC 11 108 (.slice ob (Zf x).1.length oc) (Zf x).1.length (qA (Zf x).1) LO->
   (∀ y∈LL',y∈X2++X)->(∀ y∈LT',y∈X2++X)->(∀ y∈LO,y∈X2)->zr w0 X2->St w0 w' (X2++H)->K (.tuple [.agg [lv',tv'].toArray,.slice ob (Zf x).1.length oc,qj (Zf x).2].toArray) w') :
  qa P 12 [.agg [lv,tv].toArray,.agg (qE e).toArray] w K:=by
 refine qfg h hL (fun y hy=>hX y (hLL y hy)) hT (fun y hy=>hX y (hLT y hy)) hl ht (fun r hr ha=>qIJ hr ha) (fun y hy w' h'=>?_) (fun s2 out hy w' lv' tv' ov LL' LT' LO X2 h1 h2 h3 h4 h5 h6 h7 h8=>?_)
 ·rw[hrf]at hy
  cases hy
  exact hK w' lv tv none 0 LL LT [] [] hL hT (zC.nil 11 108) (by simpa using hLL) (by simpa using hLT) (by simp) (zr.nil w0) h'
 ·rw[hrf]at hy
  cases hy
  obtain⟨oa,oc,hov⟩:=h3.form
  subst hov
  refine hK w' lv' tv' oa oc LL' LT' LO X2 h1 h2 h3 (fun y hy=>by simp[h4 y hy]) (fun y hy=>?_) h6 h7 h8
  exact(List.mem_append.1 (h5 y hy)).elim (fun h=>by simp[h]) (fun h=>by simp[hLT y h])
def EvI(w0:World)(H:qP)(l:List Ev)(sa:Option Addr)(sc n4 db:Nat)(m:Nat)(ee:ql)(w:World):Prop:=
 ∃ (i:Nat) (D:DB) (s:q0k) (lv tv:Value) (LL LT X:qP),i<=l.length/\m=l.length-i/\ee=ql.mk 152 [(3,(Value.bool true)),(83,(Value.int .i64 i)),(13,(Value.pointer (some (Addr.mk n4 0 none)))),(12,(Value.pointer (some (Addr.mk db 0 none)))),(81,(Value.slice sa l.length sc)),(2,(Value.bool false)),(82,(Value.int .i64 l.length))] []/\
  D.db=db/\FR D.d s/\jz w0 D/\s.L.length<=i/\(Qz s.L s.L.length:Int)+ZV (l.drop i)<=ZV l/\zC 6 45 lv s.L.length (zq s.L) LL/\(∀ y∈LL,y∈X)/\zC 1 43 tv s.Told.length (s.Told.map zt) LT/\(∀ y∈LT,y∈X)/\zr w0 X/\
  St w0 w (zg D++((n4,Cs [lv,tv] 52)::(X++H)))
set_option maxHeartbeats 1000000 in
theorem qMi{l:List Ev}{sa:Option Addr}{sc n4 i:Nat}{D:DB}{s:q0k}{lv tv:Value}{LL LT X:qP}(hla:∀ e∈l,0<=e.a/\e.a<4294967296)(hl40:l.length<=40)(hb:ZV l<=600)(hn4:w0.heap.size<=n4)(hi:i<l.length)
  (hrow:∀ w',St w0 w' H->Qt w' 6 (.slice sa l.length sc) l.length (zq l)) (hFR:FR D.d s) (hD:jz w0 D) (hsl:s.L.length<=i) (htot:(Qz s.L s.L.length:Int)+ZV (l.drop i)<=ZV l)
  (hL:zC 6 45 lv s.L.length (zq s.L) LL) (hLL:∀ y∈LL,y∈X) (hT:zC 1 43 tv s.Told.length (s.Told.map zt) LT) (hLT:∀ y∈LT,y∈X) (hNX:zr w0 X) (h:St w0 w (zg D++((n4,Cs [lv,tv] 52)::(X++H)))) :
  qdF true (Addr.mk n4 0 none) (some (Addr.mk D.db 0 none)) sa l.length sc l.length i false w K (fun e' w'=>∃ m,m<l.length-i/\EvI w0 H l sa sc n4 D.db m e' w'):=by
 rw[qoM]
 have hH:∀ {w':World} {A Z:qP},zr w0 A->St w0 w' (A++H)->St w0 w' H:=fun hA h'=>h'.sub hA
 have hHd:∀ {w':World},St w0 w' (zg D++((n4,Cs [lv,tv] 52)::(X++H)))->St w0 w' H:=fun h'=>((h'.sub hD.newH).tail hn4).sub hNX
 obtain⟨a0,c0,hac,hld⟩:=(hrow w (hHd h)).ldA hi
 obtain⟨hsa,-⟩:sa=some a0/\sc=c0:=by simpa using hac
 subst hsa
 refine⟨by omega,by omega,hld _ ?_⟩
 rw[QM hi]
 obtain⟨ze,hze,hzel⟩:=z35
 rw[hze]
 have hdrop:l.drop i=l[i]::l.drop (i+1):=List.drop_eq_getElem_cons hi
 have hae:=hla l[i] (List.getElem_mem hi)
 rw[hdrop]at htot
 generalize hx:l[i]=e at *
 rw[show ZV (e::l.drop (i+1))=Qw e+ZV (l.drop (i+1)) from rfl]at htot
 have hb1:=(Zx e).1
 have hb2:=q2y (l.drop (i+1))
 have hte:=q88 e om
 refine h.newC fun n9 w1 hn9 h1=>h1.stA (k:=0) rfl (by simp[qu]) (by simp[hzel]) (yr _) fun w2 h2=>?_
 have h2:St w0 w2 ((n9,Cs (qI ze 0 (qE e)) 45)::(zg D++((n4,Cs [lv,tv] 52)::(X++H)))):=h2
 rw[qB (by rw[qu,hzel])]at h2
 refine h2.ldA (k:=0) (i:=0) rfl (by simp[qu]) ?_
 rw[q13]
 have h3:St w0 w2 (zg D++((n9,Cs (qE e) 45)::(n4,Cs [lv,tv] 52)::(X++H))):=h2.perm (qK fun c=>by
  simp only[List.map_append,List.map_cons,List.sum_append,List.sum_cons];omega)
 obtain⟨d',s',x,hf,hrf,hFR',hcase⟩:=hFR.feed (e:=e) hae om om
 have htl:=hFR.told_few
 have htl2:=hFR.di.tlen
 have hsl':s'.L.length<=i+1/\(Qz s'.L s'.L.length:Int)+ZV (l.drop (i+1))<=ZV l:=by
  rcases hcase with⟨_,_,hc⟩ | ⟨hc,_⟩
  ·rw[hc,qnH]
   simp only[List.length_append,List.length_singleton]
   omega
  ·rw[hc];omega
 refine qtq h3 hD fun w3 D' a c Lo hd' hD' hdb hlen hS hN h4=>⟨a,_,c,_,rfl,?_⟩
 rw[hf]at hd' hlen hS ⊢
 dsimp only at hd' hlen hS ⊢
 have h5:St w0 w3 ((n9,Cs (qE e) 45)::(n4,Cs [lv,tv] 52)::(zg D'++(Lo++(X++H)))):=h4.perm (qK fun c=>by
  simp only[List.map_append,List.map_cons,List.sum_append,List.sum_cons];omega)
 refine h5.ldA (k:=1) (i:=0) rfl (by simp) ?_
 refine h5.ldA (k:=0) (i:=0) rfl (by simp[qu]) ?_
 rw[q13]
 refine qbA (X:=X) h5 hL hLL hT hLT (fun y hy=>by simp[hy]) om om hrf fun w4 lv' tv' ob oc LL' LT' LO X2 hSL hST hSO hL' hT' hO' hNX2 h6=>⟨_,ob,_,oc,_,rfl,?_⟩
 have hone:∀ v∈([lv',tv']:List Value).toArray.toList,v.oneCell'=true:=by simp[zW hSL,zW hST]
 rw[z52]
 refine h6.newC fun n164 w5 hn164 h7=>h7.stA (k:=0) rfl rfl (by simp) hone fun w6 h8=>?_
 have h8:St w0 w6 ((n164,Cs [lv',tv'] 52)::(X2++((n9,Cs (qE e) 45)::(n4,Cs [lv,tv] 52)::(zg D'++(Lo++(X++H)))))):=h8
 refine h8.ldA (k:=0) (i:=0) rfl (by simp) ?_
 have h9:St w0 w6 ((n4,Cs [lv,tv] 52)::(n164,Cs [lv',tv'] 52)::(n9,Cs (qE e) 45)::(zg D'++((X2++(Lo++X))++H))):=h8.perm (qK fun c=>by
  simp only[List.map_append,List.map_cons,List.sum_append,List.sum_cons];omega)
 refine h9.stA (k:=0) rfl rfl (by simp) hone fun w7 h10=>?_
 have h10:St w0 w7 ((n4,Cs [lv',tv'] 52)::(n164,Cs [lv',tv'] 52)::(n9,Cs (qE e) 45)::(zg D'++((X2++(Lo++X))++H))):=h10
 have h11:St w0 w7 ((n164,Cs [lv',tv'] 52)::(n9,Cs (qE e) 45)::(zg D'++((n4,Cs [lv',tv'] 52)::((X2++(Lo++X))++H)))):=h10.perm (qK fun c=>by
  simp only[List.map_append,List.map_cons,List.sum_append,List.sum_cons];omega)
 have h11:=(h11.tail hn164).tail hn9
 obtain⟨r,hr,hclk,hfew⟩:=hFR'.clocks om
 have hcells:=hFR'.bytes
 have hracy:VJ D'.d=s'.Told:=by rw[hd'];exact hFR'.racy
 have htl':=hFR'.told_few
 have htl3:=hFR'.di.tlen
 rw[<-hd']at hclk hfew hcells htl' htl3
 obtain⟨ta,tc,htv⟩:=hST.form
 subst htv
 rw[<-hdb]
 refine qzS h11 hD' om fun w8 h12=>⟨_,_,rfl,?_⟩
 have front:∀ {w':World},St w0 w' (zg D'++((n4,Cs [lv',.slice ta s'.Told.length tc] 52)::((X2++(Lo++X))++H)))->St w0 w' ((n4,Cs [lv',.slice ta s'.Told.length tc] 52)::(zg D'++((X2++(Lo++X))++H))):=fun h'=>h'.perm (qK fun c=>by
  simp only[List.map_append,List.map_cons,List.sum_append,List.sum_cons];omega)
 refine(front h12).ldA (k:=0) (i:=0) rfl (by simp) ?_
 have mem2:∀ {A:qP} {y:Nat × Obj},y∈X2++X->y∈A++((n4,Cs [lv',.slice ta s'.Told.length tc] 52)::((X2++(Lo++X))++H)):=fun hy=>(List.mem_append.1 hy).elim (fun h=>by simp[h]) (fun h=>by simp[h])
 refine qdW h12 (fun w' h'=>hSL.row fun y hy=>h'.has _ _ (mem2 (hL' y hy))) hr fun w9 h13=>⟨_,_,rfl,?_⟩
 rw[show((Zf x).2 != (Zf x).2)=false by simp,qd]
 have h14:=h13.drew
 refine qAM (l:=(Zf x).1) h14 (fun w' h'=>hS.row fun y hy=>h'.has _ _ (by simp[hy])) (fun w' h'=>hSO.row fun y hy=>h'.has _ _ (by simp[hO' y hy])) om fun w10 h15=>⟨true,rfl,?_⟩
 rw[show(!true)=false from rfl,qd]
 rw[hclk,hcells]
 have tcell:∀ {w':World} {A:qP},St w0 w' A->(n4,Cs [lv',.slice ta s'.Told.length tc] 52)∈A->w'.cell? ((Addr.mk n4 0 none).add 1)=some (.slice ta s'.Told.length tc):=fun h' hm=>by
  rw[qc,qv (h'.has _ _ hm)];rfl
 have hrowT:∀ {w':World} {A:qP},St w0 w' A->(∀ y,y∈X2\/y∈X->y∈A)->Qt w' 1 (.slice ta s'.Told.length tc) s'.Told.length (s'.Told.map zt):=fun h' hm=>hST.row fun y hy=>h'.has _ _ (hm y (List.mem_append.1 (hT' y hy)))
 have hNX':zr w0 (X2++(Lo++X)):=fun y hy=>by
  simp only[List.mem_append]at hy
  rcases hy with hy | hy | hy
  ·exact hNX2 y hy
  ·exact hN y hy
  ·exact hNX y hy
 have fin:∀ (w':World),St w0 w' (zg D'++((n4,Cs [lv',.slice ta s'.Told.length tc] 52)::((X2++(Lo++X))++H)))->Qo (Mo.JI r != Mo.JI r) true (Addr.mk n4 0 none) (some (Addr.mk D'.db 0 none)) (some a0) l.length sc l.length i false w' K (fun e' w'=>∃ m,m<l.length-i/\EvI w0 H l (some a0) sc n4 D'.db m e' w'):=fun w' h'=>by
  rw[show(Mo.JI r != Mo.JI r)=false by simp,qlE,qd,qlW]
  refine qbd (D:=D') h' hD' fun w11 D2 hd2 hD2 h16=>⟨_,rfl,?_⟩
  rw[Option.isNone_some,qd]
  have h17:=h16.drew
  have hr2:VJ D2.d=s'.Told:=by rw[hd2];exact hracy
  have done:∀ w',St w0 w' (zg D2++(zg D'++((n4,Cs [lv',.slice ta s'.Told.length tc] 52)::((X2++(Lo++X))++H))))->q1N (!true) true (Addr.mk n4 0 none) (some (Addr.mk D'.db 0 none)) (some a0) l.length sc l.length i false w' K (fun e' w'=>∃ m,m<l.length-i/\EvI w0 H l (some a0) sc n4 D'.db m e' w'):=fun w' h'=>by
   rw[show(!true)=false from rfl,qlB,qd,qo9]
   refine⟨l.length-(i+1),by omega,i+1,D',s',lv',_,LL',LT',X2++(Lo++X),by omega,rfl,?_,rfl,by rw[hd'];exact hFR',hD',hsl'.1,hsl'.2,hSL,fun y hy=>?_,hST,fun y hy=>?_,hNX',h'.sub hD2.newH⟩
   ·rw[qk om om];rfl
   ·exact(List.mem_append.1 (hL' y hy)).elim (fun h=>by simp[h]) (fun h=>by simp[h])
   ·exact(List.mem_append.1 (hT' y hy)).elim (fun h=>by simp[h]) (fun h=>by simp[h])
  have hst2:D2.d.told.length<=1000:=by rw[hd2];omega
  constructor
  ·refine q3b (D:=D2) h17 hD2 hst2 fun w12 a2 c2 L12 hS12 hN12 h18=>⟨a2,_,c2,rfl,ta,_,tc,tcell h18 (by simp),?_⟩
   rw[hr2]at hS12 ⊢
   refine Yr (l:=s'.Told) h18 (fun w' h'=>hS12.row fun y hy=>h'.has _ _ (by simp[hy])) (fun w' h'=>hrowT h' fun y hy=>by rcases hy with h | h<;>simp[h]) om fun w13 h19=>⟨true,rfl,done w13 (h19.sub hN12)⟩
  ·refine⟨ta,_,tc,tcell h17 (by simp),?_⟩
   refine q3b (D:=D2) h17 hD2 hst2 fun w12 a2 c2 L12 hS12 hN12 h18=>⟨a2,_,c2,rfl,?_⟩
   rw[hr2]at hS12 ⊢
   refine Yr (l:=s'.Told) h18 (fun w' h'=>hS12.row fun y hy=>h'.has _ _ (by simp[hy])) (fun w' h'=>hrowT h' fun y hy=>by rcases hy with h | h<;>simp[h]) om fun w13 h19=>⟨true,rfl,done w13 (h19.sub hN12)⟩
 have hst1:D'.d.told.length<=1000:=by omega
 constructor
 ·refine q3b (D:=D') h15 hD' hst1 fun w12 a2 c2 L12 hS12 hN12 h18=>⟨a2,_,c2,rfl,ta,_,tc,tcell h18 (by simp),?_⟩
  rw[hracy]at hS12 ⊢
  refine Yr (l:=s'.Told) h18 (fun w' h'=>hS12.row fun y hy=>h'.has _ _ (by simp[hy])) (fun w' h'=>hrowT h' fun y hy=>by rcases hy with h | h<;>simp[h]) om fun w13 h19=>⟨true,rfl,?_⟩
  rw[show(!true)=false from rfl,qd,show(mny (yh s'.L) 0 != mny (yh s'.L) 0)=false by simp,qd]
  exact fin w13 (h19.sub hN12)
 ·refine⟨ta,_,tc,tcell h15 (by simp),?_⟩
  refine q3b (D:=D') h15 hD' hst1 fun w12 a2 c2 L12 hS12 hN12 h18=>⟨a2,_,c2,rfl,?_⟩
  rw[hracy]at hS12 ⊢
  refine Yr (l:=s'.Told) h18 (fun w' h'=>hS12.row fun y hy=>h'.has _ _ (by simp[hy])) (fun w' h'=>hrowT h' fun y hy=>by rcases hy with h | h<;>simp[h]) om fun w13 h19=>⟨true,rfl,?_⟩
  rw[show(!true)=false from rfl,qd,show(mny (yh s'.L) 0 != mny (yh s'.L) 0)=false by simp,qd]
  exact fin w13 (h19.sub hN12)
end Go.Fx.Tryz
namespace Go.Fx
open Go
theorem St.below{w0 w:World}(h:St w0 w []):RowKit.Below w0.heap.size w0 w:=⟨h.kept.os,h.kept.tape,h.kept.output,h.le,fun k hk=>h.old k hk (by simp)⟩
namespace Tryz
open Go.Fx.Mo
open Go.Proofs
set_option maxRecDepth 20000
theorem ql5:P.cellsOf 45=6:=kr
theorem qHY:P.cellsOf 3=1:=kr
theorem qzy:P.cellsOf 43=1:=kr
variable {H:Type} {enc:TypeId × Value->H} {W:World}
theorem qvk(l:List Ev){i j:Nat}(hi:i<l.length)(hj:j<6):(zq l)[i*6+j]?=(qE l[i])[j]?:=by
 have h:=QM hi
 have:=congrArg (fun l=>l[j]?) h
 simp only[List.getElem?_take,hj,if_true,List.getElem?_drop]at this
 exact this
theorem own:ownKnob P.godebug=none:=kr
theorem qBC:laidOutB P=true:=kr
theorem readable22:P.readableRec 22=true:=kr
theorem qDp:22<P.types.size:=of_decide_eq_true kr
end Tryz
end Go.Fx
namespace Go.Fx.Tryz
open Go Go.Fx Go.Fx.Mo
open Go.Proofs
set_option maxRecDepth 20000
variable {H:Type} {enc:TypeId × Value->H} {W:World}
theorem qJz{n:Int}(h:(Lit.int .u32 n).wf=true):0<=n/\n<4294967296:=by
 simp[Lit.wf,IntKind.min,IntKind.max,IntKind.signed,IntKind.bits]at h
 omega
theorem q5N{base:Nat}{spare:Nat->Bool}{held:Bool}{fuel:Nat}{cs:List Value}{x:DataW H × List MemPlace}(h:DataW.trod enc P W base spare held fuel 45 cs=some x):∃ e:Ev,cs=qE e/\0<=e.a/\e.a<4294967296:=by
 obtain⟨xs,n,_,_,hl,hlen,hf⟩:=DataW.trod_struct Tryz.underlying45 h
 rw[ql5]at hl
 match cs,hl with
 | [c0,c1,c2,c3,c4,c5],_=>
 have hx:∀ i,i<6->∃ y,xs[i]?=some y:=fun i hi=>⟨xs[i]'(by rw[hlen];exact hi),List.getElem?_eq_getElem _⟩
 obtain⟨y0,e0⟩:=hx 0 om
 obtain⟨y1,e1⟩:=hx 1 om
 obtain⟨y2,e2⟩:=hx 2 om
 obtain⟨y3,e3⟩:=hx 3 om
 obtain⟨y4,e4⟩:=hx 4 om
 obtain⟨y5,e5⟩:=hx 5 om
 obtain⟨k0,g0,_⟩:=DataW.trod_int Tryz.underlying3 ((hf 0 _ rfl).trans e0)
 obtain⟨k1,g1,_⟩:=DataW.trod_int Tryz.underlying3 ((hf 1 _ rfl).trans e1)
 obtain⟨k2,g2,_⟩:=DataW.trod_int Tryz.underlying43 ((hf 2 _ rfl).trans e2)
 obtain⟨k3,g3,_,w3⟩:=DataW.trod_int Tryz.underlying43 ((hf 3 _ rfl).trans e3)
 obtain⟨k4,g4,_⟩:=DataW.trod_int Tryz.underlying43 ((hf 4 _ rfl).trans e4)
 obtain⟨k5,g5,_⟩:=DataW.trod_int Tryz.underlying3 ((hf 5 _ rfl).trans e5)
 simp[qHY,qzy]at g0 g1 g2 g3 g4 g5
 subst g0 g1 g2 g3 g4 g5
 exact⟨⟨k0,k1,k2,k3,k4,k5⟩,rfl,qJz w3⟩
theorem q4o{base:Nat}{spare:Nat->Bool}{held:Bool}{v:Value}{d:DataW H}{p:List MemPlace}(hv:∃ a len cap,v=.slice a len cap)(h:DataW.Trod enc P W base spare held 22 v d p) :
  ∃ l:List Ev,Qt W 6 v l.length (zq l)/\∀ e∈l,0<=e.a/\e.a<4294967296:=by
 obtain⟨fuel,hf⟩:=h
 obtain⟨a0,len0,cap0,rfl⟩:=hv
 rcases Deep.open_slice Tryz.underlying22 hf with⟨hc,_⟩ | ⟨a,len,cap,m,n,D,Pl,hc,_,hle,hcm,hm,_,hall⟩
 ·have hv:Value.slice a0 len0 cap0=.slice none 0 0:=by simpa [Value.cells]using hc
  exact⟨[],⟨rfl,.inl ⟨hv,rfl⟩⟩,by simp⟩
 ·have hv:Value.slice a0 len0 cap0=.slice (some a) len cap:=by simpa [Value.cells]using hc
  have hlm:len<=m:=by rw[hm];split<;>omega
  obtain⟨E,hE⟩:=Deep.choose_lt (α:=Ev) (n:=len) (p:=fun i e=>(0<=e.a/\e.a<4294967296)/\∀ j,j<6->W.cell? (a.add (i*6+j))=(qE e)[j]?) (fun i hi=>by
   obtain⟨cs',h1,h2⟩:=hall i om
   obtain⟨e,rfl,he⟩:=q5N h2
   rw[ql5]at h1
   obtain⟨_,_,h3⟩:=World.cells?_some h1
   exact⟨e,he,fun j hj=>by rw[<-h3 j hj,Ya]⟩)
  have hlen:((List.range len).map E).length=len:=by simp
  refine⟨(List.range len).map E,⟨QG _,.inr ⟨a,cap,by rw[hlen];exact hv,fun i hi=>?_⟩⟩,fun e he=>?_⟩
  ·rw[hlen]at hi
   have hq:i / 6<((List.range len).map E).length:=by rw[hlen];omega
   have h1:=(hE (i / 6) om).2 (i % 6) om
   have h2:=qvk ((List.range len).map E) (i:=i / 6) (j:=i % 6) hq om
   have e:i / 6*6+i % 6=i:=by omega
   rw[e]at h1 h2
   rw[h1,h2]
   simp
  ·obtain⟨k,hk,rfl⟩:=List.mem_map.1 he
   exact(hE k (List.mem_range.1 hk)).1
end Go.Fx.Tryz
