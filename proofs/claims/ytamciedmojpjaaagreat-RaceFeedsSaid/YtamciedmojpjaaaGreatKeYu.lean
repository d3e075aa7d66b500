/- A part of the proof. -/
import Derived.Test.YtamciedmojpjaaaGreatKdYu
import Derived.Test.YtamciedmojpjaaaGreatKaYu
import Derived.KernelRfl
import Derived.Test.YtamciedmojpjaaaGreatKcYu
import Derived.Sort.AssemblyPlain
import Derived.Shelf.SlSortCmp.Xorshift
import Derived.Sort.Walk13a
import Derived.ChangeKeysEq
set_option linter.unusedSectionVars false
set_option autoImplicit true
set_option relaxedAutoImplicit true
noncomputable section
namespace Go.Fx.Mo
def Vs(ps:List vd)(e:Ev):List vd:=if acs e=true then
  vC (vC ps (yk e.a,if 4294967296<yk (yk e.a+e.n)then 4294967296 else yk (yk e.a+e.n))) (0,yk (yk (yk e.a+e.n)-4294967296))else ps
def Vi:List Ev->List vd->List vd
 | [],ps=>ps
 | e::t,ps=>Vi t (Vs ps e)
def yh(l:List Ev):List vd:=Vi l []
theorem qq5(ps:List vd)(e:Ev):(Vs ps e).length<=ps.length+2:=by
 unfold Vs
 split
 ·have h1:=JW ps (yk e.a,if 4294967296<yk (yk e.a+e.n)then 4294967296 else yk (yk e.a+e.n))
  have h2:=JW (vC ps (yk e.a,if 4294967296<yk (yk e.a+e.n)then 4294967296 else yk (yk e.a+e.n))) (0,yk (yk (yk e.a+e.n)-4294967296))
  omega
 ·omega
def mny:List vd->Int->Int
 | [],n=>n
 | p::t,n=>mny t (yk (n+yk (p.2-p.1)))
def q1D(p:vd):List Int:=(List.range (p.2-p.1).toNat).map fun k:Nat=>jE (p.1+k)
def yA(ps:List vd):List Int:=ps.flatMap q1D
structure qDj (ps:List vd):Prop where
 each:∀ p∈ps,0<=p.1/\p.1<=p.2/\p.2<=4294967296
 many:mny ps 0=((yA ps).length:Int)
end Go.Fx.Mo
namespace Go.Fx.Tryz
open Go Go.Fx Go.Fx.Mo
open Go.Proofs
variable {w0 w:World} {H Y:qP} {K:KT}
set_option maxRecDepth 20000
theorem q6V{size:Nat}{ov:Value}{n:Nat}{xs:List Value}(h:Qt w size ov n xs){i j:Nat}(hi:i<n)(hj:j<size):∃ a c,ov=.slice (some a) n c/\w.cell? ((a.add (i*size)).add j)=xs[i*size+j]?:=by
 rcases h.2 with⟨_,h0⟩ | ⟨a,c,h1,h2⟩
 ·omega
 ·refine⟨a,c,h1,?_⟩
  have hle:i*size+size<=n*size:=by rw[<-Nat.succ_mul];exact Nat.mul_le_mul_right _ hi
  rw[Ya,h2 _ om]
theorem q1X{α:Type}{l:List α}{f:α->List Value}{n:Nat}(h:∀ x∈l,(f x).length=n){i j:Nat}(hi:i<l.length)(hj:j<n):((l.map f).flatten)[i*n+j]?=(f l[i])[j]?:=by
 have h1:=yD h hi
 rw[<-h1,List.getElem?_take,if_pos hj,List.getElem?_drop]
theorem qa9{l:List Ev}{ov:Value}(h:St w0 w H)(hrow:∀ w',St w0 w' H->Qt w' 6 ov l.length (zq l))(hl:l.length<=20000)
  (hK:∀ w' a c Lo,zC 2 148 (.slice a (yh l).length c) (yh l).length (vR (yh l)) Lo->zr w0 Lo->(yh l).length<=40000->St w0 w' (Lo++H)->K (.slice a (yh l).length c) w'):qa P 49 [ov] w K:=by
 obtain⟨sa,sc,hov⟩:=(hrow w h).form
 rw[hov]
 refine qHV _ _ _ _ _ ?_
 rw[qFz,qmJ,qns]
 refine⟨_,_,_,_,qEh w,?_⟩
 have h2:=h.alloc (.cells #[] 148 (0,0))
 have hn:=h.le
 generalize w.heap.size=n at h2 hn
 have h2:St w0 (w.alloc (.cells #[] 148 (0,0))) ([(n,Cs [] 148)]++H):=h2
 rw[qnf,qnQ]
 refine⟨fun m ee w=>∃ (i:Nat) (ps:List vd) (oa:Option Addr) (oc:Nat) (Lo:qP),i<=l.length/\m=l.length-i/\ee=ql.mk 44 [(4,qj (i:Nat)),(3,.slice oa ps.length oc),(0,.slice sa l.length sc),(2,qy)] []/\
   Vi (l.drop i) ps=yh l/\ps.length<=2*i/\zC 2 148 (.slice oa ps.length oc) ps.length (vR ps) Lo/\zr w0 Lo/\St w0 w (Lo++H),
  ⟨l.length,0,[],_,_,_,by omega,rfl,rfl,rfl,by simp,Qg 2 148 n,by simpa [zr]using hn,h2⟩,?_⟩
 rintro m ee w4 ⟨i,ps,oa,oc,Lo,hi,rfl,rfl,hfin,hob,hS,hN,hw⟩
 show qkI ..
 rw[qdm]
 refine⟨l.length,fun wq _=>yb wq,?_⟩
 rw[qg]
 constructor
 ·intro hlt
  have hlt:i<l.length:=by simpa using hlt
  rw[qmO]
  have hdrop:l.drop i=l[i]::l.drop (i+1):=List.drop_eq_getElem_cons hlt
  rw[hdrop,Vi]at hfin
  obtain⟨a,c,hac,hld⟩:=(hrow w4 (hw.sub hN)).ldA hlt
  rw[hov]at hac
  obtain⟨hsa,-⟩:sa=some a/\sc=c:=by simpa using hac
  subst hsa
  refine⟨by omega,by omega,hld _ ?_⟩
  rw[QM hlt]
  have next:∀ w5 ps' oa oc Lo,Vs ps l[i]=ps'->zC 2 148 (.slice oa ps'.length oc) ps'.length (vR ps') Lo->zr w0 Lo->St w0 w5 (Lo++H)->
    q7B oa ps'.length oc (some a) l.length sc none 0 0 (i:Nat) w5 K (fun e' w'=>∃ m,m<l.length-i/\∃ (i:Nat) (ps:List vd) (oa:Option Addr) (oc:Nat) (Lo:qP),i<=l.length/\m=l.length-i/\e'=ql.mk 44 [(4,qj (i:Nat)),(3,.slice oa ps.length oc),(0,.slice (some a) l.length sc),(2,qy)] []/\
     Vi (l.drop i) ps=yh l/\ps.length<=2*i/\zC 2 148 (.slice oa ps.length oc) ps.length (vR ps) Lo/\zr w0 Lo/\St w0 w' (Lo++H)):=by
   intro w5 ps' oa oc Lo hp hS' hN' h5
   rw[qpJ]
   refine⟨l.length-(i+1),by omega,i+1,ps',oa,oc,Lo,by omega,rfl,?_,by rw[<-hp];exact hfin,?_,hS',hN',h5⟩
   ·rw[qk om om];rfl
   ·have:=qq5 ps l[i]
    rw[hp]at this;omega
  refine q9n hw l[i] fun w5 h5=>⟨_,rfl,?_⟩
  cases ha:acs l[i]
  ·rw[qd]
   exact next w5 ps oa oc Lo (by unfold Vs;rw[ha];simp) hS hN h5
  ·rw[qm]
   have rd:∀ {w':World} (j:Nat),St w0 w' (Lo++H)->j<6->w'.cell? ((a.add (Int.toNat (i:Int)*6)).add j)=(qE l[i])[j]?:=fun {w'} j h' hj=>by
    obtain⟨a',c',hac',hc⟩:=q6V (hrow w' (h'.sub hN)) hlt hj
    rw[hov]at hac'
    obtain⟨rfl,-⟩:a=a'/\sc=c':=by simpa using hac'
    rw[Int.toNat_natCast,hc]
    exact q1X (f:=qE) (fun _ _=>rfl) hlt hj
   refine⟨by omega,by omega,l[i].a,rd 3 h5 om,by omega,by omega,l[i].n,rd 5 h5 om,_,w5,q9i _ _ _,_,fun wq=>q44 _ _ wq,?_⟩
   refine q6Y h5 hS hN om fun w6 a2 c2 L2 hS2 hN2 h6=>⟨a2,_,c2,rfl,_,fun wq=>q44 _ _ wq,?_⟩
   refine q6Y h6 hS2 hN2 ?_ fun w7 a3 c3 L3 hS3 hN3 h7=>⟨a3,_,c3,rfl,?_⟩
   ·have:=JW ps (IntKind.wrap .i64 l[i].a,if(4294967296:Int)<IntKind.wrap .i64 (IntKind.wrap .i64 l[i].a+l[i].n)then 4294967296 else IntKind.wrap .i64 (IntKind.wrap .i64 l[i].a+l[i].n))
    omega
   ·exact next w7 _ a3 c3 L3 (by unfold Vs;rw[ha,if_pos rfl];rfl) hS3 hN3 h7
 ·intro hge
  have hge:l.length<=i:=by simpa using hge
  have:i=l.length:=by omega
  subst this
  rw[List.drop_length,Vi]at hfin
  rw[qmj]
  subst hfin
  exact hK w4 oa oc Lo hS hN om hw
theorem qlu{ps:List vd}{ov:Value}(h:St w0 w H)(hrow:∀ w',St w0 w' H->Qt w' 2 ov ps.length (vR ps))(hl:ps.length<=40000)(hK:∀ w',St w0 w' H->K (qj (mny ps 0)) w'):qa P 48 [ov] w K:=by
 obtain⟨sa,sc,hov⟩:=(hrow w h).form
 rw[hov]
 refine qGs _ _ _ _ _ ?_
 rw[qHp]
 refine⟨fun m ee w=>∃ (i:Nat) (s:Int),i<=ps.length/\m=ps.length-i/\ee=ql.mk 25 [(4,qj (i:Nat)),(0,.slice sa ps.length sc),(3,qj s),(2,qj 0)] []/\mny (ps.drop i) s=mny ps 0/\St w0 w H,
  ⟨ps.length,0,0,by omega,rfl,rfl,rfl,h⟩,?_⟩
 rintro m ee w4 ⟨i,s,hi,rfl,rfl,hfin,hw⟩
 show qiI ..
 rw[qhF]
 refine⟨ps.length,fun wq _=>q2w wq,?_⟩
 rw[qg]
 constructor
 ·intro hlt
  have hlt:i<ps.length:=by simpa using hlt
  rw[qoz]
  have hdrop:ps.drop i=ps[i]::ps.drop (i+1):=List.drop_eq_getElem_cons hlt
  rw[hdrop,mny]at hfin
  have hd:=hw.drew
  obtain⟨a,c,hac,hc1⟩:=q6V (hrow _ hd) hlt (j:=1) om
  rw[hov]at hac
  obtain⟨hsa,-⟩:sa=some a/\sc=c:=by simpa using hac
  subst hsa
  obtain⟨a',c',hac',hc0⟩:=q6V (hrow _ hd) hlt (j:=0) om
  rw[hov]at hac'
  obtain⟨rfl,-⟩:a=a'/\sc=c':=by simpa using hac'
  have e1:=q1X (l:=ps) (f:=yV) (n:=2) (fun _ _=>rfl) hlt (j:=1) om
  have e0:=q1X (l:=ps) (f:=yV) (n:=2) (fun _ _=>rfl) hlt (j:=0) om
  rw[show vR ps=(ps.map yV).flatten from rfl,e1]at hc1
  rw[show vR ps=(ps.map yV).flatten from rfl,e0,Ya,Nat.add_zero]at hc0
  refine⟨by omega,by omega,by omega,by omega,ps[i].2,by rw[Int.toNat_natCast];exact hc1,ps[i].1,by rw[Int.toNat_natCast];exact hc0,?_⟩
  rw[qpb]
  refine⟨ps.length-(i+1),by omega,i+1,_,by omega,rfl,?_,hfin,hd⟩
  rw[qk om om];rfl
 ·intro hge
  have hge:ps.length<=i:=by simpa using hge
  have:i=ps.length:=by omega
  subst this
  rw[List.drop_length,mny]at hfin
  rw[qoS,hfin]
  exact hK w4 hw
end Go.Fx.Tryz
namespace Go.Fx.Mo
def JA(p:vd):Prop:=0<=p.1/\p.1<p.2/\p.2<=4294967296
structure PA (ps:List vd):Prop where
 val:∀ p∈ps,JA p
 ord:ps.Pairwise fun p q=>p.2<q.1
def inP(ps:List vd)(b:Int):Prop:=∃ p∈ps,p.1<=b/\b<p.2
theorem Jo(ps qs:List vd)(b:Int):inP (ps++qs) b↔inP ps b\/inP qs b:=by
 unfold inP
 constructor
 ·rintro⟨p,hp,h⟩
  rcases List.mem_append.1 hp with hp | hp
  ·exact .inl ⟨p,hp,h⟩
  ·exact .inr ⟨p,hp,h⟩
 ·rintro(⟨p,hp,h⟩ | ⟨p,hp,h⟩)
  ·exact⟨p,List.mem_append_left _ hp,h⟩
  ·exact⟨p,List.mem_append_right _ hp,h⟩
theorem q4D(p:vd)(qs:List vd)(b:Int):inP (p::qs) b↔(p.1<=b/\b<p.2)\/inP qs b:=by
 have:=Jo [p] qs b
 rw[List.singleton_append]at this
 rw[this]
 unfold inP
 simp
theorem qlh(b:Int):¬ inP [] b:=by rintro⟨p,hp,_⟩;cases hp
theorem PA.app{ps qs:List vd}:PA (ps++qs)↔PA ps/\PA qs/\∀ p∈ps,∀ q∈qs,p.2<q.1:=by
 constructor
 ·rintro⟨h1,h2⟩
  obtain⟨a,b,c⟩:=List.pairwise_append.1 h2
  exact⟨⟨fun p hp=>h1 p (List.mem_append_left _ hp),a⟩,⟨fun p hp=>h1 p (List.mem_append_right _ hp),b⟩,c⟩
 ·rintro⟨⟨h1,h2⟩,⟨h3,h4⟩,h5⟩
  refine⟨fun p hp=>?_,List.pairwise_append.2 ⟨h2,h4,h5⟩⟩
  rcases List.mem_append.1 hp with hp | hp
  ·exact h1 p hp
  ·exact h3 p hp
theorem PA.one{p:vd}(h:JA p):PA [p]:=⟨by simpa using h,by simp⟩
theorem PA.cons{p:vd}{qs:List vd}:PA (p::qs)↔JA p/\PA qs/\∀ q∈qs,p.2<q.1:=by
 have:=PA.app (ps:=[p]) (qs:=qs)
 rw[List.singleton_append]at this
 rw[this]
 constructor
 ·rintro⟨h1,h2,h3⟩
  exact⟨h1.val p (by simp),h2,fun q hq=>h3 p (by simp) q hq⟩
 ·rintro⟨h1,h2,h3⟩
  refine⟨PA.one h1,h2,fun r hr q hq=>?_⟩
  have:r=p:=by simpa using hr
  rw[this]
  exact h3 q hq
theorem q58:∀ (l o:List vd) (x:vd),JA x->(∀ q∈l,x.2<q.1)->(∀ q∈l,JA q)->yd l (o,true,x)=(o++l,true,x)
 | [],o,x,_,_,_=>by simp[yd]
 | p::t,o,x,hx,h1,h2=>by
  have hp:=h1 p (by simp)
  have hv:=h2 p (by simp)
  unfold JA at hx hv
  have:jf (o,true,x) p=(o++[p],true,x):=by
   unfold jf
   dsimp only
   rw[if_neg om,if_pos om]
   rfl
  unfold yd
  rw[this,q58 t _ x hx (fun q hq=>h1 q (by simp[hq])) (fun q hq=>h2 q (by simp[hq]))]
  simp
def qyB(s:List vd × Bool × vd):List vd:=if s.2.1 then s.1 else s.1++[s.2.2]
theorem q3J:∀ (l o:List vd) (x:vd),PA (o++l)->JA x->(∀ p∈o,p.2<x.1)->PA (qyB (yd l (o,false,x)))/\∀ b,inP (qyB (yd l (o,false,x))) b↔inP (o++l) b\/(x.1<=b/\b<x.2)
 | [],o,x,h,hx,ho=>by
  have e:qyB (yd [] (o,false,x))=o++[x]:=rfl
  rw[e,List.append_nil]
  rw[List.append_nil]at h
  refine⟨PA.app.2 ⟨h,PA.one hx,fun p hp q hq=>?_⟩,fun b=>?_⟩
  ·have:q=x:=by simpa using hq
   rw[this]
   exact ho p hp
  ·rw[Jo,q4D]
   have:=qlh b
   simp[this]
 | p::t,o,x,h,hx,ho=>by
  obtain⟨a1,a2,a3⟩:=PA.app.1 h
  obtain⟨c1,c2,c3⟩:=PA.cons.1 a2
  have hx':=hx
  have c1':=c1
  unfold JA at hx' c1'
  by_cases h1:p.2<x.1
  ·have e:yd (p::t) (o,false,x)=yd t (o++[p],false,x):=by
    show yd t (jf (o,false,x) p)=_
    unfold jf
    rw[if_pos h1]
   have e2:o++p::t=(o++[p])++t:=by simp
   rw[e,e2]
   rw[e2]at h
   refine q3J t (o++[p]) x h hx fun q hq=>?_
   rcases List.mem_append.1 hq with hq | hq
   ·exact ho q hq
   ·have:q=p:=by simpa using hq
    rw[this];exact h1
  ·by_cases h2:p.1 > x.2
   ·have e:yd (p::t) (o,false,x)=yd t (o++[x]++[p],true,x):=by
     show yd t (jf (o,false,x) p)=_
     unfold jf
     rw[if_neg h1,if_pos h2]
     rfl
    have e2:qyB (yd (p::t) (o,false,x))=o++(x::p::t):=by
     rw[e,q58 t _ x hx (fun q hq=>by have:=c3 q hq;omega) c2.val]
     unfold qyB
     simp
    rw[e2]
    refine⟨PA.app.2 ⟨a1,PA.cons.2 ⟨hx,a2,fun q hq=>?_⟩,fun r hr q hq=>?_⟩,fun b=>?_⟩
    ·rcases List.mem_cons.1 hq with rfl | hq
     ·omega
     ·have:=c3 q hq;omega
    ·rcases List.mem_cons.1 hq with rfl | hq
     ·exact ho r hr
     ·exact a3 r hr q hq
    ·rw[Jo,Jo,q4D x (p::t)]
     constructor
     ·rintro(hq | hq | hq)
      ·exact .inl (.inl hq)
      ·exact .inr hq
      ·exact .inl (.inr hq)
     ·rintro((hq | hq) | hq)
      ·exact .inl hq
      ·exact .inr (.inr hq)
      ·exact .inr (.inl hq)
   ·have e:yd (p::t) (o,false,x)=yd t (o,false,(if p.1<x.1 then p.1 else x.1,if x.2<p.2 then p.2 else x.2)):=by
     show yd t (jf (o,false,x) p)=_
     unfold jf
     rw[if_neg h1,if_neg h2]
    rw[e]
    have hnew:JA (if p.1<x.1 then p.1 else x.1,if x.2<p.2 then p.2 else x.2):=by
     unfold JA
     dsimp only
     split<;>split<;>omega
    obtain⟨k1,k2⟩:=q3J t o _ (PA.app.2 ⟨a1,c2,fun r hr q hq=>a3 r hr q (by simp[hq])⟩) hnew fun q hq=>by
     have q1:=ho q hq
     have q2:=a3 q hq p (by simp)
     dsimp only
     split<;>omega
    refine⟨k1,fun b=>?_⟩
    rw[k2 b,Jo,Jo,q4D]
    have hb:((if p.1<x.1 then p.1 else x.1)<=b/\b<(if x.2<p.2 then p.2 else x.2))↔(p.1<=b/\b<p.2)\/(x.1<=b/\b<x.2):=by
     split<;>split<;>omega
    dsimp only
    rw[hb]
    constructor
    ·rintro((hq | hq) | hq | hq)
     ·exact .inl (.inl hq)
     ·exact .inl (.inr (.inr hq))
     ·exact .inl (.inr (.inl hq))
     ·exact .inr hq
    ·rintro((hq | hq | hq) | hq)
     ·exact .inl (.inl hq)
     ·exact .inr (.inl hq)
     ·exact .inl (.inr hq)
     ·exact .inr (.inr hq)
theorem q64{ps:List vd}{x:vd}(h:PA ps)(h0:0<=x.1)(h1:x.2<=4294967296):PA (vC ps x)/\∀ b,inP (vC ps x) b↔inP ps b\/(x.1<=b/\b<x.2):=by
 unfold vC
 by_cases hx:x.1>=x.2
 ·rw[if_pos hx]
  refine⟨h,fun b=>?_⟩
  constructor
  ·exact fun hq=>.inl hq
  ·rintro(hq | hq)
   ·exact hq
   ·omega
 ·rw[if_neg hx]
  have:=q3J ps [] x h ⟨h0,by omega,h1⟩ (by simp)
  rw[List.nil_append]at this
  exact this
theorem qtv{ps:List vd}{e:Ev}(h:PA ps)(ha:0<=e.a/\e.a<4294967296)(hn:acs e=true->0<=e.n/\e.n<=65536):PA (Vs ps e)/\∀ b,inP (Vs ps e) b↔inP ps b\/(0<=b/\b<4294967296/\has e b=true):=by
 unfold Vs
 by_cases hac:acs e=true
 ·rw[if_pos hac]
  have hn:=hn hac
  rw[zV (x:=e.a) om om,zV (x:=e.a+e.n) om om,zV (x:=e.a+e.n-4294967296) om om]
  obtain⟨k1,k2⟩:=q64 (x:=(e.a,if 4294967296<e.a+e.n then 4294967296 else e.a+e.n)) h ha.1 (by dsimp only;split<;>omega)
  obtain⟨k3,k4⟩:=q64 (x:=(0,e.a+e.n-4294967296)) k1 (Int.le_refl 0) (by dsimp only;omega)
  refine⟨k3,fun b=>?_⟩
  rw[k4 b,k2 b,or_assoc]
  refine or_congr_right ?_
  dsimp only
  unfold has
  rw[hac,Bool.true_and,decide_eq_true_iff]
  have hr:0<=jE (b-e.a)/\jE (b-e.a)<4294967296:=by rw[jD];omega
  rw[zV om om,jD]
  split<;>omega
 ·rw[if_neg hac]
  refine⟨h,fun b=>?_⟩
  have:has e b=false:=by unfold has;simp[hac]
  rw[this]
  simp
theorem q9E:∀ (l:List Ev) (ps:List vd),PA ps->(∀ e∈l,0<=e.a/\e.a<4294967296)->(∀ e∈l,acs e=true->0<=e.n/\e.n<=65536)->PA (Vi l ps)/\∀ b,inP (Vi l ps) b↔inP ps b\/(0<=b/\b<4294967296/\∃ e∈l,has e b=true)
 | [],ps,h,_,_=>⟨h,fun b=>by simp[Vi]⟩
 | e::t,ps,h,ha,hn=>by
  obtain⟨k1,k2⟩:=qtv h (ha e (by simp)) (hn e (by simp))
  obtain⟨k3,k4⟩:=q9E t (Vs ps e) k1 (fun x hx=>ha x (by simp[hx])) (fun x hx=>hn x (by simp[hx]))
  refine⟨k3,fun b=>?_⟩
  show inP (Vi t (Vs ps e)) b↔_
  rw[k4 b,k2 b]
  constructor
  ·rintro((hq | ⟨h0,h1,hq⟩) | ⟨h0,h1,x,hx,hq⟩)
   ·exact .inl hq
   ·exact .inr ⟨h0,h1,e,by simp,hq⟩
   ·exact .inr ⟨h0,h1,x,by simp[hx],hq⟩
  ·rintro(hq | ⟨h0,h1,x,hx,hq⟩)
   ·exact .inl (.inl hq)
   ·rcases List.mem_cons.1 hx with rfl | hx
    ·exact .inl (.inr ⟨h0,h1,hq⟩)
    ·exact .inr ⟨h0,h1,x,hx,hq⟩
theorem YP{p:vd}(h:JA p)(b:Int):b∈q1D p↔p.1<=b/\b<p.2:=by
 unfold JA at h
 unfold q1D
 rw[List.mem_map]
 constructor
 ·rintro⟨k,hk,rfl⟩
  have hk:k<(p.2-p.1).toNat:=by simpa using hk
  rw[jD]
  omega
 ·intro hb
  refine⟨(b-p.1).toNat,by simp;omega,?_⟩
  rw[jD]
  omega
theorem q5O{p:vd}(h:JA p):(q1D p).Pairwise (· < ·):=by
 unfold JA at h
 unfold q1D
 rw[List.pairwise_map]
 refine List.Pairwise.imp_of_mem ?_ List.pairwise_lt_range
 intro i j hi hj hij
 have hi:i<(p.2-p.1).toNat:=by simpa using hi
 have hj:j<(p.2-p.1).toNat:=by simpa using hj
 rw[jD,jD]
 omega
theorem q8V{ps:List vd}(h:PA ps)(b:Int):b∈yA ps↔inP ps b:=by
 unfold yA inP
 rw[List.mem_flatMap]
 constructor
 ·rintro⟨p,hp,hb⟩
  exact⟨p,hp,(YP (h.val p hp) b).1 hb⟩
 ·rintro⟨p,hp,hb⟩
  exact⟨p,hp,(YP (h.val p hp) b).2 hb⟩
theorem q2E{ps:List vd}(h:PA ps):(yA ps).Pairwise (· < ·):=by
 unfold yA
 rw[List.pairwise_flatMap]
 refine⟨fun p hp=>q5O (h.val p hp),?_⟩
 refine List.Pairwise.imp_of_mem ?_ h.ord
 intro p q hp hq hpq x hx y hy
 have h1:=(YP (h.val p hp) x).1 hx
 have h2:=(YP (h.val q hq) y).1 hy
 omega
theorem que:∀ (ps:List vd) (n:Int),PA ps->0<=n->(∀ p∈ps,n<=p.1)->n<=4294967296->mny ps n=n+((yA ps).length:Int)
 | [],n,_,_,_,_=>by simp[mny,yA]
 | p::t,n,h,h0,h1,h2=>by
  obtain⟨c1,c2,c3⟩:=PA.cons.1 h
  have hp:=h1 p (by simp)
  have c1':=c1
  unfold JA at c1'
  unfold mny
  rw[zV (x:=p.2-p.1) om om,zV om om,que t _ c2 om (fun q hq=>by have:=c3 q hq;omega) om]
  have:(yA (p::t)).length=(p.2-p.1).toNat+(yA t).length:=by simp[yA,q1D]
  rw[this]
  omega
theorem q27{l:List Ev}(hok:Ok l l.length)(ha:∀ e∈l,0<=e.a/\e.a<4294967296) :
  PA (yh l)/\qDj (yh l)/\(yA (yh l)).Pairwise (· < ·)/\∀ b,b∈yA (yh l)↔0<=b/\b<4294967296/\∃ k,k<l.length/\has (qX l k) b=true:=by
 have hev:∀ e∈l,∃ k,k<l.length/\qX l k=e:=by
  intro e he
  obtain⟨k,hk,rfl⟩:=List.getElem_of_mem he
  exact⟨k,hk,by unfold qX;simp[List.getD,hk]⟩
 obtain⟨k1,k2⟩:=q9E l [] ⟨by simp,by simp⟩ ha (fun e he hac=>by
  obtain⟨k,hk,rfl⟩:=hev e he
  exact qjW hok hk hac)
 have k1:PA (yh l):=k1
 refine⟨k1,⟨fun p hp=>?_,?_⟩,q2E k1,fun b=>?_⟩
 ·have:=k1.val p hp
  unfold JA at this
  omega
 ·have:=que (yh l) 0 k1 (Int.le_refl 0) (fun p hp=>(k1.val p hp).1) om
  omega
 ·rw[q8V k1]
  show inP (Vi l []) b↔_
  rw[k2 b]
  have:=qlh b
  simp only[this,false_or]
  refine and_congr_right fun _=>and_congr_right fun _=>?_
  constructor
  ·rintro⟨e,he,hb⟩
   obtain⟨k,hk,rfl⟩:=hev e he
   exact⟨k,hk,hb⟩
  ·rintro⟨k,hk,hb⟩
   refine⟨qX l k,?_,hb⟩
   unfold qX
   simp only[List.getD,List.getElem?_eq_getElem hk]
   exact List.getElem_mem _
theorem qal(l:List Ev):∀ n,((List.range n).flatMap fun k=>Ql (qX l k)).length=Qz l n
 | 0=>rfl
 | n+1=>by
  rw[List.range_succ,List.flatMap_append,List.length_append,qal l n,Qz]
  simp[q91]
theorem qma{l:List Ev}(hok:Ok l l.length)(ha:∀ e∈l,0<=e.a/\e.a<4294967296):(yA (yh l)).length<=Qz l l.length:=by
 obtain⟨_,_,h3,h4⟩:=q27 hok ha
 rw[<-qal]
 refine List.Nodup.length_le_of_subset ?_ ?_
 ·exact h3.imp fun hh=>by omega
 ·intro b hb
  obtain⟨h0,h1,k,hk,hh⟩:=(h4 b).1 hb
  exact List.mem_flatMap.2 ⟨k,by simpa using hk,(YG hok hk h0 h1).2 hh⟩
end Go.Fx.Mo
namespace Go.Fx.Tryz
set_option maxRecDepth 100000
open Go Go.Fx Go.Proofs
end Go.Fx.Tryz
namespace Go.Fx.Tryz
open Go Go.Fx Go.Fx.Mo
open Go.Proofs
variable {w0 w:World} {H:qP} {K:KT}
set_option maxRecDepth 20000
end Go.Fx.Tryz
namespace Go.Fx.Tryz
open Go Go.Fx Go.Fx.Mo
open Go.Proofs
variable {w0 w:World} {H Y:qP} {K:KT}
set_option maxRecDepth 20000
theorem qK8(w:World):(Instr.buildSlice 49 0 ([]:List (Nat × Value)).toArray).run P w=.ok (.slice (some ⟨w.heap.size,0,none⟩) 0 0) (w.alloc (.cells #[] 43 (0,0))):=kr
end Go.Fx.Tryz
namespace Go.Fx.Tryz
set_option maxRecDepth 100000
open Go Go.Fx Go.Proofs
end Go.Fx.Tryz
namespace Go.Fx.Tryz
open Go Go.Fx Go.Fx.Mo
open Go.Proofs
variable {w0 w:World} {H Y:qP} {K:KT}
set_option maxRecDepth 20000
end Go.Fx.Tryz
namespace Go.Fx.Tryz
set_option maxRecDepth 100000
open Go Go.Fx Go.Proofs
end Go.Fx.Tryz
namespace Go.Fx.Mo
end Go.Fx.Mo
namespace Go.Fx.Tryz
open Go Go.Fx Go.Fx.Mo
open Go.Proofs
variable {w0 w:World} {H Y:qP} {K:KT}
set_option maxRecDepth 20000
end Go.Fx.Tryz
namespace Go.Fx.Tryz
set_option maxRecDepth 100000
open Go Go.Fx Go.Proofs
def jS:=qx Tryz.f117
def qK3:=Tryz.f117.results.toList
abbrev Yn K:=qH P qK3 K
def f117 a b c d e w K:=CS P jS none [] [] (Yn K) (zh 49 [(VS a b c),(VI d),(VI e)]) w
def qkW a b c d e w K:=SC jS 1 [] [] (Yn K) 49 [(0,VS a b c),(1,VI d),(2,VI e)] w
abbrev qzq K:=kq jS 1 [] [] (Yn K)
def qlk a b c d e f g h w K:=SC jS 3 [] [] (Yn K) 49 [(6,VI a),(9,VI b),(8,VI c),(0,VS d e f),(1,VI g),(2,VI h)] w
abbrev q87 K:=qq 0 (Yn K)
def quS K Y2 e w:=zJ (fun e w=>CS P (cA jS 12) none [0,6,1,2] [] (qw [0,6,1,2] Y2 (q87 K)) e w) e w
abbrev Vl K Y2:=qw [0,6,1,2] Y2 (q87 K)
def q3y a b c d f g w K Y2:=SG jS 12 [0,6,1,2] [] (Vl K Y2) 49 [(0,VS a b c),(6,VI d),(1,VI f),(2,VI g)] w
abbrev ql9 K Y2:=kq jS 12 [0,6,1,2] [] (Vl K Y2)
abbrev qAJ K Y2:=kq jS 24 [0,1,2,6] [] (ql9 K Y2)
def qi8 a b c d f g w K Y2:=SG jS 25 [0,6,1,2] [] (Vl K Y2) 49 [(0,VS a b c),(1,VI d),(2,VI f),(6,VI g)] w
abbrev qie K Y2:=kq jS 25 [0,6,1,2] [] (Vl K Y2)
abbrev q0K K Y2:=qq 1 (qie K Y2)
abbrev qAI K Y2:=kq jS 100 [0,1,2,6] [0,1,2,6] (q0K K Y2)
def qj5 a b c d e f g h w K Y2:=SC jS 201 [0,1,2,6] [0,1,2,6] (q0K K Y2) 49 [(7,VI a),(15,VI b),(0,VS c d e),(1,VI f),(2,VI g),(6,VI h)] w
abbrev q9z K Y2:=qq 2 (q0K K Y2)
def quz K Y2 Y5 e w:=zJ (fun e w=>CS P (cA jS 804) none [7,0,1,2,6] [0,1,2,6] (qw [7,0,1,2,6] Y5 (q9z K Y2)) e w) e w
abbrev VE K Y2 Y5:=qw [7,0,1,2,6] Y5 (q9z K Y2)
def qbV a b c d f g h w K Y2 Y5:=SG jS 804 [7,0,1,2,6] [0,1,2,6] (VE K Y2 Y5) 49 [(7,VI a),(0,VS b c d),(1,VI f),(2,VI g),(6,VI h)] w
abbrev q8W K Y2 Y5:=kq jS 804 [7,0,1,2,6] [0,1,2,6] (VE K Y2 Y5)
abbrev qCn K Y2 Y5:=kq jS 1608 [0,1,2,6,7] [0,1,2,6] (q8W K Y2 Y5)
def q8A a b c d f g h i w K Y2 Y5:=SG jS 3217 [0,1,2,6,7] [0,1,2,6] (q8W K Y2 Y5) 49 [(30,VB a),(0,VS b c d),(1,VI f),(2,VI g),(6,VI h),(7,VI i)] w
def qj1 a b c d f g h w K Y2 Y5:=SG jS 1609 [7,0,1,2,6] [0,1,2,6] (VE K Y2 Y5) 49 [(0,VS a b c),(1,VI d),(2,VI f),(6,VI g),(7,VI h)] w
abbrev qbZ K Y2 Y5:=kq jS 1609 [7,0,1,2,6] [0,1,2,6] (VE K Y2 Y5)
abbrev qsJ K Y2 Y5:=qq 3 (qbZ K Y2 Y5)
def qkX a b c d f g h w K Y2 Y5:=SG jS 3219 [7,0,1,2,6] [0,1,2,6] (VE K Y2 Y5) 49 [(0,VS a b c),(1,VI d),(2,VI f),(6,VI g),(7,VI h)] w
theorem qdb:qkX a c d e f g h w K Y2 Y5=(Y5 (ql.mk 49 [(7,(Value.int .i64 (IntKind.wrap .i64 (h-1)))),(0,(Value.slice a c d)),(1,(Value.int .i64 e)),(2,(Value.int .i64 f)),(6,(Value.int .i64 g))] []) w):=qV kr
theorem qhr:qj1 d e f g h i c w K Y2 Y5=(qi d (fun l=>0<=(IntKind.wrap .i64 (c-1))/\(IntKind.wrap .i64 (c-1))<(e:Nat)/\qi d (fun m=>0<=c/\c<(e:Nat)/\∃ j:Int,w.drew.cell? (l.add (Int.toNat (IntKind.wrap .i64 (c-1))*1))=some (.int .u32 j)/\∃ k:Int,w.drew.cell? (m.add (Int.toNat c*1))=some (.int .u32 k)/\qi d (fun n=>0<=c/\c<(e:Nat)/\zG (n.add (Int.toNat c*1)) (Value.int .u32 j) w.drew (fun o=>qi d (fun p=>0<=(IntKind.wrap .i64 (c-1))/\(IntKind.wrap .i64 (c-1))<(e:Nat)/\zG (p.add (Int.toNat (IntKind.wrap .i64 (c-1))*1)) (Value.int .u32 k) o (fun q=>qkX d e f g h i c q K Y2 Y5))))))):=qV (qT [0,1,2,6,7] (qbZ K Y2 Y5) (QJ 3 [0,1,2,6,7] (qsJ K Y2 Y5) kr))
def q37 a b c d f g w K Y2:=SG jS 51 [0,6,1,2] [] (Vl K Y2) 49 [(0,VS a b c),(1,VI d),(2,VI f),(6,VI g)] w
theorem qeY:q37 a c d e f g w K Y2=(Y2 (ql.mk 49 [(0,(Value.slice a c d)),(6,(Value.int .i64 (IntKind.wrap .i64 (g+1)))),(1,(Value.int .i64 e)),(2,(Value.int .i64 f))] []) w):=qV kr
theorem q5p:q8A h a c d e f g i w K Y2 Y5=(qC h (qj1 a c d e f g i w K Y2 Y5) (q37 a c d e f g w K Y2)):=qV kr
theorem qbS:qbV c d e g f h i w K Y2 Y5=(qC (decide (c > f)) (qi d (fun m=>0<=c/\c<(e:Nat)/\qi d (fun n=>0<=(IntKind.wrap .i64 (c-1))/\(IntKind.wrap .i64 (c-1))<(e:Nat)/\∃ j:Int,w.drew.cell? (m.add (Int.toNat c*1))=some (.int .u32 j)/\∃ k:Int,w.drew.cell? (n.add (Int.toNat (IntKind.wrap .i64 (c-1))*1))=some (.int .u32 k)/\qa P 123 [(Value.int .u32 j),(Value.int .u32 k)] w.drew (fun o p=>∃ l:Bool,o=(.bool l)/\q8A l d e g f h i c p K Y2 Y5)))) (q8A false d e g f h i c w.drew K Y2 Y5)):=qV (qT [0,1,2,6,7] (q8W K Y2 Y5) (qT [30,0,1,2,6,7] (qCn K Y2 Y5) kr))
theorem qf9:qj5 a i c d e f g h w K Y2=(za (quz K Y2) (ql.mk 49 [(7,(Value.int .i64 a)),(0,(Value.slice c d e)),(1,(Value.int .i64 f)),(2,(Value.int .i64 g)),(6,(Value.int .i64 h))] []) w):=Eq.trans (b:=CS P (cA jS 201) none [0,1,2,6] [0,1,2,6] (q0K K Y2) (ql.mk 49 [(7,(VI a)),(15,(VI i)),(0,(VS c d e)),(1,(VI f)),(2,(VI g)),(6,(VI h))] []) w) kr (Eq.trans (YD 2 [0,1,2,6] (q9z K Y2) kr) ((qY (b:=(cA jS 804)) (X':=[0,1,2,6]) (H:=[7,0,1,2,6]) kr kr kr).trans kr))
theorem qha:qi8 d e f g h c w K Y2=(qj5 c c d e f g h c w K Y2):=qV (qT [0,1,2,6] (qie K Y2) (QJ 1 [0,1,2,6] (q0K K Y2) (qT [7,0,1,2,6] (qAI K Y2) kr)))
theorem q2k:q3y e f g c h d w K Y2=(qC (decide (c<d)) (qi8 e f g h d c w K Y2) (K (Value.tuple #[]) w)):=qV (qT [0,1,2,6] (ql9 K Y2) (qT [12,0,1,2,6] (qAJ K Y2) kr))
theorem q43:qlk a h i c d e f g w K=(za (quS K) (ql.mk 49 [(0,(Value.slice c d e)),(6,(Value.int .i64 a)),(1,(Value.int .i64 f)),(2,(Value.int .i64 g))] []) w):=Eq.trans (b:=CS P (cA jS 3) none [] [] (Yn K) (ql.mk 49 [(6,(VI a)),(9,(VI h)),(8,(VI i)),(0,(VS c d e)),(1,(VI f)),(2,(VI g))] []) w) kr (Eq.trans (YD 0 [] (q87 K) kr) ((qY (b:=(cA jS 12)) (X':=[]) (H:=[0,6,1,2]) kr kr kr).trans kr))
theorem q4v:qkW d e f c g w K=(qlk (IntKind.wrap .i64 (c+1)) (IntKind.wrap .i64 (c+1)) c d e f c g w K):=Eq.trans (b:=CS P (cA jS 1) none [] [] (Yn K) (ql.mk 49 [(0,(VS d e f)),(1,(VI c)),(2,(VI g))] []) w) kr (Eq.trans (zN [0,6,1,2] (qzq K) kr) kr)
theorem qk9:f117 a b c d e w K=(qkW a b c d e w K):=kr
theorem qj3 a b c d e w K(h:f117 a b c d e w K):qa P 117 [(Value.slice a b c),(Value.int .i64 d),(Value.int .i64 e)] w K:=zj jS Tryz.func117 h
def YN:=qx Tryz.f121
def qKA:=Tryz.f121.results.toList
abbrev jY K:=qH P qKA K
def f121 a b c d e w K:=CS P YN none [] [] (jY K) (zh 32 [(VS a b c),(VI d),(VI e)]) w
def qib a b c d e w K:=SC YN 1 [] [] (jY K) 32 [(0,VS a b c),(1,VI d),(2,VI e)] w
abbrev qCK K:=kq YN 1 [] [] (jY K)
def qjk a b c d e f g w K:=SC YN 3 [] [] (jY K) 32 [(6,VI a),(8,VI b),(0,VS c d e),(1,VI f),(2,VI g)] w
abbrev qBq K:=kq YN 3 [] [] (jY K)
def qkm a b c d e f g h i j w K:=SC YN 7 [] [] (jY K) 32 [(7,VI a),(10,VI b),(9,VI c),(6,VI d),(8,VI e),(0,VS f g h),(1,VI i),(2,VI j)] w
abbrev q7Q K:=qq 0 (jY K)
def qtM K Y3 e w:=zJ (fun e w=>CS P (cA YN 28) none [7,6,0] [] (qw [7,6,0] Y3 (q7Q K)) e w) e w
abbrev q0E K Y3:=qw [7,6,0] Y3 (q7Q K)
def q9D a b c d f w K Y3:=SG YN 28 [7,6,0] [] (q0E K Y3) 32 [(7,VI a),(6,VI b),(0,VS c d f)] w
abbrev qlf K Y3:=kq YN 28 [7,6,0] [] (q0E K Y3)
abbrev qzo K Y3:=kq YN 56 [0,7,6] [] (qlf K Y3)
def qk3 a b c d f w K Y3:=SG YN 57 [7,6,0] [] (q0E K Y3) 32 [(0,VS a b c),(7,VI d),(6,VI f)] w
abbrev q2K K Y3:=qq 1 (q0E K Y3)
abbrev qBe K Y3:=kq YN 114 [7,6,0] [7,6,0] (q2K K Y3)
def qlt a b c d f w K Y3:=SG YN 229 [7,6,0] [7,6,0] (q2K K Y3) 32 [(0,VS a b c),(7,VI d),(6,VI f)] w
abbrev qBJ K Y3:=kq YN 229 [7,6,0] [7,6,0] (q2K K Y3)
theorem qgp:qlt c d e f g w K Y3=(Y3 (ql.mk 32 [(7,(Value.int .i64 (IntKind.wrap .i64 (f-1)))),(6,(Value.int .i64 (IntKind.wrap .i64 (g+1)))),(0,(Value.slice c d e))] []) w):=qV (qT [6,0,7] (qBJ K Y3) kr)
theorem qgS:qk3 e f g c d w K Y3=(qi e (fun j=>0<=c/\c<(f:Nat)/\qi e (fun k=>0<=d/\d<(f:Nat)/\∃ h:Int,w.drew.cell? (j.add (Int.toNat c*1))=some (.int .u32 h)/\∃ i:Int,w.drew.cell? (k.add (Int.toNat d*1))=some (.int .u32 i)/\qi e (fun l=>0<=d/\d<(f:Nat)/\zG (l.add (Int.toNat d*1)) (Value.int .u32 h) w.drew (fun m=>qi e (fun n=>0<=c/\c<(f:Nat)/\zG (n.add (Int.toNat c*1)) (Value.int .u32 i) m (fun o=>qlt e f g c d o K Y3))))))):=qV (QJ 1 [7,6,0] (q2K K Y3) (qT [0,7,6] (qBe K Y3) kr))
theorem qbl:q9D c d e f g w K Y3=(qC (decide (d<c)) (qk3 e f g c d w K Y3) (K (Value.tuple #[]) w)):=qV (qT [0,7,6] (qlf K Y3) (qT [13,0,7,6] (qzo K Y3) kr))
theorem qek:qkm a g h c i d e f j k w K=(za (qtM K) (ql.mk 32 [(7,(Value.int .i64 a)),(6,(Value.int .i64 c)),(0,(Value.slice d e f))] []) w):=Eq.trans (b:=CS P (cA YN 7) none [] [] (jY K) (ql.mk 32 [(7,(VI a)),(10,(VI g)),(9,(VI h)),(6,(VI c)),(8,(VI i)),(0,(VS d e f)),(1,(VI j)),(2,(VI k))] []) w) kr (Eq.trans (YD 0 [] (q7Q K) kr) ((qY (b:=(cA YN 28)) (X':=[]) (H:=[7,6,0]) kr kr kr).trans kr))
theorem qhG:qjk d e f g h i c w K=(qkm (IntKind.wrap .i64 (c-1)) (IntKind.wrap .i64 (c-1)) c d e f g h i c w K):=Eq.trans (b:=CS P (cA YN 3) none [] [] (jY K) (ql.mk 32 [(6,(VI d)),(8,(VI e)),(0,(VS f g h)),(1,(VI i)),(2,(VI c))] []) w) kr (Eq.trans (zN [7,6,0] (qBq K) kr) kr)
theorem qhh:qib d e f c g w K=(qjk c c d e f c g w K):=Eq.trans (b:=CS P (cA YN 1) none [] [] (jY K) (ql.mk 32 [(0,(VS d e f)),(1,(VI c)),(2,(VI g))] []) w) kr (Eq.trans (zN [6,0,2] (qCK K) kr) kr)
theorem qBl:f121 a b c d e w K=(qib a b c d e w K):=kr
theorem qzM a b c d e w K(h:f121 a b c d e w K):qa P 121 [(Value.slice a b c),(Value.int .i64 d),(Value.int .i64 e)] w K:=zj YN Tryz.func121 h
def qHf:=qx Tryz.f123
def qL1:=Tryz.f123.results.toList
abbrev qk7 K:=qH P qL1 K
def f123 a b w K:=CS P qHf none [4] [4] (qk7 K) (zh 17 [(Value.int .u32 a),(Value.int .u32 b)]) w
def q2U a w K:=SG qHf 7 [4] [4] (qk7 K) 17 [(4,VB a)] w
theorem qgT:q2U a w K=(K (Value.bool a) w):=kr
theorem qAz:f123 a b w K=(qa P 91 [(Value.int .u32 a)] w (fun g c=>∃ d:Bool,g=(.bool d)/\qC d (qa P 91 [(Value.int .u32 b)] c (fun h e=>∃ f:Bool,h=(.bool f)/\qC (!f) (q2U true e K) (q2U (decide (a<b)) e K))) (q2U (decide (a<b)) c K))):=kr
theorem qB3 a b w K(h:f123 a b w K):qa P 123 [(Value.int .u32 a),(Value.int .u32 b)] w K:=zj qHf Tryz.func123 h
def Zi:=qx Tryz.f131
def qKa:=Tryz.f131.results.toList
abbrev Yz K:=qH P qKa K
def f131 a b c d e f w K:=CS P Zi none [] [] (Yz K) (zh 76 [(VS a b c),(VI d),(VI e),(VI f)]) w
def qiE a b c d e f w K:=SC Zi 1 [] [] (Yz K) 76 [(0,VS a b c),(1,VI d),(2,VI e),(3,VI f)] w
abbrev qAb K:=kq Zi 1 [] [] (Yz K)
def qhX a b c d e f g h w K:=SC Zi 3 [] [] (Yz K) 76 [(8,VI a),(10,VI b),(0,VS c d e),(1,VI f),(2,VI g),(3,VI h)] w
abbrev q9t K:=qq 0 (Yz K)
def qvQ K Y2 e w:=zJ (fun e w=>CS P (cA Zi 12) none [8,3,0,2] [] (qw [8,3,0,2] Y2 (q9t K)) e w) e w
abbrev qd2 K Y2:=qw [8,3,0,2] Y2 (q9t K)
def qaT a b c d f g w K Y2:=SG Zi 12 [8,3,0,2] [] (qd2 K Y2) 76 [(8,VI a),(3,VI b),(0,VS c d f),(2,VI g)] w
abbrev QE K Y2:=qq 1 (qd2 K Y2)
abbrev qzP K Y2:=kq Zi 24 [8,3,0,2] [8,3,0,2] (QE K Y2)
def qkv a b c d f g h w K Y2:=SG Zi 99 [8,3,0,2] [8,3,0,2] (QE K Y2) 76 [(8,VI a),(3,VI b),(0,VS c d f),(2,VI g),(9,VI h)] w
abbrev q9f K Y2:=kq Zi 99 [8,3,0,2] [8,3,0,2] (QE K Y2)
abbrev qCP K Y2:=kq Zi 198 [8,3,0,2,9] [8,3,0,2] (q9f K Y2)
def q94 a b c d f g h i w K Y2:=SG Zi 397 [8,3,0,2,9] [8,3,0,2] (q9f K Y2) 76 [(36,VB a),(8,VI b),(3,VI c),(0,VS d f g),(2,VI h),(9,VI i)] w
def q2Z a b c d f g h w K Y2:=SG Zi 199 [8,3,0,2] [8,3,0,2] (QE K Y2) 76 [(8,VI a),(3,VI b),(0,VS c d f),(2,VI g),(9,VI h)] w
abbrev q83 K Y2:=kq Zi 199 [8,3,0,2] [8,3,0,2] (QE K Y2)
abbrev qCQ K Y2:=kq Zi 398 [3,0,2,9,8] [8,3,0,2] (q83 K Y2)
def qhU a b c d f g h i w K Y2:=SG Zi 797 [3,0,2,9,8] [8,3,0,2] (q83 K Y2) 76 [(52,VB a),(8,VI b),(3,VI c),(0,VS d f g),(2,VI h),(9,VI i)] w
def qjr a b c d f g h w K Y2:=SG Zi 399 [8,3,0,2] [8,3,0,2] (QE K Y2) 76 [(3,VI a),(0,VS b c d),(2,VI f),(9,VI g),(8,VI h)] w
abbrev qry K Y2:=kq Zi 399 [8,3,0,2] [8,3,0,2] (QE K Y2)
def qjQ a b c d f g w K Y2:=SG Zi 799 [8,3,0,2] [8,3,0,2] (QE K Y2) 76 [(3,VI a),(0,VS b c d),(2,VI f),(9,VI g)] w
theorem qgY:qjQ a c d e f g w K Y2=(Y2 (ql.mk 76 [(8,(Value.int .i64 g)),(3,(Value.int .i64 a)),(0,(Value.slice c d e)),(2,(Value.int .i64 f))] []) w):=qV kr
theorem qhB:qjr c f g h i d e w K Y2=(qi f (fun l=>0<=(IntKind.wrap .i64 (c+d))/\(IntKind.wrap .i64 (c+d))<(g:Nat)/\qi f (fun m=>0<=(IntKind.wrap .i64 (c+e))/\(IntKind.wrap .i64 (c+e))<(g:Nat)/\∃ j:Int,w.drew.cell? (l.add (Int.toNat (IntKind.wrap .i64 (c+d))*1))=some (.int .u32 j)/\∃ k:Int,w.drew.cell? (m.add (Int.toNat (IntKind.wrap .i64 (c+e))*1))=some (.int .u32 k)/\qi f (fun n=>0<=(IntKind.wrap .i64 (c+e))/\(IntKind.wrap .i64 (c+e))<(g:Nat)/\zG (n.add (Int.toNat (IntKind.wrap .i64 (c+e))*1)) (Value.int .u32 j) w.drew (fun o=>qi f (fun p=>0<=(IntKind.wrap .i64 (c+d))/\(IntKind.wrap .i64 (c+d))<(g:Nat)/\zG (p.add (Int.toNat (IntKind.wrap .i64 (c+d))*1)) (Value.int .u32 k) o (fun q=>qjQ c f g h i d q K Y2))))))):=qV (qT [3,0,2,9] (qry K Y2) kr)
theorem qhA:qhU a c d e f g h i w K Y2=(qC a (K (Value.tuple #[]) w) (qjr d e f g h i c w K Y2)):=qV kr
theorem qhs:q2Z d c f g h i e w K Y2=(qi f (fun m=>0<=(IntKind.wrap .i64 (c+d))/\(IntKind.wrap .i64 (c+d))<(g:Nat)/\qi f (fun n=>0<=(IntKind.wrap .i64 (c+e))/\(IntKind.wrap .i64 (c+e))<(g:Nat)/\∃ j:Int,w.drew.cell? (m.add (Int.toNat (IntKind.wrap .i64 (c+d))*1))=some (.int .u32 j)/\∃ k:Int,w.drew.cell? (n.add (Int.toNat (IntKind.wrap .i64 (c+e))*1))=some (.int .u32 k)/\qa P 123 [(Value.int .u32 j),(Value.int .u32 k)] w.drew (fun o p=>∃ l:Bool,o=(.bool l)/\qhU (!l) d c f g h i e p K Y2)))):=qV (qT [3,0,2,9,8] (q83 K Y2) (qT [52,8,3,0,2,9] (qCQ K Y2) kr))
theorem q4w:q94 i a c d e f g h w K Y2=(qC i (q2Z a c d e f g (IntKind.wrap .i64 (h+1)) w K Y2) (q2Z a c d e f g h w K Y2)):=qV kr
theorem qeP:qkv h d e f i g c w K Y2=(qC (decide ((IntKind.wrap .i64 (c+1))<g)) (qi e (fun m=>0<=(IntKind.wrap .i64 (d+c))/\(IntKind.wrap .i64 (d+c))<(f:Nat)/\qi e (fun n=>0<=(IntKind.wrap .i64 ((IntKind.wrap .i64 (d+c))+1))/\(IntKind.wrap .i64 ((IntKind.wrap .i64 (d+c))+1))<(f:Nat)/\∃ j:Int,w.drew.cell? (m.add (Int.toNat (IntKind.wrap .i64 (d+c))*1))=some (.int .u32 j)/\∃ k:Int,w.drew.cell? (n.add (Int.toNat (IntKind.wrap .i64 ((IntKind.wrap .i64 (d+c))+1))*1))=some (.int .u32 k)/\qa P 123 [(Value.int .u32 j),(Value.int .u32 k)] w.drew (fun o p=>∃ l:Bool,o=(.bool l)/\q94 l h d e f i g c p K Y2)))) (q94 false h d e f i g c w.drew K Y2)):=qV (qT [8,3,0,2,9] (q9f K Y2) (qT [36,8,3,0,2,9] (qCP K Y2) kr))
theorem qb1:qaT c e f g h d w K Y2=(qC (decide ((IntKind.wrap .i64 ((IntKind.wrap .i64 ((2:Int)*c))+1))>=d)) (K (Value.tuple #[]) w) (qkv c e f g h d (IntKind.wrap .i64 ((IntKind.wrap .i64 ((2:Int)*c))+1)) w K Y2)):=qV (QJ 1 [8,3,0,2] (QE K Y2) (qT [8,3,0,2,9] (qzP K Y2) kr))
theorem qfF:qhX a h c d e i f g w K=(za (qvQ K) (ql.mk 76 [(8,(Value.int .i64 a)),(3,(Value.int .i64 g)),(0,(Value.slice c d e)),(2,(Value.int .i64 f))] []) w):=Eq.trans (b:=CS P (cA Zi 3) none [] [] (Yz K) (ql.mk 76 [(8,(VI a)),(10,(VI h)),(0,(VS c d e)),(1,(VI i)),(2,(VI f)),(3,(VI g))] []) w) kr (Eq.trans (YD 0 [] (q9t K) kr) ((qY (b:=(cA Zi 12)) (X':=[]) (H:=[8,3,0,2]) kr kr kr).trans kr))
theorem qgd:qiE d e f c g h w K=(qhX c c d e f c g h w K):=Eq.trans (b:=CS P (cA Zi 1) none [] [] (Yz K) (ql.mk 76 [(0,(VS d e f)),(1,(VI c)),(2,(VI g)),(3,(VI h))] []) w) kr (Eq.trans (zN [8,3,0,2] (qAb K) kr) kr)
theorem qA2:f131 a b c d e f w K=(qiE a b c d e f w K):=kr
theorem qBa a b c d e f w K(h:f131 a b c d e f w K):qa P 131 [(Value.slice a b c),(Value.int .i64 d),(Value.int .i64 e),(Value.int .i64 f)] w K:=zj Zi Tryz.func131 h
def yP:=qx Tryz.f118
def qKZ:=Tryz.f118.results.toList
abbrev yx K:=qH P qKZ K
def f118 a b c d e w K:=CS P yP none [] [] (yx K) (zh 56 [(VS a b c),(VI d),(VI e)]) w
def qin a b c d e w K:=SC yP 1 [] [] (yx K) 56 [(0,VS a b c),(1,VI d),(2,VI e)] w
abbrev qC0 K:=kq yP 1 [] [] (yx K)
def qj0 a b c d e f g w K:=SC yP 3 [] [] (yx K) 56 [(6,VI a),(11,VI b),(0,VS c d e),(1,VI f),(2,VI g)] w
abbrev qBj K:=kq yP 3 [] [] (yx K)
def qiO a b c d e f g h w K:=SC yP 7 [] [] (yx K) 56 [(7,VI a),(6,VI b),(11,VI c),(0,VS d e f),(1,VI g),(2,VI h)] w
abbrev qzg K:=kq yP 7 [] [] (yx K)
def qhW a b c d e f g h i j k l w K:=SC yP 15 [] [] (yx K) 56 [(8,VI a),(14,VI b),(13,VI c),(12,VI d),(7,VI e),(6,VI f),(11,VI g),(0,VS h i j),(1,VI k),(2,VI l)] w
abbrev q0Q K:=kq yP 15 [] [] (yx K)
abbrev qDt K:=kq yP 30 [6,7,0,8] [] (q0Q K)
def qiP a b c d e f g h i j k l m n o p w K:=SC yP 61 [6,7,0,8] [] (q0Q K) 56 [(9,VI a),(17,VI b),(16,VI c),(15,VI d),(8,VI e),(14,VI f),(13,VI g),(12,VI h),(7,VI i),(6,VI j),(11,VI k),(0,VS l m n),(1,VI o),(2,VI p)] w
abbrev q7K K:=qq 0 (q0Q K)
def qxF K Y5 e w:=zJ (fun e w=>CS P (cA yP 244) none [9,6,8,0,7] [6,7,0,8] (qw [9,6,8,0,7] Y5 (q7K K)) e w) e w
abbrev Vu K Y5:=qw [9,6,8,0,7] Y5 (q7K K)
def qaS a b c d f g h w K Y5:=SG yP 244 [9,6,8,0,7] [6,7,0,8] (Vu K Y5) 56 [(9,VI a),(6,VI b),(8,VI c),(0,VS d f g),(7,VI h)] w
abbrev qlg K Y5:=kq yP 244 [9,6,8,0,7] [6,7,0,8] (Vu K Y5)
abbrev qDe K Y5:=kq yP 488 [6,8,0,7,9] [6,7,0,8] (qlg K Y5)
def qjj a b c d f g h w K Y5:=SG yP 489 [9,6,8,0,7] [6,7,0,8] (Vu K Y5) 56 [(6,VI a),(8,VI b),(0,VS c d f),(7,VI g),(9,VI h)] w
abbrev qiM K Y5:=kq yP 489 [9,6,8,0,7] [6,7,0,8] (Vu K Y5)
abbrev qzn K Y5:=qq 1 (qiM K Y5)
def qhO a b c d f g h w K Y5:=SG yP 979 [9,6,8,0,7] [6,7,0,8] (Vu K Y5) 56 [(6,VI a),(8,VI b),(0,VS c d f),(7,VI g),(9,VI h)] w
theorem qdj:qhO a c d e f g h w K Y5=(Y5 (ql.mk 56 [(9,(Value.int .i64 (IntKind.wrap .i64 (h-1)))),(6,(Value.int .i64 a)),(8,(Value.int .i64 c)),(0,(Value.slice d e f)),(7,(Value.int .i64 g))] []) w):=qV kr
theorem qfH:qjj c d e f g i h w K Y5=(qa P 131 [(Value.slice e f g),(Value.int .i64 h),(Value.int .i64 d),(Value.int .i64 c)] w (fun j k=>j=(.tuple #[])/\qhO c d e f g i h k K Y5)):=qV (qT [6,8,0,7,9] (qiM K Y5) (QJ 1 [6,7,0,8,9] (qzn K Y5) kr))
def qkM a b c d f g w K:=SG yP 31 [] [] (yx K) 56 [(6,VI a),(7,VI b),(0,VS c d f),(8,VI g)] w
abbrev qvN K:=kq yP 31 [] [] (yx K)
def qjF a b c d e f g h i w K:=SC yP 63 [] [] (yx K) 56 [(10,VI a),(28,VI b),(27,VI c),(6,VI d),(7,VI e),(0,VS f g h),(8,VI i)] w
abbrev q3M K:=qq 2 (yx K)
def qph K Y10 e w:=zJ (fun e w=>CS P (cA yP 252) none [10,6,7,0] [] (qw [10,6,7,0] Y10 (q3M K)) e w) e w
abbrev ZY K Y10:=qw [10,6,7,0] Y10 (q3M K)
def q66 a b c d f g w K Y10:=SG yP 252 [10,6,7,0] [] (ZY K Y10) 56 [(10,VI a),(6,VI b),(7,VI c),(0,VS d f g)] w
abbrev qbf K Y10:=kq yP 252 [10,6,7,0] [] (ZY K Y10)
abbrev qqH K Y10:=kq yP 504 [6,7,0,10] [] (qbf K Y10)
def qbj a b c d f g w K Y10:=SG yP 505 [10,6,7,0] [] (ZY K Y10) 56 [(6,VI a),(7,VI b),(0,VS c d f),(10,VI g)] w
abbrev qcc K Y10:=kq yP 505 [10,6,7,0] [] (ZY K Y10)
abbrev q48 K Y10:=qq 3 (qcc K Y10)
abbrev qyR K Y10:=kq yP 2020 [6,7,0,10] [6,7,0,10] (q48 K Y10)
def qc5 a b c d f g w K Y10:=SG yP 4041 [6,7,0,10] [6,7,0,10] (q48 K Y10) 56 [(6,VI a),(7,VI b),(0,VS c d f),(10,VI g)] w
def qaI a b c d f g w K Y10:=SG yP 1011 [10,6,7,0] [] (ZY K Y10) 56 [(6,VI a),(7,VI b),(0,VS c d f),(10,VI g)] w
theorem qcU:qaI a c d e f g w K Y10=(Y10 (ql.mk 56 [(10,(Value.int .i64 (IntKind.wrap .i64 (g-1)))),(6,(Value.int .i64 a)),(7,(Value.int .i64 c)),(0,(Value.slice d e f))] []) w):=qV kr
theorem qaK:qc5 a c d e f g w K Y10=(qa P 131 [(Value.slice d e f),(Value.int .i64 c),(Value.int .i64 g),(Value.int .i64 a)] w (fun h i=>h=(.tuple #[])/\qaI a c d e f g i K Y10)):=qV kr
theorem qcD:qbj c g e f h d w K Y10=(qi e (fun k=>0<=(IntKind.wrap .i64 (c+d))/\(IntKind.wrap .i64 (c+d))<(f:Nat)/\qi e (fun l=>0<=c/\c<(f:Nat)/\∃ i:Int,w.drew.cell? (k.add (Int.toNat (IntKind.wrap .i64 (c+d))*1))=some (.int .u32 i)/\∃ j:Int,w.drew.cell? (l.add (Int.toNat c*1))=some (.int .u32 j)/\qi e (fun m=>0<=c/\c<(f:Nat)/\zG (m.add (Int.toNat c*1)) (Value.int .u32 i) w.drew (fun n=>qi e (fun o=>0<=(IntKind.wrap .i64 (c+d))/\(IntKind.wrap .i64 (c+d))<(f:Nat)/\zG (o.add (Int.toNat (IntKind.wrap .i64 (c+d))*1)) (Value.int .u32 j) n (fun p=>qc5 c g e f h d p K Y10))))))):=qV (qT [6,7,0,10] (qcc K Y10) (QJ 3 [6,7,0,10] (q48 K Y10) (qT [6,7,0,10] (qyR K Y10) kr)))
theorem q74:q66 c d e f g h w K Y10=(qC (decide (c>=0)) (qbj d e f g h c w K Y10) (K (Value.tuple #[]) w)):=qV (qT [6,7,0,10] (qbf K Y10) (qT [30,6,7,0,10] (qqH K Y10) kr))
theorem qeU:qjF a h i c d e f g j w K=(za (qph K) (ql.mk 56 [(10,(Value.int .i64 a)),(6,(Value.int .i64 c)),(7,(Value.int .i64 d)),(0,(Value.slice e f g))] []) w):=Eq.trans (b:=CS P (cA yP 63) none [] [] (yx K) (ql.mk 56 [(10,(VI a)),(28,(VI h)),(27,(VI i)),(6,(VI c)),(7,(VI d)),(0,(VS e f g)),(8,(VI j))] []) w) kr (Eq.trans (YD 2 [] (q3M K) kr) ((qY (b:=(cA yP 252)) (X':=[]) (H:=[10,6,7,0]) kr kr kr).trans kr))
theorem qhK:qkM d e f g h c w K=(qjF (IntKind.wrap .i64 (c-1)) (IntKind.wrap .i64 (c-1)) c d e f g h c w K):=qV (qT [10,6,7,0] (qvN K) kr)
theorem qc2:qaS c d e f g h i w K Y5=(qC (decide (c>=0)) (qjj d e f g h i c w K Y5) (qkM d i f g h e w K)):=qV (qT [6,8,0,7,9] (qlg K Y5) (qT [19,6,8,0,7,9] (qDe K Y5) kr))
theorem qg3:qiP a i j k c l m n d e o f g h p q w K=(za (qxF K) (ql.mk 56 [(9,(Value.int .i64 a)),(6,(Value.int .i64 e)),(8,(Value.int .i64 c)),(0,(Value.slice f g h)),(7,(Value.int .i64 d))] []) w):=Eq.trans (b:=CS P (cA yP 61) none [6,7,0,8] [] (q0Q K) (ql.mk 56 [(9,(VI a)),(17,(VI i)),(16,(VI j)),(15,(VI k)),(8,(VI c)),(14,(VI l)),(13,(VI m)),(12,(VI n)),(7,(VI d)),(6,(VI e)),(11,(VI o)),(0,(VS f g h)),(1,(VI p)),(2,(VI q))] []) w) kr (Eq.trans (YD 0 [6,7,0,8] (q7K K) kr) ((qY (b:=(cA yP 244)) (X':=[6,7,0,8]) (H:=[9,6,8,0,7]) kr kr kr).trans kr))
theorem qdV:qhW c d e f g h i j k l m n w K=((2:Int)≠0/\qiP (IntKind.wrap .i64 ((IntKind.wrap .i64 (c-1)).tdiv 2)) (IntKind.wrap .i64 ((IntKind.wrap .i64 (c-1)).tdiv 2)) (IntKind.wrap .i64 (c-1)) c c d e f g h i j k l m n w K):=Eq.trans (b:=CS P (cA yP 15) none [] [] (yx K) (ql.mk 56 [(8,(VI c)),(14,(VI d)),(13,(VI e)),(12,(VI f)),(7,(VI g)),(6,(VI h)),(11,(VI i)),(0,(VS j k l)),(1,(VI m)),(2,(VI n))] []) w) kr (Eq.trans (zN [6,7,0,8] (q0Q K) kr) (Eq.trans (zN [9,6,8,0,7] (qDt K) kr) kr))
theorem qfE:qiO e f g h i j c d w K=(qhW (IntKind.wrap .i64 (d-c)) (IntKind.wrap .i64 (d-c)) c d e f g h i j c d w K):=Eq.trans (b:=CS P (cA yP 7) none [] [] (yx K) (ql.mk 56 [(7,(VI e)),(6,(VI f)),(11,(VI g)),(0,(VS h i j)),(1,(VI c)),(2,(VI d))] []) w) kr (Eq.trans (zN [6,8,0,7] (qzg K) kr) kr)
theorem qe5:qj0 c d e f g h i w K=(qiO 0 c d e f g h i w K):=Eq.trans (b:=CS P (cA yP 3) none [] [] (yx K) (ql.mk 56 [(6,(VI c)),(11,(VI d)),(0,(VS e f g)),(1,(VI h)),(2,(VI i))] []) w) kr (Eq.trans (zN [6,0,7,1,2] (qBj K) kr) kr)
theorem qgJ:qin d e f c g w K=(qj0 c c d e f c g w K):=Eq.trans (b:=CS P (cA yP 1) none [] [] (yx K) (ql.mk 56 [(0,(VS d e f)),(1,(VI c)),(2,(VI g))] []) w) kr (Eq.trans (zN [6,0,1,2] (qC0 K) kr) kr)
theorem qBH:f118 a b c d e w K=(qin a b c d e w K):=kr
theorem qzs a b c d e w K(h:f118 a b c d e w K):qa P 118 [(Value.slice a b c),(Value.int .i64 d),(Value.int .i64 e)] w K:=zj yP Tryz.func118 h
def qKT:=qx Tryz.f132
def qK5:=Tryz.f132.results.toList
abbrev qCB K:=qH P qK5 K
def f132 a b c d e w K:=CS P qKT none [6] [6] (qCB K) (zh 15 [(VS a b c),(VI d),(VP e)]) w
theorem qA9:f132 b c d a e w K=(qa P 133 [(Value.slice b c d),(Value.int .i64 (IntKind.wrap .i64 (a-1))),(Value.int .i64 a),(Value.int .i64 (IntKind.wrap .i64 (a+1))),(Value.pointer e)] w (fun g h=>∃ f:Int,g=(.int .i64 f)/\K (Value.int .i64 f) h)):=kr
theorem qBm a b c d e w K(h:f132 a b c d e w K):qa P 132 [(Value.slice a b c),(Value.int .i64 d),(Value.pointer e)] w K:=zj qKT Tryz.func132 h
def qJK:=qx Tryz.f133
def qKE:=Tryz.f133.results.toList
abbrev qzL K:=qH P qKE K
def f133 a b c d e f g w K:=CS P qJK none [10] [10] (qzL K) (zh 36 [(VS a b c),(VI d),(VI e),(VI f),(VP g)]) w
theorem qBp:f133 a b c e f g d w K=(qa P 135 [(Value.slice a b c),(Value.int .i64 e),(Value.int .i64 f),(Value.pointer d)] w (fun l m=>∃ h:Int,∃ i:Int,l=(.tuple #[(Value.int .i64 h),(Value.int .i64 i)])/\qa P 135 [(Value.slice a b c),(Value.int .i64 i),(Value.int .i64 g),(Value.pointer d)] m (fun n o=>∃ j:Int,∃ p:Int,n=(.tuple #[(Value.int .i64 j),(Value.int .i64 p)])/\qa P 135 [(Value.slice a b c),(Value.int .i64 h),(Value.int .i64 j),(Value.pointer d)] o (fun q r=>∃ s:Int,∃ k:Int,q=(.tuple #[(Value.int .i64 s),(Value.int .i64 k)])/\K (Value.int .i64 k) r)))):=kr
theorem qDw a b c d e f g w K(h:f133 a b c d e f g w K):qa P 133 [(Value.slice a b c),(Value.int .i64 d),(Value.int .i64 e),(Value.int .i64 f),(Value.pointer g)] w K:=zj qJK Tryz.func133 h
def qna:=qx Tryz.f135
def qKv:=Tryz.f135.results.toList
abbrev q2N K:=qH P qKv K
def f135 a b c d e f w K:=CS P qna none [8,9] [8,9] (q2N K) (zh 28 [(VS a b c),(VI d),(VI e),(VP f)]) w
abbrev qDy K:=kq qna 3 [8,9] [8,9] (q2N K)
def qlc a b c d w K:=SG qna 13 [2,1] [8,9] (qDy K) 28 [(18,VB a),(1,VI b),(2,VI c),(3,VP d)] w
def qix a b w K:=SG qna 7 [8,9] [8,9] (q2N K) 28 [(2,VI a),(1,VI b)] w
abbrev qAs K:=kq qna 7 [8,9] [8,9] (q2N K)
theorem qdL:qix c d w K=(K (Value.tuple #[(Value.int .i64 d),(Value.int .i64 c)]) w):=qV (qT [8,9] (qAs K) kr)
theorem qgB:qlc e a c d w K=(qC e (qi d (fun g=>∃ f:Int,w.cell? g=some (.int .i64 f)/\qi d (fun h=>zG h (Value.int .i64 (IntKind.wrap .i64 (f+1))) w (fun i=>K (Value.tuple #[(Value.int .i64 c),(Value.int .i64 a)]) i)))) (qix c a w K)):=qV kr
theorem qAf:f135 c d i a b e w K=(qi c (fun j=>0<=b/\b<(d:Nat)/\qi c (fun k=>0<=a/\a<(d:Nat)/\∃ f:Int,w.drew.cell? (j.add (Int.toNat b*1))=some (.int .u32 f)/\∃ g:Int,w.drew.cell? (k.add (Int.toNat a*1))=some (.int .u32 g)/\qa P 123 [(Value.int .u32 f),(Value.int .u32 g)] w.drew (fun l m=>∃ h:Bool,l=(.bool h)/\qlc h a b e m K)))):=kr
theorem qAx a b c d e f w K(h:f135 a b c d e f w K):qa P 135 [(Value.slice a b c),(Value.int .i64 d),(Value.int .i64 e),(Value.pointer f)] w K:=zj qna Tryz.func135 h
end Go.Fx.Tryz
namespace Go.Fx.Tryz
open Go Go.Fx Go.Fx.Mo
open Go.Proofs
open Go.Sort (swp swp_size insInner insOuter insertionSort siftDown heapBuild heapPop heapSort ltInt)
variable {w0 w:World} {H X:qP} {K:KT}
set_option maxRecDepth 20000
abbrev yG(d:Array Int)(z:List Value):List Value:=d.toList.map zt++z
theorem q30{d:Array Int}{z:List Value}{i:Nat}(hi:i<d.size):(yG d z)[i]?=some (.int .u32 d[i]!):=by
 rw[List.getElem?_append_left (by simpa using hi),List.getElem?_map]
 simp[hi]
theorem qiK(d:Array Int)(z:List Value):(yG d z).length=d.size+z.length:=by simp
theorem qAv{d:Array Int}{z:List Value}{p q:Nat}(hp:p<d.size)(hq:q<d.size):((yG d z).set p (.int .u32 d[q]!)).set q (.int .u32 d[p]!)=yG (swp d p q) z:=by
 unfold yG swp
 rw[List.set_append_left _ _ (by simpa using hp),List.set_append_left _ _ (by simpa using hq)]
 congr 1
 simp only[Array.toList_setIfInBounds,List.map_set]
theorem qA4(h:St w0 w X)(x y:Int)(hK:∀ w',St w0 w' X->K (.bool (ltInt x y)) w'):qa P 123 [.int .u32 x,.int .u32 y] w K:=by
 refine qB3 _ _ _ _ ?_
 rw[qAz]
 refine q7D x ⟨_,rfl,?_⟩
 rw[qd,qgT]
 exact hK w h
section
variable {g:Nat} {T:TypeId} {d:Array Int} {z:List Value} {ei ej:Int} {i j:Nat}
theorem vp(hi:ei=(i:Int))(hj:ej=(j:Int))(hin:i<d.size)(hjn:j<d.size)(h:St w0 w X)(hm:(g,Cs (yG d z) T)∈X)(hK:∀ w',St w0 w' X->K (.bool (ltInt d[i]! d[j]!)) w') :
  qi (some (Addr.mk g 0 none)) (fun a=>0<=ei/\ei<(d.size:Nat)/\qi (some (Addr.mk g 0 none)) (fun a'=>0<=ej/\ej<(d.size:Nat)/\∃ x:Int,w.drew.cell? (a.add (Int.toNat ei*1))=some (Value.int .u32 x)/\∃ y:Int,w.drew.cell? (a'.add (Int.toNat ej*1))=some (Value.int .u32 y)/\
   qa P 123 [(Value.int .u32 x),(Value.int .u32 y)] w.drew K)):=by
 subst hi hj
 have hd:=h.drew
 refine⟨by omega,by omega,by omega,by omega,d[i]!,?_,d[j]!,?_,qA4 hd _ _ hK⟩
 ·rw[qc,qv (hd.has _ _ hm),show 0+Int.toNat (i:Int)*1=i by omega];exact q30 hin
 ·rw[qc,qv (hd.has _ _ hm),show 0+Int.toNat (j:Int)*1=j by omega];exact q30 hjn
theorem yX{Q:World->Prop}(hi:ei=(i:Int))(hj:ej=(j:Int))(hin:i<d.size)(hjn:j<d.size)(h:St w0 w ((g,Cs (yG d z) T)::H))(hK:∀ w',St w0 w' ((g,Cs (yG (swp d i j) z) T)::H)->Q w') :
  qi (some (Addr.mk g 0 none)) (fun a=>0<=ej/\ej<(d.size:Nat)/\qi (some (Addr.mk g 0 none)) (fun a'=>0<=ei/\ei<(d.size:Nat)/\∃ x:Int,w.drew.cell? (a.add (Int.toNat ej*1))=some (Value.int .u32 x)/\∃ y:Int,w.drew.cell? (a'.add (Int.toNat ei*1))=some (Value.int .u32 y)/\
   qi (some (Addr.mk g 0 none)) (fun a2=>0<=ei/\ei<(d.size:Nat)/\zG (a2.add (Int.toNat ei*1)) (Value.int .u32 x) w.drew (fun w2=>qi (some (Addr.mk g 0 none)) (fun a3=>0<=ej/\ej<(d.size:Nat)/\zG (a3.add (Int.toNat ej*1)) (Value.int .u32 y) w2 Q))))):=by
 subst hi hj
 have hd:=h.drew
 refine⟨by omega,by omega,by omega,by omega,d[j]!,?_,d[i]!,?_,by omega,by omega,?_⟩
 ·rw[qc,hd.cell (k:=0) rfl,show 0+Int.toNat (j:Int)*1=j by omega];exact q30 hjn
 ·rw[qc,hd.cell (k:=0) rfl,show 0+Int.toNat (i:Int)*1=i by omega];exact q30 hin
 rw[qc,show 0+Int.toNat (i:Int)*1=i by omega]
 refine hd.st1 (k:=0) rfl (by rw[qiK];omega) rfl fun w2 h2=>⟨by omega,by omega,?_⟩
 rw[qc,show 0+Int.toNat (j:Int)*1=j by omega]
 refine h2.st1 (k:=0) rfl (by rw[List.length_set,qiK];omega) rfl fun w3 h3=>hK w3 ?_
 have h3:St w0 w3 ((g,Cs (((yG d z).set i (.int .u32 d[j]!)).set j (.int .u32 d[i]!)) T)::H):=h3
 rw[qAv hin hjn]at h3
 exact h3
end
section
variable {g c:Nat} {T:TypeId} {z:List Value}
theorem q5E(a:Nat):∀ (j:Nat) (d:Array Int),(insInner ltInt a j d).size=d.size
 | 0,d=>rfl
 | j+1,d=>by
  unfold insInner
  split
  ·rw[q5E a j,swp_size]
  ·rfl
def qsA(w0:World)(H:qP)(g c:Nat)(T:TypeId)(z:List Value)(a b n:Nat)(D:Array Int)(m:Nat)(ee:ql)(w:World):Prop:=
 ∃ (i:Nat) (d:Array Int),a<i/\i<=max b (a+1)/\m=b-i/\d.size=n/\insOuter ltInt a b i d=D/\ee=ql.mk 49 [(0,(Value.slice (some (Addr.mk g 0 none)) n c)),(6,(Value.int .i64 i)),(1,(Value.int .i64 a)),(2,(Value.int .i64 b))] []/\St w0 w ((g,Cs (yG d z) T)::H)
def qKP(w0:World)(H:qP)(g c:Nat)(T:TypeId)(z:List Value)(a b i n:Nat)(D:Array Int)(m:Nat)(ee:ql)(w:World):Prop:=
 ∃ (j:Nat) (d:Array Int),a<=j/\j<=i/\m=j/\d.size=n/\insInner ltInt a j d=D/\ee=ql.mk 49 [(7,(Value.int .i64 j)),(0,(Value.slice (some (Addr.mk g 0 none)) n c)),(1,(Value.int .i64 a)),(2,(Value.int .i64 b)),(6,(Value.int .i64 i))] []/\St w0 w ((g,Cs (yG d z) T)::H)
theorem q8g{d:Array Int}{a b:Nat}(h:St w0 w ((g,Cs (yG d z) T)::H))(hab:a<=b)(hb:b<=d.size)(hn:d.size<1000000000000)(hK:∀ w',St w0 w' ((g,Cs (yG (insertionSort ltInt d a b) z) T)::H)->K (.tuple [].toArray) w') :
  qa P 117 [.slice (some (Addr.mk g 0 none)) d.size c,.int .i64 a,.int .i64 b] w K:=by
 refine qj3 _ _ _ _ _ _ _ ?_
 rw[qk9,q4v,q43]
 refine⟨qsA w0 H g c T z a b d.size (insertionSort ltInt d a b),⟨b-(a+1),a+1,d,by omega,by omega,rfl,rfl,rfl,?_,h⟩,?_⟩
 ·rw[qk om om];rfl
 generalize hnn:d.size=n at hb hn
 generalize insertionSort ltInt d a b=D at hK
 rintro m ee w1 ⟨i,d1,hai,hib,rfl,hd1,hD,rfl,h1⟩
 show q3y ..
 rw[q2k,qg]
 constructor
 ·intro hlt
  have hlt:i<b:=by simpa using hlt
  rw[qha,qf9]
  rw[insOuter,if_pos hlt]at hD
  have out:∀ w2 d2,d2.size=n->insOuter ltInt a b (i+1) d2=D->St w0 w2 ((g,Cs (yG d2 z) T)::H)->q37 (some (Addr.mk g 0 none)) n c a b i w2 K (fun e' w'=>∃ m,m<b-i/\qsA w0 H g c T z a b n D m e' w'):=by
   intro w2 d2 k1 k2 k3
   rw[qeY]
   refine⟨b-(i+1),by omega,i+1,d2,by omega,by omega,rfl,k1,k2,?_,k3⟩
   rw[qk om om];rfl
  refine⟨qKP w0 H g c T z a b i n (insInner ltInt a i d1),⟨i,i,d1,by omega,by omega,rfl,hd1,rfl,rfl,h1⟩,?_⟩
  rintro j ee w2 ⟨_,d2,haj,hji,rfl,hd2,hD2,rfl,h2⟩
  show qbV ..
  rw[qbS,qg]
  have stop:∀ w3,insInner ltInt a j d2=d2->St w0 w3 ((g,Cs (yG d2 z) T)::H)->q37 (some (Addr.mk g 0 none)) n c a b i w3 K (fun e' w'=>∃ m,m<b-i/\qsA w0 H g c T z a b n D m e' w'):=by
   intro w3 k1 k2
   refine out w3 d2 hd2 ?_ k2
   rw[<-hD,<-hD2,k1]
  constructor
  ·intro hja
   have hja:j > a:=by simpa using hja
   obtain⟨q,rfl⟩:∃ k,j=k+1:=⟨j-1,by omega⟩
   have ej:IntKind.wrap .i64 (((q+1:Nat):Int)-1)=(q:Int):=by rw[qk om om];omega
   have hjn:q+1<n:=by omega
   subst hd2
   refine vp (i:=q+1) (j:=q) rfl ej hjn om h2 (.head _) fun w3 h3=>⟨_,rfl,?_⟩
   rw[q5p,qg]
   constructor
   ·intro hl
    rw[qhr]
    refine yX (i:=q+1) (j:=q) rfl ej hjn om h3 fun w4 h4=>?_
    rw[qdb]
    refine⟨q,by omega,q,swp d2 (q+1) q,by omega,by omega,rfl,by rw[swp_size],?_,by rw[ej],h4⟩
    rw[<-hD2,insInner,if_pos (by simp[hl];omega)]
   ·intro hl
    refine stop w3 ?_ h3
    rw[insInner,if_neg (by simp[hl])]
  ·intro hja
   have hja:¬ j > a:=by simpa using hja
   rw[q5p,qd]
   refine stop _ ?_ h2.drew
   cases j with
   | zero=>rfl
   | succ j=>rw[insInner,if_neg (by simp;omega)]
 ·intro hge
  have hge:¬ i<b:=by simpa using hge
  rw[insOuter,if_neg hge]at hD
  subst hD
  exact hK w1 h1
theorem Zz(hi first:Nat)(root:Nat)(d:Array Int):(siftDown ltInt hi first root d).size=d.size:=by
 induction hm:hi-root using Nat.strongRecOn generalizing root d with
 | ind m ih=>
  subst hm
  rw[siftDown]
  split
  ·rfl
  ·rename_i h1
   split
   ·split
    ·rfl
    ·split
     ·rename_i h2;rw[ih (hi-(2*root+2)) om _ _ rfl,swp_size]
     ·rfl
   ·split
    ·rfl
    ·rw[ih (hi-(2*root+1)) om _ _ rfl,swp_size]
theorem Vo(hi first:Nat):∀ (k:Nat) (d:Array Int),(heapBuild ltInt hi first k d).size=d.size
 | 0,d=>rfl
 | k+1,d=>by unfold heapBuild;rw[Vo hi first k,Zz]
def qDS(w0:World)(H:qP)(g c:Nat)(T:TypeId)(z:List Value)(hi first n:Nat)(D:Array Int)(m:Nat)(ee:ql)(w:World):Prop:=
 ∃ (root:Nat) (d:Array Int),m=hi-root/\root<=1000000000000/\d.size=n/\siftDown ltInt hi first root d=D/\ee=ql.mk 76 [(8,(Value.int .i64 root)),(3,(Value.int .i64 first)),(0,(Value.slice (some (Addr.mk g 0 none)) n c)),(2,(Value.int .i64 hi))] []/\St w0 w ((g,Cs (yG d z) T)::H)
theorem q2z{d:Array Int}{lo hi first:Nat}{elo ehi:Int}(he1:elo=(lo:Int))(he2:ehi=(hi:Int))(h:St w0 w ((g,Cs (yG d z) T)::H))(hlo:lo<=1000000000000)(hb:first+hi<=d.size)(hn:d.size<1000000000000)(hK:∀ w',St w0 w' ((g,Cs (yG (siftDown ltInt hi first lo d) z) T)::H)->K (.tuple [].toArray) w') :
  qa P 131 [.slice (some (Addr.mk g 0 none)) d.size c,.int .i64 elo,.int .i64 ehi,.int .i64 first] w K:=by
 subst he1 he2
 refine qBa _ _ _ _ _ _ _ _ ?_
 rw[qA2,qgd,qfF]
 refine⟨qDS w0 H g c T z hi first d.size (siftDown ltInt hi first lo d),⟨hi-lo,lo,d,rfl,hlo,rfl,rfl,rfl,h⟩,?_⟩
 generalize hnn:d.size=n at hb hn
 generalize siftDown ltInt hi first lo d=D at hK
 rintro m ee w1 ⟨root,d1,rfl,hr,hd1,hD,rfl,h1⟩
 show qaT ..
 have e1:IntKind.wrap .i64 (IntKind.wrap .i64 ((2:Int)*(root:Int))+1)=((2*root+1:Nat):Int):=by
  rw[qk (x:=2*(root:Int)) om om,qk om om];omega
 rw[qb1,qg,e1]
 rw[siftDown]at hD
 constructor
 ·intro hge
  have hge:2*root+1>=hi:=by simp at hge;omega
  rw[dif_pos hge]at hD
  subst hD
  exact hK w1 h1
 ·intro hlt
  have hlt:¬ 2*root+1>=hi:=by simp at hlt;omega
  rw[dif_neg hlt]at hD
  subst hd1
  have step:∀ w2 (ch:Nat),2*root+1<=ch->ch<hi->(if(!ltInt d1[first+root]! d1[first+ch]!)=true then d1 else siftDown ltInt hi first ch (swp d1 (first+root) (first+ch)))=D->St w0 w2 ((g,Cs (yG d1 z) T)::H)->
    q2Z root first (some (Addr.mk g 0 none)) d1.size c hi ch w2 K (fun e' w'=>∃ m,m<hi-root/\qDS w0 H g c T z hi first d1.size D m e' w'):=by
   intro w2 ch c1 c2 hD2 h2
   have ea:IntKind.wrap .i64 ((first:Int)+(root:Int))=((first+root:Nat):Int):=by rw[qk om om];omega
   have eb:IntKind.wrap .i64 ((first:Int)+(ch:Int))=((first+ch:Nat):Int):=by rw[qk om om];omega
   rw[qhs]
   refine vp (i:=first+root) (j:=first+ch) ea eb om om h2 (.head _) fun w3 h3=>⟨_,rfl,?_⟩
   rw[qhA,qg]
   constructor
   ·intro hl
    rw[if_pos hl]at hD2
    subst hD2
    exact hK w3 h3
   ·intro hl
    rw[if_neg (by simp[hl])]at hD2
    rw[qhB]
    refine yX (i:=first+root) (j:=first+ch) ea eb om om h3 fun w4 h4=>?_
    rw[qgY]
    exact⟨hi-ch,by omega,ch,_,rfl,by omega,by rw[swp_size],hD2,rfl,h4⟩
  rw[qeP,qg]
  have e2:IntKind.wrap .i64 (((2*root+1:Nat):Int)+1)=((2*root+2:Nat):Int):=by rw[qk om om];omega
  rw[e2]
  constructor
  ·intro hc
   have hc:2*root+2<hi:=by simp at hc;omega
   have ea:IntKind.wrap .i64 ((first:Int)+((2*root+1:Nat):Int))=((first+(2*root+1):Nat):Int):=by rw[qk om om];omega
   have eb:IntKind.wrap .i64 (IntKind.wrap .i64 ((first:Int)+((2*root+1:Nat):Int))+1)=((first+(2*root+1)+1:Nat):Int):=by rw[ea,qk om om];omega
   refine vp (i:=first+(2*root+1)) (j:=first+(2*root+1)+1) ea eb om om h1 (.head _) fun w2 h2=>⟨_,rfl,?_⟩
   rw[q4w,qg]
   constructor
   ·intro hl
    rw[if_pos (by simp[hl];omega)]at hD
    rw[e2]
    refine step w2 (2*root+2) om hc ?_ h2
    rw[<-hD]
    split<;>rfl
   ·intro hl
    rw[if_neg (by simp[hl])]at hD
    exact step w2 (2*root+1) om om hD h2
  ·intro hc
   have hc:¬ 2*root+2<hi:=by simp at hc;omega
   rw[if_neg (by simp;omega)]at hD
   rw[q4w,qd]
   exact step _ (2*root+1) om om hD h1.drew
def qKD(w0:World)(H:qP)(g c:Nat)(T:TypeId)(z:List Value)(first hi n:Nat)(D:Array Int)(m:Nat)(ee:ql)(w:World):Prop:=
 ∃ (d:Array Int),m<=1000000000000/\d.size=n/\heapBuild ltInt hi first m d=D/\ee=ql.mk 56 [(9,(Value.int .i64 ((m:Int)-1))),(6,(Value.int .i64 first)),(8,(Value.int .i64 hi)),(0,(Value.slice (some (Addr.mk g 0 none)) n c)),(7,(Value.int .i64 0))] []/\St w0 w ((g,Cs (yG d z) T)::H)
def qKg(w0:World)(H:qP)(g c:Nat)(T:TypeId)(z:List Value)(first hi n:Nat)(D:Array Int)(m:Nat)(ee:ql)(w:World):Prop:=
 ∃ (d:Array Int),m<=hi/\d.size=n/\heapPop ltInt first m d=D/\ee=ql.mk 56 [(10,(Value.int .i64 ((m:Int)-1))),(6,(Value.int .i64 first)),(7,(Value.int .i64 0)),(0,(Value.slice (some (Addr.mk g 0 none)) n c))] []/\St w0 w ((g,Cs (yG d z) T)::H)
theorem qBP{d:Array Int}{a b:Nat}(h:St w0 w ((g,Cs (yG d z) T)::H))(hab:a<=b)(hb:b<=d.size)(hn:d.size<1000000000000)(hK:∀ w',St w0 w' ((g,Cs (yG (heapSort ltInt d a b) z) T)::H)->K (.tuple [].toArray) w') :
  qa P 118 [.slice (some (Addr.mk g 0 none)) d.size c,.int .i64 a,.int .i64 b] w K:=by
 refine qzs _ _ _ _ _ _ _ ?_
 have e1:IntKind.wrap .i64 ((b:Int)-(a:Int))=((b-a:Nat):Int):=by rw[qk om om];omega
 rw[qBH,qgJ,qe5,qfE,e1,qdV]
 have e2:IntKind.wrap .i64 ((IntKind.wrap .i64 (((b-a:Nat):Int)-1)).tdiv 2)=(((b-a-1) / 2+1:Nat):Int)-1:=by
  rw[qk (x:=((b-a:Nat):Int)-1) om om]
  by_cases hz:b-a=0
  ·rw[hz];rfl
  ·rw[Int.tdiv_eq_ediv_of_nonneg om,qk om om]
   omega
 rw[e2]
 unfold heapSort at hK
 refine⟨by omega,?_⟩
 rw[qg3]
 refine⟨qKD w0 H g c T z a (b-a) d.size (heapBuild ltInt (b-a) a ((b-a-1) / 2+1) d),⟨(b-a-1) / 2+1,d,by omega,rfl,rfl,rfl,h⟩,?_⟩
 generalize hnn:d.size=n at hb hn
 generalize hBB:heapBuild ltInt (b-a) a ((b-a-1) / 2+1) d=D0 at hK
 have hD0:D0.size=n:=by rw[<-hBB,Vo,hnn]
 rintro m ee w1 ⟨d1,hm,hd1,hD,rfl,h1⟩
 show qaS ..
 rw[qc2,qg]
 constructor
 ·intro hge
  obtain⟨m,rfl⟩:∃ k,m=k+1:=⟨m-1,by simp at hge;omega⟩
  rw[qfH]
  subst hd1
  refine q2z (lo:=m) om rfl h1 om om hn fun w2 h2=>⟨rfl,?_⟩
  rw[qdj]
  refine⟨m,by omega,_,by omega,Zz _ _ _ _,hD,?_,h2⟩
  rw[qk om om]
  have:((m+1:Nat):Int)-1-1=(m:Int)-1:=by omega
  rw[this]
 ·intro hlt
  have:m=0:=by simp at hlt;omega
  subst this
  have hD:d1=D0:=hD
  subst hD
  rw[qhK,qeU]
  have e3:IntKind.wrap .i64 (((b-a:Nat):Int)-1)=((b-a:Nat):Int)-1:=by rw[qk om om]
  rw[e3]
  refine⟨qKg w0 H g c T z a (b-a) n (heapPop ltInt a (b-a) d1),⟨b-a,d1,by omega,hd1,rfl,rfl,h1⟩,?_⟩
  generalize heapPop ltInt a (b-a) d1=D at hK
  rintro m ee w2 ⟨d2,hm2,hd2,hD2,rfl,h2⟩
  show q66 ..
  rw[q74,qg]
  constructor
  ·intro hge
   obtain⟨m,rfl⟩:∃ k,m=k+1:=⟨m-1,by simp at hge;omega⟩
   rw[qcD]
   have ei:IntKind.wrap .i64 ((a:Int)+(((m+1:Nat):Int)-1))=((a+m:Nat):Int):=by rw[qk om om];omega
   subst hd2
   refine yX (i:=a) (j:=a+m) rfl ei om om h2 fun w3 h3=>?_
   rw[qaK]
   have es:(swp d2 a (a+m)).size=d2.size:=swp_size _ _ _
   rw[<-es]
   refine q2z (lo:=0) (hi:=m) rfl om h3 om om om fun w4 h4=>⟨rfl,?_⟩
   rw[qcU]
   refine⟨m,by omega,_,by omega,by rw[Zz,swp_size],hD2,?_,h4⟩
   rw[qk om om,es]
   have:((m+1:Nat):Int)-1-1=(m:Int)-1:=by omega
   rw[this]
  ·intro hlt
   have:m=0:=by simp at hlt;omega
   subst this
   have hD2:d2=D:=hD2
   subst hD2
   exact hK w2 h2
end
end Go.Fx.Tryz
namespace Go.Fx.Tryz
set_option maxRecDepth 100000
open Go Go.Fx Go.Proofs
def jA:=qx Tryz.f119
def qKF:=Tryz.f119.results.toList
abbrev yl K:=qH P qKF K
def f119 a b c d e w K:=CS P jA none [] [] (yl K) (zh 65 [(VS a b c),(VI d),(VI e)]) w
def qiu a b c d e w K:=SC jA 1 [] [] (yl K) 65 [(0,VS a b c),(1,VI d),(2,VI e)] w
abbrev qAZ K:=kq jA 1 [] [] (yl K)
def qky a b c d e f g h i w K:=SC jA 3 [] [] (yl K) 65 [(6,VI a),(13,VI b),(12,VI c),(11,VI d),(0,VS e f g),(1,VI h),(2,VI i)] w
abbrev qCZ K:=kq jA 3 [] [] (yl K)
def qli a b c d e f g h i j k w K:=SC jA 14 [] [] (yl K) 65 [(15,VB true),(15,VB a),(14,VI b),(6,VI c),(13,VI d),(12,VI e),(11,VI f),(0,VS g h i),(1,VI j),(2,VI k)] w
abbrev qDr K:=kq jA 14 [] [] (yl K)
def qjt a b c d e f g h i j k l m n w K:=SC jA 29 [] [] (yl K) 65 [(7,VQ a),(17,Value.int .u64 b),(16,VI c),(15,VB true),(15,VB d),(14,VI e),(6,VI f),(13,VI g),(12,VI h),(11,VI i),(0,VS j k l),(1,VI m),(2,VI n)] w
abbrev qBb K:=kq jA 29 [] [] (yl K)
def qjB a b c d e f g h i j k l m n o p q w K:=SC jA 59 [] [] (yl K) 65 [(8,Value.int .u64 a),(19,Value.int .u64 b),(18,VI c),(7,VQ d),(17,Value.int .u64 e),(16,VI f),(15,VB true),(15,VB g),(14,VI h),(6,VI i),(13,VI j),(12,VI k),(11,VI l),(0,VS m n o),(1,VI p),(2,VI q)] w
abbrev qDl K:=kq jA 59 [] [] (yl K)
def qjl a b c d e f g h i j k l m n o p q r s t u v x y w K:=SC jA 119 [] [] (yl K) 65 [(9,VI a),(25,VI b),(24,VI c),(23,VI d),(22,VI e),(21,VI f),(20,VI g),(8,Value.int .u64 h),(19,Value.int .u64 i),(18,VI j),(7,VQ k),(17,Value.int .u64 l),(16,VI m),(15,VB true),(15,VB n),(14,VI o),(6,VI p),(13,VI q),(12,VI r),(11,VI s),(0,VS t u v),(1,VI x),(2,VI y)] w
abbrev q7R K:=qq 0 (yl K)
def qv5 K Y6 e w:=zJ (fun e w=>CS P (cA jA 476) none [9,0,1,6,8,7] [] (qw [9,0,1,6,8,7] Y6 (q7R K)) e w) e w
abbrev Vr K Y6:=qw [9,0,1,6,8,7] Y6 (q7R K)
def q9J a b c d f g h i w K Y6:=SG jA 476 [9,0,1,6,8,7] [] (Vr K Y6) 65 [(9,VI a),(0,VS b c d),(1,VI f),(6,VI g),(8,Value.int .u64 h),(7,VQ i)] w
abbrev qjJ K Y6:=kq jA 476 [9,0,1,6,8,7] [] (Vr K Y6)
abbrev qCM K Y6:=kq jA 952 [0,1,6,8,7,9] [] (qjJ K Y6)
def qis a b c d f g h i w K Y6:=SG jA 953 [9,0,1,6,8,7] [] (Vr K Y6) 65 [(0,VS a b c),(1,VI d),(6,VI f),(8,Value.int .u64 g),(7,VQ h),(9,VI i)] w
abbrev qja K Y6:=kq jA 953 [9,0,1,6,8,7] [] (Vr K Y6)
abbrev q8F K Y6:=qq 1 (qja K Y6)
abbrev qtm K Y6:=kq jA 3812 [0,1,6,8,7,9] [0,1,6,8,7,9] (q8F K Y6)
def q2M a b c d f g h i j w K Y6:=SG jA 15251 [0,1,6,8,7,9] [0,1,6,8,7,9] (q8F K Y6) 65 [(0,VS a b c),(1,VI d),(6,VI f),(8,Value.int .u64 g),(7,VQ h),(9,VI i),(10,VI j)] w
def qkD a b c d f g h i w K Y6:=SG jA 1907 [9,0,1,6,8,7] [] (Vr K Y6) 65 [(0,VS a b c),(1,VI d),(6,VI f),(8,Value.int .u64 g),(7,VQ h),(9,VI i)] w
theorem qgr:qkD a c d e f g h i w K Y6=(Y6 (ql.mk 65 [(9,(Value.int .i64 (IntKind.wrap .i64 (i+1)))),(0,(Value.slice a c d)),(1,(Value.int .i64 e)),(6,(Value.int .i64 f)),(8,(Value.int .u64 g)),(7,(Value.pointer (some h)))] []) w):=qV kr
theorem qdl:q2M e f g a h i j c d w K Y6=(qi e (fun m=>0<=(IntKind.wrap .i64 (a+d))/\(IntKind.wrap .i64 (a+d))<(f:Nat)/\qi e (fun n=>0<=c/\c<(f:Nat)/\∃ k:Int,w.drew.cell? (m.add (Int.toNat (IntKind.wrap .i64 (a+d))*1))=some (.int .u32 k)/\∃ l:Int,w.drew.cell? (n.add (Int.toNat c*1))=some (.int .u32 l)/\qi e (fun o=>0<=c/\c<(f:Nat)/\zG (o.add (Int.toNat c*1)) (Value.int .u32 k) w.drew (fun p=>qi e (fun q=>0<=(IntKind.wrap .i64 (a+d))/\(IntKind.wrap .i64 (a+d))<(f:Nat)/\zG (q.add (Int.toNat (IntKind.wrap .i64 (a+d))*1)) (Value.int .u32 l) p (fun r=>qkD e f g a h i j c r K Y6))))))):=qV kr
theorem qh6:qis f g h i d c e j w K Y6=(qa P 128 [(Value.pointer (some e))] w (fun m l=>∃ k:Int,m=(.int .u64 k)/\qC (decide ((IntKind.wrap .i64 (IntKind.wrap .u64 ((BitVec.ofInt (IntKind.bits .u64) k &&& BitVec.ofInt (IntKind.bits .u64) (IntKind.wrap .u64 (c-1))).toNat:Int)))>=d)) (q2M f g h i d c e j (IntKind.wrap .i64 ((IntKind.wrap .i64 (IntKind.wrap .u64 ((BitVec.ofInt (IntKind.bits .u64) k &&& BitVec.ofInt (IntKind.bits .u64) (IntKind.wrap .u64 (c-1))).toNat:Int)))-d)) l K Y6) (q2M f g h i d c e j (IntKind.wrap .i64 (IntKind.wrap .u64 ((BitVec.ofInt (IntKind.bits .u64) k &&& BitVec.ofInt (IntKind.bits .u64) (IntKind.wrap .u64 (c-1))).toNat:Int))) l K Y6))):=qV (qT [0,1,6,8,7,9] (qja K Y6) (QJ 1 [0,1,6,8,7,9] (q8F K Y6) (qT [0,1,6,8,7,9,10] (qtm K Y6) kr)))
theorem q9S:q9J c f g h d e i j w K Y6=((4:Int)≠0/\qC (decide (c<=(IntKind.wrap .i64 ((IntKind.wrap .i64 (d+(IntKind.wrap .i64 ((IntKind.wrap .i64 (e.tdiv 4))*2))))+1)))) (qis f g h d e i j c w K Y6) (K (Value.tuple #[]) w)):=qV (qT [0,1,6,8,7,9] (qjJ K Y6) (qT [33,0,1,6,8,7,9] (qCM K Y6) kr))
theorem qe8:qjl a j k l m n o c p q d r s t u e v x y f g h i z w K=(za (qv5 K) (ql.mk 65 [(9,(Value.int .i64 a)),(0,(Value.slice f g h)),(1,(Value.int .i64 i)),(6,(Value.int .i64 e)),(8,(Value.int .u64 c)),(7,(Value.pointer (some d)))] []) w):=Eq.trans (b:=CS P (cA jA 119) none [] [] (yl K) (ql.mk 65 [(9,(VI a)),(25,(VI j)),(24,(VI k)),(23,(VI l)),(22,(VI m)),(21,(VI n)),(20,(VI o)),(8,(Value.int .u64 c)),(19,(Value.int .u64 p)),(18,(VI q)),(7,(VP (some d))),(17,(Value.int .u64 r)),(16,(VI s)),(15,(VB true)),(15,(VB t)),(14,(VI u)),(6,(VI e)),(13,(VI v)),(12,(VI x)),(11,(VI y)),(0,(VS f g h)),(1,(VI i)),(2,(VI z))] []) w) kr (Eq.trans (YD 0 [] (q7R K) kr) ((qY (b:=(cA jA 476)) (X':=[]) (H:=[9,0,1,6,8,7]) kr kr kr).trans kr))
theorem qgq:qjB e f g h i j k l c m n o p q r d s w K=((4:Int)≠0/\qjl (IntKind.wrap .i64 ((IntKind.wrap .i64 (d+(IntKind.wrap .i64 ((IntKind.wrap .i64 (c.tdiv 4))*2))))-1)) (IntKind.wrap .i64 ((IntKind.wrap .i64 (d+(IntKind.wrap .i64 ((IntKind.wrap .i64 (c.tdiv 4))*2))))-1)) (IntKind.wrap .i64 (d+(IntKind.wrap .i64 ((IntKind.wrap .i64 (c.tdiv 4))*2)))) (IntKind.wrap .i64 ((IntKind.wrap .i64 (c.tdiv 4))*2)) (IntKind.wrap .i64 (c.tdiv 4)) c d e f g h i j k l c m n o p q r d s w K):=Eq.trans (b:=CS P (cA jA 59) none [] [] (yl K) (ql.mk 65 [(8,(Value.int .u64 e)),(19,(Value.int .u64 f)),(18,(VI g)),(7,(VP (some h))),(17,(Value.int .u64 i)),(16,(VI j)),(15,(VB true)),(15,(VB k)),(14,(VI l)),(6,(VI c)),(13,(VI m)),(12,(VI n)),(11,(VI o)),(0,(VS p q r)),(1,(VI d)),(2,(VI s))] []) w) kr (Eq.trans (zN [9,0,1,6,8,7] (qDl K) kr) kr)
theorem qdk:qjt d e f g h c i j k l m n o p w K=(qa P 127 [(Value.int .i64 c)] w (fun r s=>∃ q:Int,r=(.int .u64 q)/\qjB q q c d e f g h c i j k l m n o p s K)):=Eq.trans (b:=CS P (cA jA 29) none [] [] (yl K) (ql.mk 65 [(7,(VP (some d))),(17,(Value.int .u64 e)),(16,(VI f)),(15,(VB true)),(15,(VB g)),(14,(VI h)),(6,(VI c)),(13,(VI i)),(12,(VI j)),(11,(VI k)),(0,(VS l m n)),(1,(VI o)),(2,(VI p))] []) w) kr (Eq.trans (zN [0,1,6,8,7] (qBb K) kr) kr)
theorem qeH:qli d e c f g h i j k l m w K=(qt (qn P 205) 205 w (fun n o=>zG (Addr.mk n 0 none) (Value.int .u64 (IntKind.wrap .u64 c)) o (fun p=>qjt (Addr.mk n 0 none) (IntKind.wrap .u64 c) c d e c f g h i j k l m p K))):=Eq.trans (b:=CS P (cA jA 14) none [] [] (yl K) (ql.mk 65 [(15,(VB true)),(15,(VB d)),(14,(VI e)),(6,(VI c)),(13,(VI f)),(12,(VI g)),(11,(VI h)),(0,(VS i j k)),(1,(VI l)),(2,(VI m))] []) w) kr (Eq.trans (zN [0,1,6,7] (qDr K) kr) kr)
theorem qdB:qky c d e f g h i j k w K=(qC (decide (c>=8)) (qli (decide (c>=8)) c c d e f g h i j k w K) (K (Value.tuple #[]) w)):=Eq.trans (b:=CS P (cA jA 3) none [] [] (yl K) (ql.mk 65 [(6,(VI c)),(13,(VI d)),(12,(VI e)),(11,(VI f)),(0,(VS g h i)),(1,(VI j)),(2,(VI k))] []) w) kr (Eq.trans (zN [15,0,1,6] (qCZ K) kr) kr)
theorem qeT:qiu e f g c d w K=(qky (IntKind.wrap .i64 (d-c)) (IntKind.wrap .i64 (d-c)) c d e f g c d w K):=Eq.trans (b:=CS P (cA jA 1) none [] [] (yl K) (ql.mk 65 [(0,(VS e f g)),(1,(VI c)),(2,(VI d))] []) w) kr (Eq.trans (zN [0,1,6] (qAZ K) kr) kr)
theorem qCY:f119 a b c d e w K=(qiu a b c d e w K):=kr
theorem qCc a b c d e w K(h:f119 a b c d e w K):qa P 119 [(Value.slice a b c),(Value.int .i64 d),(Value.int .i64 e)] w K:=zj jA Tryz.func119 h
def jm:=qx Tryz.f120
def qKW:=Tryz.f120.results.toList
abbrev zM K:=qH P qKW K
def f120 a b c d e w K:=CS P jm none [6,7] [6,7] (zM K) (zh 57 [(VS a b c),(VI d),(VI e)]) w
def qkB a b c d e w K:=SC jm 1 [6,7] [6,7] (zM K) 57 [(0,VS a b c),(1,VI d),(2,VI e)] w
abbrev qCj K:=kq jm 1 [6,7] [6,7] (zM K)
def qjq a b c d e f g w K:=SC jm 3 [6,7] [6,7] (zM K) 57 [(7,VI a),(6,VI b),(0,VS c d e),(1,VI f),(2,VI g)] w
abbrev qC5 K:=kq jm 3 [6,7] [6,7] (zM K)
def qkE a b c d e f g h i j k w K:=SC jm 7 [6,7] [6,7] (zM K) 57 [(8,VI a),(15,VI b),(14,VI c),(13,VI d),(7,VI e),(6,VI f),(0,VS g h i),(1,VI j),(2,VI k)] w
abbrev qA1 K:=kq jm 7 [6,7] [6,7] (zM K)
def qkO a b c d e f g h i j k l w K:=SC jm 15 [6,7] [6,7] (zM K) 57 [(9,VQ a),(8,VI b),(15,VI c),(14,VI d),(13,VI e),(7,VI f),(6,VI g),(0,VS h i j),(1,VI k),(2,VI l)] w
abbrev qC2 K:=kq jm 15 [6,7] [6,7] (zM K)
def qig a b c d e f g h i j k l m n o p q r w K:=SC jm 31 [6,7] [6,7] (zM K) 57 [(10,VI a),(20,VI b),(19,VI c),(18,VI d),(17,VI e),(16,VI f),(9,VQ g),(8,VI h),(15,VI i),(14,VI j),(13,VI k),(7,VI l),(6,VI m),(0,VS n o p),(1,VI q),(2,VI r)] w
abbrev qB0 K:=kq jm 31 [6,7] [6,7] (zM K)
def qk2 a b c d e f g h i j k l m n o p q r s t u v x y w K:=SC jm 63 [6,7] [6,7] (zM K) 57 [(11,VI a),(25,VI b),(24,VI c),(23,VI d),(22,VI e),(21,VI f),(10,VI g),(20,VI h),(19,VI i),(18,VI j),(17,VI k),(16,VI l),(9,VQ m),(8,VI n),(15,VI o),(14,VI p),(13,VI q),(7,VI r),(6,VI s),(0,VS t u v),(1,VI x),(2,VI y)] w
abbrev qDk K:=kq jm 63 [6,7] [6,7] (zM K)
def qiv a b c d e f g h i j k l m n o p q r s t u v x y z a0 b0 c0 d0 e0 w K:=SC jm 127 [6,7] [6,7] (zM K) 57 [(12,VI a),(30,VI b),(29,VI c),(28,VI d),(27,VI e),(26,VI f),(11,VI g),(25,VI h),(24,VI i),(23,VI j),(22,VI k),(21,VI l),(10,VI m),(20,VI n),(19,VI o),(18,VI p),(17,VI q),(16,VI r),(9,VQ s),(8,VI t),(15,VI u),(14,VI v),(13,VI x),(7,VI y),(6,VI z),(0,VS a0 b0 c0),(1,VI d0),(2,VI e0)] w
abbrev q9s K:=kq jm 127 [6,7] [6,7] (zM K)
abbrev qA6 K:=kq jm 254 [11,9] [6,7] (q9s K)
def q36 a b c d f g h w K:=SG jm 2037 [11,9] [6,7] (q9s K) 57 [(9,VQ a),(12,VI b),(11,VI c),(10,VI d),(0,VS f g h)] w
def q3f a b w K:=SG jm 255 [6,7] [6,7] (zM K) 57 [(11,VI a),(9,VQ b)] w
abbrev qwN K:=kq jm 255 [6,7] [6,7] (zM K)
def qju a b c w K:=SC jm 511 [6,7] [6,7] (zM K) 57 [(49,VI a),(11,VI b),(9,VQ c)] w
abbrev qcT K:=qq 0 (zM K)
abbrev qrc K:=kq jm 1022 [6,7] [6,7] (qcT K)
theorem qdz:qju d c e w K=(qC (d==0) (K (Value.tuple #[(Value.int .i64 c),(Value.int .i64 1)]) w) (qC (d==12) (K (Value.tuple #[(Value.int .i64 c),(Value.int .i64 2)]) w) (K (Value.tuple #[(Value.int .i64 c),(Value.int .i64 0)]) w))):=Eq.trans (b:=CS P (cA jm 511) none [6,7] [6,7] (zM K) (ql.mk 57 [(49,(VI d)),(11,(VI c)),(9,(VP (some e)))] []) w) kr (Eq.trans (YD 0 [6,7] (qcT K) kr) (Eq.trans (zN [51,11,49] (qrc K) kr) kr))
theorem qh5:q3f d c w K=(∃ e:Int,w.cell? c=some (.int .i64 e)/\qju e d c w K):=qV (qT [11,49] (qwN K) kr)
theorem qeW:q36 a c d e f g h w K=(qa P 133 [(Value.slice f g h),(Value.int .i64 e),(Value.int .i64 d),(Value.int .i64 c),(Value.pointer (some a))] w (fun j k=>∃ i:Int,j=(.int .i64 i)/\q3f i a k K)):=qV kr
theorem qfR:qiv h k l m n o g p q r s t i u v x y z c j a0 b0 c0 d0 e0 d e f f0 g0 w K=(qC (decide (j>=8)) (qC (decide (j>=50)) (qa P 132 [(Value.slice d e f),(Value.int .i64 i),(Value.pointer (some c))] w (fun l0 m0=>∃ h0:Int,l0=(.int .i64 h0)/\qa P 132 [(Value.slice d e f),(Value.int .i64 g),(Value.pointer (some c))] m0 (fun n0 o0=>∃ i0:Int,n0=(.int .i64 i0)/\qa P 132 [(Value.slice d e f),(Value.int .i64 h),(Value.pointer (some c))] o0 (fun p0 q0=>∃ j0:Int,p0=(.int .i64 j0)/\q36 c j0 i0 h0 d e f q0 K)))) (q36 c h g i d e f w K)) (q3f g c w K)):=Eq.trans (b:=CS P (cA jm 127) none [6,7] [6,7] (zM K) (ql.mk 57 [(12,(VI h)),(30,(VI k)),(29,(VI l)),(28,(VI m)),(27,(VI n)),(26,(VI o)),(11,(VI g)),(25,(VI p)),(24,(VI q)),(23,(VI r)),(22,(VI s)),(21,(VI t)),(10,(VI i)),(20,(VI u)),(19,(VI v)),(18,(VI x)),(17,(VI y)),(16,(VI z)),(9,(VP (some c))),(8,(VI j)),(15,(VI a0)),(14,(VI b0)),(13,(VI c0)),(7,(VI d0)),(6,(VI e0)),(0,(VS d e f)),(1,(VI f0)),(2,(VI g0))] []) w) kr (Eq.trans (zN [11,9] (q9s K) kr) (Eq.trans (zN [32,9,0,12,11,10,8] (qA6 K) kr) kr))
theorem qhi:qk2 e f g h i j k l m n o p q c r s t u v x y z d a0 w K=((4:Int)≠0/\qiv (IntKind.wrap .i64 (d+(IntKind.wrap .i64 ((IntKind.wrap .i64 (c.tdiv 4))*3)))) (IntKind.wrap .i64 (d+(IntKind.wrap .i64 ((IntKind.wrap .i64 (c.tdiv 4))*3)))) (IntKind.wrap .i64 ((IntKind.wrap .i64 (c.tdiv 4))*3)) (IntKind.wrap .i64 (c.tdiv 4)) c d e f g h i j k l m n o p q c r s t u v x y z d a0 w K):=Eq.trans (b:=CS P (cA jm 63) none [6,7] [6,7] (zM K) (ql.mk 57 [(11,(VI e)),(25,(VI f)),(24,(VI g)),(23,(VI h)),(22,(VI i)),(21,(VI j)),(10,(VI k)),(20,(VI l)),(19,(VI m)),(18,(VI n)),(17,(VI o)),(16,(VI p)),(9,(VP (some q))),(8,(VI c)),(15,(VI r)),(14,(VI s)),(13,(VI t)),(7,(VI u)),(6,(VI v)),(0,(VS x y z)),(1,(VI d)),(2,(VI a0))] []) w) kr (Eq.trans (zN [9,0,12,11,10,8] (qDk K) kr) kr)
theorem qfb:qig e f g h i j k c l m n o p q r s d t w K=((4:Int)≠0/\qk2 (IntKind.wrap .i64 (d+(IntKind.wrap .i64 ((IntKind.wrap .i64 (c.tdiv 4))*2)))) (IntKind.wrap .i64 (d+(IntKind.wrap .i64 ((IntKind.wrap .i64 (c.tdiv 4))*2)))) (IntKind.wrap .i64 ((IntKind.wrap .i64 (c.tdiv 4))*2)) (IntKind.wrap .i64 (c.tdiv 4)) c d e f g h i j k c l m n o p q r s d t w K):=Eq.trans (b:=CS P (cA jm 31) none [6,7] [6,7] (zM K) (ql.mk 57 [(10,(VI e)),(20,(VI f)),(19,(VI g)),(18,(VI h)),(17,(VI i)),(16,(VI j)),(9,(VP (some k))),(8,(VI c)),(15,(VI l)),(14,(VI m)),(13,(VI n)),(7,(VI o)),(6,(VI p)),(0,(VS q r s)),(1,(VI d)),(2,(VI t))] []) w) kr (Eq.trans (zN [9,0,11,10,8,1] (qB0 K) kr) kr)
theorem qh7:qkO e c f g h i j k l m d n w K=((4:Int)≠0/\qig (IntKind.wrap .i64 (d+(IntKind.wrap .i64 ((IntKind.wrap .i64 (c.tdiv 4))*1)))) (IntKind.wrap .i64 (d+(IntKind.wrap .i64 ((IntKind.wrap .i64 (c.tdiv 4))*1)))) (IntKind.wrap .i64 ((IntKind.wrap .i64 (c.tdiv 4))*1)) (IntKind.wrap .i64 (c.tdiv 4)) c d e c f g h i j k l m d n w K):=Eq.trans (b:=CS P (cA jm 15) none [6,7] [6,7] (zM K) (ql.mk 57 [(9,(VP (some e))),(8,(VI c)),(15,(VI f)),(14,(VI g)),(13,(VI h)),(7,(VI i)),(6,(VI j)),(0,(VS k l m)),(1,(VI d)),(2,(VI n))] []) w) kr (Eq.trans (zN [9,0,10,8,1] (qC2 K) kr) kr)
theorem qe9:qkE c d e f g h i j k l m w K=(qt (qn P 3) 3 w (fun n o=>qkO (Addr.mk n 0 none) c d e f g h i j k l m o K)):=Eq.trans (b:=CS P (cA jm 7) none [6,7] [6,7] (zM K) (ql.mk 57 [(8,(VI c)),(15,(VI d)),(14,(VI e)),(13,(VI f)),(7,(VI g)),(6,(VI h)),(0,(VS i j k)),(1,(VI l)),(2,(VI m))] []) w) kr (Eq.trans (zN [9,0,8,1] (qA1 K) kr) kr)
theorem qdO:qjq e f g h i c d w K=(qkE (IntKind.wrap .i64 (d-c)) (IntKind.wrap .i64 (d-c)) c d e f g h i c d w K):=Eq.trans (b:=CS P (cA jm 3) none [6,7] [6,7] (zM K) (ql.mk 57 [(7,(VI e)),(6,(VI f)),(0,(VS g h i)),(1,(VI c)),(2,(VI d))] []) w) kr (Eq.trans (zN [0,8,1] (qC5 K) kr) kr)
theorem qgI:qkB c d e f g w K=(qjq 0 0 c d e f g w K):=Eq.trans (b:=CS P (cA jm 1) none [6,7] [6,7] (zM K) (ql.mk 57 [(0,(VS c d e)),(1,(VI f)),(2,(VI g))] []) w) kr (Eq.trans (zN [0,1,2] (qCj K) kr) kr)
theorem qDq:f120 a b c d e w K=(qkB a b c d e w K):=kr
theorem qzm a b c d e w K(h:f120 a b c d e w K):qa P 120 [(Value.slice a b c),(Value.int .i64 d),(Value.int .i64 e)] w K:=zj jm Tryz.func120 h
end Go.Fx.Tryz
namespace Go.Fx.Tryz
open Go Go.Fx Go.Fx.Mo
open Go.Proofs
open Go.Sort (swp swp_size ltInt order2 median medianAdjacent choosePivot reverseLoop reverseRange Hint xorNext xorNextN bitsLen breakStep breakPatterns)
variable {w0 w:World} {H X:qP} {K:KT}
set_option maxRecDepth 20000
section
variable {g c:Nat} {T:TypeId} {z:List Value}
def qKJ(w0:World)(H:qP)(g c:Nat)(T:TypeId)(z:List Value)(n:Nat)(D:Array Int)(m:Nat)(ee:ql)(w:World):Prop:=
 ∃ (i j:Nat) (d:Array Int),m=j-i/\j<n/\i<=n/\d.size=n/\reverseLoop i j d=D/\ee=ql.mk 32 [(7,(Value.int .i64 j)),(6,(Value.int .i64 i)),(0,(Value.slice (some (Addr.mk g 0 none)) n c))] []/\St w0 w ((g,Cs (yG d z) T)::H)
theorem qf0{d:Array Int}{a b:Nat}(h:St w0 w ((g,Cs (yG d z) T)::H))(hab:a<b)(hb:b<=d.size)(hn:d.size<1000000000000)(hK:∀ w',St w0 w' ((g,Cs (yG (reverseRange d a b) z) T)::H)->K (.tuple [].toArray) w') :
  qa P 121 [.slice (some (Addr.mk g 0 none)) d.size c,.int .i64 a,.int .i64 b] w K:=by
 refine qzM _ _ _ _ _ _ _ ?_
 rw[qBl,qhh,qhG,qek]
 have e1:IntKind.wrap .i64 ((b:Int)-1)=((b-1:Nat):Int):=by rw[qk om om];omega
 rw[e1]
 refine⟨qKJ w0 H g c T z d.size (reverseRange d a b),⟨b-1-a,a,b-1,d,rfl,by omega,by omega,rfl,rfl,rfl,h⟩,?_⟩
 generalize hnn:d.size=n at hb hn
 generalize reverseRange d a b=D at hK
 rintro m ee w1 ⟨i,j,d1,rfl,hj,hi,hd1,hD,rfl,h1⟩
 show q9D ..
 rw[qbl,qg]
 rw[reverseLoop]at hD
 constructor
 ·intro hlt
  have hlt:i<j:=by simpa using hlt
  rw[if_pos hlt]at hD
  rw[qgS]
  subst hd1
  refine yX (i:=i) (j:=j) rfl rfl om om h1 fun w2 h2=>?_
  rw[qgp]
  have ej:IntKind.wrap .i64 ((j:Int)-1)=((j-1:Nat):Int):=by rw[qk om om];omega
  have ei:IntKind.wrap .i64 ((i:Int)+1)=((i+1:Nat):Int):=by rw[qk om om];omega
  exact⟨j-1-(i+1),by omega,i+1,j-1,_,rfl,by omega,by omega,swp_size _ _ _,hD,by rw[ei,ej],h2⟩
 ·intro hge
  have hge:¬ i<j:=by simpa using hge
  rw[if_neg hge]at hD
  subst hD
  exact hK w1 h1
theorem q1G{d:Array Int}{a b p s:Nat}{ea eb:Int}(ha:ea=(a:Int))(hb:eb=(b:Int))(hm:(g,Cs (yG d z) T)∈X)(h:St w0 w ((p,Cs [qj s] 3)::X))(han:a<d.size)(hbn:b<d.size)(hs:s<1000)
  (hK:∀ w',St w0 w' ((p,Cs [qj ((order2 ltInt d a b s).2.2:Nat)] 3)::X)->K (.tuple [qj ((order2 ltInt d a b s).1:Nat),qj ((order2 ltInt d a b s).2.1:Nat)].toArray) w') :
  qa P 135 [.slice (some (Addr.mk g 0 none)) d.size c,.int .i64 ea,.int .i64 eb,.pointer (some (Addr.mk p 0 none))] w K:=by
 subst ha hb
 refine qAx _ _ _ _ _ _ _ _ ?_
 rw[qAf]
 refine vp (i:=b) (j:=a) rfl rfl hbn han h (List.mem_cons_of_mem _ hm) fun w1 h1=>⟨_,rfl,?_⟩
 unfold order2 at hK
 rw[qgB,qg]
 constructor
 ·intro hl
  rw[if_pos hl]at hK
  refine⟨(s:Int),h1.cell (k:=0) rfl,?_⟩
  refine h1.st1 (k:=0) rfl (by simp) rfl fun w2 h2=>?_
  have h2:St w0 w2 ((p,Cs [qj (IntKind.wrap .i64 ((s:Int)+1))] 3)::X):=h2
  rw[qk om om,show(s:Int)+1=((s+1:Nat):Int)by omega]at h2
  exact hK w2 h2
 ·intro hl
  rw[if_neg (by simp[hl])]at hK
  rw[qdL]
  exact hK w1 h1
theorem Yb(d:Array Int)(a b s n:Nat)(ha:a<n)(hb:b<n):(order2 ltInt d a b s).1<n/\(order2 ltInt d a b s).2.1<n/\(order2 ltInt d a b s).2.2<=s+1:=by
 unfold order2
 split
 ·exact⟨hb,ha,Nat.le_refl _⟩
 ·exact⟨ha,hb,Nat.le_succ _⟩
theorem Jj(d:Array Int)(a b c' s n:Nat)(ha:a<n)(hb:b<n)(hc:c'<n):(median ltInt d a b c' s).1<n/\(median ltInt d a b c' s).2<=s+3:=by
 unfold median
 simp only
 obtain⟨h1,h2,h3⟩:=Yb d a b s n ha hb
 obtain⟨h4,h5,h6⟩:=Yb d (order2 ltInt d a b s).2.1 c' (order2 ltInt d a b s).2.2 n h2 hc
 obtain⟨h7,h8,h9⟩:=Yb d (order2 ltInt d a b s).1 (order2 ltInt d (order2 ltInt d a b s).2.1 c' (order2 ltInt d a b s).2.2).1 (order2 ltInt d (order2 ltInt d a b s).2.1 c' (order2 ltInt d a b s).2.2).2.2 n h1 h4
 exact⟨h8,by omega⟩
theorem q6q{d:Array Int}{a b c' p s:Nat}{ea eb ec:Int}(ha:ea=(a:Int))(hb:eb=(b:Int))(hc:ec=(c':Int))(hm:(g,Cs (yG d z) T)∈X)(h:St w0 w ((p,Cs [qj s] 3)::X))(han:a<d.size)(hbn:b<d.size)(hcn:c'<d.size)(hs:s<900)
  (hK:∀ w',St w0 w' ((p,Cs [qj ((median ltInt d a b c' s).2:Nat)] 3)::X)->K (qj ((median ltInt d a b c' s).1:Nat)) w') :
  qa P 133 [.slice (some (Addr.mk g 0 none)) d.size c,.int .i64 ea,.int .i64 eb,.int .i64 ec,.pointer (some (Addr.mk p 0 none))] w K:=by
 refine qDw _ _ _ _ _ _ _ _ _ ?_
 rw[qBp]
 obtain⟨h1,h2,h3⟩:=Yb d a b s d.size han hbn
 refine q1G ha hb hm h han hbn om fun w1 k1=>⟨_,_,rfl,?_⟩
 obtain⟨h4,h5,h6⟩:=Yb d (order2 ltInt d a b s).2.1 c' (order2 ltInt d a b s).2.2 d.size h2 hcn
 refine q1G rfl hc hm k1 h2 hcn om fun w2 k2=>⟨_,_,rfl,?_⟩
 refine q1G rfl rfl hm k2 h1 h4 om fun w3 k3=>⟨_,_,rfl,?_⟩
 exact hK w3 k3
theorem VC{d:Array Int}{a p s:Nat}{ea:Int}(ha:ea=(a:Int))(hm:(g,Cs (yG d z) T)∈X)(h:St w0 w ((p,Cs [qj s] 3)::X))(ha1:1<=a)(han:a+1<d.size)(hn:d.size<1000000000000)(hs:s<900)
  (hK:∀ w',St w0 w' ((p,Cs [qj ((medianAdjacent ltInt d a s).2:Nat)] 3)::X)->K (qj ((medianAdjacent ltInt d a s).1:Nat)) w') :
  qa P 132 [.slice (some (Addr.mk g 0 none)) d.size c,.int .i64 ea,.pointer (some (Addr.mk p 0 none))] w K:=by
 subst ha
 refine qBm _ _ _ _ _ _ _ ?_
 rw[qA9]
 refine q6q (a:=a-1) (b:=a) (c':=a+1) ?_ rfl ?_ hm h om om om hs fun w1 k1=>⟨_,rfl,hK w1 k1⟩
 ·rw[qk om om];omega
 ·rw[qk om om];omega
def qil:Hint->Int
 | .unknown=>0
 | .increasing=>1
 | .decreasing=>2
theorem z3i:qn P 3=[qj 0].toArray:=kr
theorem qtW{d:Array Int}{a b:Nat}(hm:(g,Cs (yG d z) T)∈X)(h:St w0 w X)(hab:a<b)(hb:b<=d.size)(hn:d.size<1000000000000)
  (hK:∀ w',St w0 w' X->K (.tuple [qj ((choosePivot ltInt d a b).1:Nat),qj (qil (choosePivot ltInt d a b).2)].toArray) w') :
  qa P 120 [.slice (some (Addr.mk g 0 none)) d.size c,.int .i64 a,.int .i64 b] w K:=by
 refine qzm _ _ _ _ _ _ _ ?_
 have el:IntKind.wrap .i64 ((b:Int)-(a:Int))=((b-a:Nat):Int):=by rw[qk om om];omega
 rw[qDq,qgI,qdO,qe9,z3i]
 refine h.newC fun p w1 hp h1=>?_
 have h1:St w0 w1 ((p,Cs [qj ((0:Nat):Int)] 3)::X):=h1
 rw[el,qh7]
 have e4:IntKind.wrap .i64 (((b-a:Nat):Int).tdiv 4)=(((b-a) / 4:Nat):Int):=by
  rw[Int.tdiv_eq_ediv_of_nonneg om,qk om om];omega
 rw[e4]
 have ek:∀ k:Nat,k<=3->IntKind.wrap .i64 ((a:Int)+IntKind.wrap .i64 ((((b-a) / 4:Nat):Int)*(k:Int)))=((a+(b-a) / 4*k:Nat):Int):=fun k hk=>by
  have hle:(b-a) / 4*k<=(b-a) / 4*3:=Nat.mul_le_mul_left _ hk
  rw[show((((b-a) / 4:Nat):Int)*(k:Int))=(((b-a) / 4*k:Nat):Int)by rw[Int.natCast_mul],qk (x:=(((b-a) / 4*k:Nat):Int)) om om,qk om om]
  omega
 have ek1:=ek 1 om
 have ek2:=ek 2 om
 have ek3:=ek 3 om
 refine⟨by omega,?_⟩
 rw[qfb]
 refine⟨by omega,?_⟩
 rw[qhi]
 refine⟨by omega,?_⟩
 rw[qfR,e4]
 have ek1':IntKind.wrap .i64 ((a:Int)+IntKind.wrap .i64 ((((b-a) / 4:Nat):Int)*1))=((a+(b-a) / 4*1:Nat):Int):=ek1
 have ek2':IntKind.wrap .i64 ((a:Int)+IntKind.wrap .i64 ((((b-a) / 4:Nat):Int)*2))=((a+(b-a) / 4*2:Nat):Int):=ek2
 have ek3':IntKind.wrap .i64 ((a:Int)+IntKind.wrap .i64 ((((b-a) / 4:Nat):Int)*3))=((a+(b-a) / 4*3:Nat):Int):=ek3
 rw[ek1',ek2',ek3']
 have s8:∀ w2 (r:Nat × Nat),(r.1,if r.2=0 then Hint.increasing else if r.2=12 then .decreasing else .unknown)=choosePivot ltInt d a b->r.2<=100->St w0 w2 ((p,Cs [qj ((r.2:Nat):Int)] 3)::X)->q3f ((r.1:Nat):Int) (Addr.mk p 0 none) w2 K:=by
  intro w2 r hr hr2 h2
  have hK:=hK w2 (h2.tail hp)
  rw[<-hr]at hK
  rw[qh5]
  refine⟨((r.2:Nat):Int),h2.cell (k:=0) rfl,?_⟩
  rw[qdz,qg]
  refine⟨fun h0=>?_,fun h0=>?_⟩
  ·have h0:r.2=0:=by simp at h0;omega
   rw[if_pos h0]at hK
   exact hK
  ·have h0:r.2≠0:=by simp at h0;omega
   rw[if_neg h0]at hK
   rw[qg]
   refine⟨fun h12=>?_,fun h12=>?_⟩
   ·have h12:r.2=12:=by simp at h12;omega
    rw[if_pos h12]at hK
    exact hK
   ·have h12:r.2≠12:=by simp at h12;omega
    rw[if_neg h12]at hK
    exact hK
 have s7:∀ w2 (i j k s:Nat),((median ltInt d i j k s).1,if(median ltInt d i j k s).2=0 then Hint.increasing else if(median ltInt d i j k s).2=12 then .decreasing else .unknown)=choosePivot ltInt d a b->i<d.size->j<d.size->k<d.size->s<=20->
   St w0 w2 ((p,Cs [qj ((s:Nat):Int)] 3)::X)->q36 (Addr.mk p 0 none) ((k:Nat):Int) ((j:Nat):Int) ((i:Nat):Int) (some (Addr.mk g 0 none)) d.size c w2 K:=by
  intro w2 i j k s hr hi hj hk hs h2
  rw[qeW]
  obtain⟨_,m2⟩:=Jj d i j k s d.size hi hj hk
  exact q6q rfl rfl rfl hm h2 hi hj hk om fun w3 h3=>⟨_,rfl,s8 w3 (median ltInt d i j k s) hr om h3⟩
 have hcp:choosePivot ltInt d a b=((if b-a>=8 then(if b-a>=50 then median ltInt d (medianAdjacent ltInt d (a+(b-a) / 4*1) 0).1 (medianAdjacent ltInt d (a+(b-a) / 4*2) (medianAdjacent ltInt d (a+(b-a) / 4*1) 0).2).1
   (medianAdjacent ltInt d (a+(b-a) / 4*3) (medianAdjacent ltInt d (a+(b-a) / 4*2) (medianAdjacent ltInt d (a+(b-a) / 4*1) 0).2).2).1 (medianAdjacent ltInt d (a+(b-a) / 4*3) (medianAdjacent ltInt d (a+(b-a) / 4*2) (medianAdjacent ltInt d (a+(b-a) / 4*1) 0).2).2).2
   else median ltInt d (a+(b-a) / 4*1) (a+(b-a) / 4*2) (a+(b-a) / 4*3) 0)else(a+(b-a) / 4*2,0)).1,if(if b-a>=8 then(if b-a>=50 then median ltInt d (medianAdjacent ltInt d (a+(b-a) / 4*1) 0).1 (medianAdjacent ltInt d (a+(b-a) / 4*2) (medianAdjacent ltInt d (a+(b-a) / 4*1) 0).2).1
   (medianAdjacent ltInt d (a+(b-a) / 4*3) (medianAdjacent ltInt d (a+(b-a) / 4*2) (medianAdjacent ltInt d (a+(b-a) / 4*1) 0).2).2).1 (medianAdjacent ltInt d (a+(b-a) / 4*3) (medianAdjacent ltInt d (a+(b-a) / 4*2) (medianAdjacent ltInt d (a+(b-a) / 4*1) 0).2).2).2
   else median ltInt d (a+(b-a) / 4*1) (a+(b-a) / 4*2) (a+(b-a) / 4*3) 0)else(a+(b-a) / 4*2,0)).2=0 then Hint.increasing else if(if b-a>=8 then(if b-a>=50 then median ltInt d (medianAdjacent ltInt d (a+(b-a) / 4*1) 0).1 (medianAdjacent ltInt d (a+(b-a) / 4*2) (medianAdjacent ltInt d (a+(b-a) / 4*1) 0).2).1
   (medianAdjacent ltInt d (a+(b-a) / 4*3) (medianAdjacent ltInt d (a+(b-a) / 4*2) (medianAdjacent ltInt d (a+(b-a) / 4*1) 0).2).2).1 (medianAdjacent ltInt d (a+(b-a) / 4*3) (medianAdjacent ltInt d (a+(b-a) / 4*2) (medianAdjacent ltInt d (a+(b-a) / 4*1) 0).2).2).2
   else median ltInt d (a+(b-a) / 4*1) (a+(b-a) / 4*2) (a+(b-a) / 4*3) 0)else(a+(b-a) / 4*2,0)).2=12 then .decreasing else .unknown):=rfl
 rw[qg]
 refine⟨fun h8=>?_,fun h8=>?_⟩
 ·have h8:b-a>=8:=by simp at h8;omega
  simp only[if_pos h8]at hcp
  rw[qg]
  refine⟨fun h50=>?_,fun h50=>?_⟩
  ·have h50:b-a>=50:=by simp at h50;omega
   simp only[if_pos h50]at hcp
   have b1:∀ s,(medianAdjacent ltInt d (a+(b-a) / 4*1) s).1<d.size/\(medianAdjacent ltInt d (a+(b-a) / 4*1) s).2<=s+3:=fun s=>Jj _ _ _ _ _ _ om om om
   have b2:∀ s,(medianAdjacent ltInt d (a+(b-a) / 4*2) s).1<d.size/\(medianAdjacent ltInt d (a+(b-a) / 4*2) s).2<=s+3:=fun s=>Jj _ _ _ _ _ _ om om om
   have b3:∀ s,(medianAdjacent ltInt d (a+(b-a) / 4*3) s).1<d.size/\(medianAdjacent ltInt d (a+(b-a) / 4*3) s).2<=s+3:=fun s=>Jj _ _ _ _ _ _ om om om
   have c1:=b1 0
   refine VC rfl hm h1 om om hn om fun w2 h2=>⟨_,rfl,?_⟩
   have c2:=b2 (medianAdjacent ltInt d (a+(b-a) / 4*1) 0).2
   refine VC rfl hm h2 om om hn om fun w3 h3=>⟨_,rfl,?_⟩
   have c3:=b3 (medianAdjacent ltInt d (a+(b-a) / 4*2) (medianAdjacent ltInt d (a+(b-a) / 4*1) 0).2).2
   refine VC rfl hm h3 om om hn om fun w4 h4=>⟨_,rfl,?_⟩
   exact s7 w4 _ _ _ _ hcp.symm c1.1 c2.1 c3.1 om h4
  ·have h50:¬ b-a>=50:=by simp at h50;omega
   simp only[if_neg h50]at hcp
   exact s7 w1 _ _ _ _ hcp.symm om om om om h1
 ·have h8:¬ b-a>=8:=by simp at h8;omega
  simp only[if_neg h8]at hcp
  exact s8 w1 (a+(b-a) / 4*2,0) hcp.symm (by simp) h1
end
end Go.Fx.Tryz
namespace Go.Fx.Tryz
open Go Go.Fx Go.Fx.Mo
open Go.Proofs
open Go.Sort (swp swp_size ltInt xorNext xorNextN bitsLen breakStep breakPatterns)
variable {w0 w:World} {H X:qP} {K:KT}
set_option maxRecDepth 20000
theorem St.drewN(h:St w0 w H)(n:Nat):St w0 (w.drewN n) H:=⟨⟨h.kept.os,h.kept.tape,h.kept.output⟩,h.le,h.has,h.nd,h.old⟩
theorem qDo{p x:Nat}{T2:TypeId}(h:St w0 w ((p,Cs [.int .u64 (x:Nat)] T2)::X))(hx:x<18446744073709551616)(hK:∀ w',St w0 w' ((p,Cs [.int .u64 (xorNextN x:Nat)] T2)::X)->K (.int .u64 (xorNextN x:Nat)) w') :
  qa P 128 [.pointer (some (Addr.mk p 0 none))] w K:=by
 have hb:w.heap[p]?=some (Cs [.int .u64 (x:Nat)] T2):=h.has _ _ (.head _)
 refine Qi (AnyF.xorshift_Next (P:=P) (ρ:=Tryz.sortR_ren) { Tryz.sortR with } p 0 x hx w (qv hb) (Je hb)) ?_
 rintro e w' ⟨rfl,rfl⟩
 refine⟨_,rfl,hK _ ?_⟩
 have e:w.setCell (Addr.mk p 0 none) (.int .u64 (xorNextN x:Nat))=w.putObj p (Cs [.int .u64 (xorNextN x:Nat)] T2):=JS _ hb
 have e':w.setCell ⟨p,0,none⟩ (.int .u64 (xorNextN x:Nat))=w.putObj p (Cs [.int .u64 (xorNextN x:Nat)] T2):=e
 rw[e']
 exact St.drewN (h.put (k:=0) rfl _) 3
theorem qJl(h:St w0 w X){n:Nat}(hn:n<4611686018427387904)(hK:∀ w',St w0 w' X->K (.int .u64 ((1 <<< bitsLen n:Nat):Int)) w'):qa P 127 [.int .i64 (n:Nat)] w K:=by
 refine Qi (AnyF.nextPowerOfTwo (P:=P) (ρ:=Tryz.sortR_ren) { Tryz.sortR with } n hn w) ?_
 rintro e w' ⟨rfl,rfl⟩
 exact⟨_,rfl,hK w' h⟩
section
variable {g c:Nat} {T:TypeId} {z:List Value}
def brk(a length modulus idx0:Nat)(d:Array Int):Nat->UInt64 × Array Int
 | 0=>(UInt64.ofNat length,d)
 | k+1=>breakStep a length modulus (brk a length modulus idx0 d k) (idx0+k)
theorem qb0(a length modulus idx0:Nat)(d:Array Int):∀ k,(brk a length modulus idx0 d k).2.size=d.size
 | 0=>rfl
 | k+1=>by
  have:=qb0 a length modulus idx0 d k
  show(swp _ _ _).size=_
  rw[swp_size,this]
theorem q1F(d:Array Int)(a b:Nat)(h:b-a>=8):breakPatterns d a b=(brk a (b-a) (1 <<< bitsLen (b-a)) (a+(b-a) / 4*2-1) d 3).2:=by
 unfold breakPatterns
 simp only[if_pos h]
 rfl
theorem qGA(n:Nat)(h:0<n):1 <<< bitsLen n<=2*n:=by
 rw[Nat.one_shiftLeft]
 unfold bitsLen
 rw[if_neg om,Nat.pow_succ]
 have:=Nat.log2_self_le (n:=n) om
 omega
theorem qug(n:Nat):0<1 <<< bitsLen n:=by rw[Nat.one_shiftLeft];exact Nat.two_pow_pos _
theorem qCE{x y:Nat}(hx:x<18446744073709551616)(hy:y<4611686018427387904):IntKind.wrap .i64 (IntKind.wrap .u64 ((BitVec.ofInt (IntKind.bits .u64) (x:Int) &&& BitVec.ofInt (IntKind.bits .u64) (y:Int)).toNat:Int))=((x &&& y:Nat):Int):=by
 have h1:(BitVec.ofInt (IntKind.bits .u64) (x:Int) &&& BitVec.ofInt (IntKind.bits .u64) (y:Int)).toNat=x &&& y:=by
  rw[BitVec.toNat_and,BitVec.ofInt_natCast,BitVec.ofInt_natCast,BitVec.toNat_ofNat,BitVec.toNat_ofNat]
  show x % 2 ^ 64 &&& y % 2 ^ 64=x &&& y
  rw[Nat.mod_eq_of_lt om,Nat.mod_eq_of_lt om]
 have h2:x &&& y<=y:=Nat.and_le_right
 rw[h1]
 have h3:IntKind.wrap .u64 ((x &&& y:Nat):Int)=((x &&& y:Nat):Int):=by
  simp only[IntKind.wrap,IntKind.bits,IntKind.signed]
  simp
  omega
 rw[h3,qk om om]
theorem qMf:qn P 205=[Value.int .u64 0].toArray:=kr
def qE3(w0:World)(H:qP)(g c:Nat)(T:TypeId)(z:List Value)(p a length modulus idx0:Nat)(d:Array Int)(m:Nat)(ee:ql)(w:World):Prop:=
 ∃ k:Nat,k<=3/\m=3-k/\ee=ql.mk 65 [(9,(Value.int .i64 ((idx0+k:Nat):Int))),(0,(Value.slice (some (Addr.mk g 0 none)) d.size c)),(1,(Value.int .i64 a)),(6,(Value.int .i64 length)),(8,(Value.int .u64 modulus)),(7,(Value.pointer (some (Addr.mk p 0 none))))] []/\
  St w0 w ((g,Cs (yG (brk a length modulus idx0 d k).2 z) T)::(p,Cs [.int .u64 ((brk a length modulus idx0 d k).1.toNat:Nat)] 205)::H)
theorem qxJ{d:Array Int}{a b:Nat}(h:St w0 w ((g,Cs (yG d z) T)::H))(hab:a<=b)(hb:b<=d.size)(hn:d.size<1000000000000)(hK:∀ w',St w0 w' ((g,Cs (yG (breakPatterns d a b) z) T)::H)->K (.tuple [].toArray) w') :
  qa P 119 [.slice (some (Addr.mk g 0 none)) d.size c,.int .i64 a,.int .i64 b] w K:=by
 refine qCc _ _ _ _ _ _ _ ?_
 have el:IntKind.wrap .i64 ((b:Int)-(a:Int))=((b-a:Nat):Int):=by rw[qk om om];omega
 rw[qCY,qeT,el,qdB,qg]
 constructor
 ·intro h8
  have h8:b-a>=8:=by simp at h8;omega
  have hBP:=q1F d a b h8
  rw[hBP]at hK
  generalize hl:b-a=l at h8 hK
  have hlb:a+l=b:=by omega
  rw[qeH,qMf]
  refine h.newC fun p w1 hp h1=>h1.st1 (k:=0) rfl (by simp) rfl fun w2 h2=>?_
  have e6:IntKind.wrap .u64 (l:Int)=(l:Int):=by
   simp only[IntKind.wrap,IntKind.bits,IntKind.signed]
   simp
   omega
  rw[e6]
  have h2:St w0 w2 ((p,Cs [.int .u64 (IntKind.wrap .u64 (l:Int))] 205)::(g,Cs (yG d z) T)::H):=h2
  rw[e6]at h2
  rw[qdk]
  refine qJl h2 om fun w3 h3=>⟨_,rfl,?_⟩
  have hp1:=qGA l om
  have hp0:=qug l
  generalize (1 <<< bitsLen l)=mo at hp1 hp0 hK
  have e4:IntKind.wrap .i64 ((l:Int).tdiv 4)=((l / 4:Nat):Int):=by
   rw[Int.tdiv_eq_ediv_of_nonneg om,qk om om];omega
  have e5:IntKind.wrap .i64 ((a:Int)+IntKind.wrap .i64 (((l / 4:Nat):Int)*2))=((a+l / 4*2:Nat):Int):=by
   rw[qk (x:=((l / 4:Nat):Int)*2) om om,qk om om];omega
  have e7:IntKind.wrap .i64 (((a+l / 4*2:Nat):Int)-1)=((a+l / 4*2-1:Nat):Int):=by rw[qk om om];omega
  have e8:IntKind.wrap .i64 (((a+l / 4*2:Nat):Int)+1)=((a+l / 4*2+1:Nat):Int):=by rw[qk om om];omega
  rw[qgq,e4,e5,e7]
  refine⟨by omega,?_⟩
  rw[qe8]
  have hidx:a+l / 4*2-1+2<b:=by omega
  generalize hi0:a+l / 4*2-1=i0 at hK hidx
  refine⟨qE3 w0 H g c T z p a l mo i0 d,⟨3,0,by omega,rfl,rfl,?_⟩,?_⟩
  ·have h3':St w0 w3 ((g,Cs (yG d z) T)::(p,Cs [.int .u64 (l:Int)] 205)::H):=h3.perm (List.Perm.swap _ _ _)
   have e9:((UInt64.ofNat l).toNat:Int)=(l:Int):=by
    rw[UInt64.toNat_ofNat']
    omega
   show St w0 w3 ((g,Cs (yG d z) T)::(p,Cs [.int .u64 ((UInt64.ofNat l).toNat:Int)] 205)::H)
   rw[e9]
   exact h3'
  rintro m ee w4 ⟨k,hk,rfl,rfl,h4⟩
  show q9J ..
  rw[q9S,e4,e5,e8]
  refine⟨by omega,?_⟩
  rw[qg]
  constructor
  ·intro hle
   have hk3:k<3:=by simp at hle;omega
   rw[qh6]
   generalize hst:brk a l mo i0 d k=st at h4
   have hsz:st.2.size=d.size:=by rw[<-hst,qb0]
   have h4':St w0 w4 ((p,Cs [.int .u64 (st.1.toNat:Nat)] 205)::(g,Cs (yG st.2 z) T)::H):=h4.perm (List.Perm.swap _ _ _)
   refine qDo h4' (UInt64.toNat_lt _) fun w5 h5=>⟨_,rfl,?_⟩
   have hx:=Go.Sort.xorNextN_lt st.1.toNat (UInt64.toNat_lt _)
   have ex:(xorNext st.1).toNat=xorNextN st.1.toNat:=Go.Sort.xorNext_toNat st.1
   have em:IntKind.wrap .u64 ((mo:Int)-1)=((mo-1:Nat):Int):=by
    simp only[IntKind.wrap,IntKind.bits,IntKind.signed]
    simp
    omega
   rw[em,qCE hx om]
   have ho:xorNextN st.1.toNat &&& (mo-1)<=mo-1:=Nat.and_le_right
   have hnext:brk a l mo i0 d (k+1)=(xorNext st.1,swp st.2 (i0+k) (a+(if xorNextN st.1.toNat &&& (mo-1)>=l then(xorNextN st.1.toNat &&& (mo-1))-l else xorNextN st.1.toNat &&& (mo-1)))):=by
    show breakStep a l mo (brk a l mo i0 d k) (i0+k)=_
    rw[hst]
    unfold breakStep
    simp only[ex]
   generalize xorNextN st.1.toNat &&& (mo-1)=o at ho hnext
   have h5':St w0 w5 ((g,Cs (yG st.2 z) T)::(p,Cs [.int .u64 (xorNextN st.1.toNat:Nat)] 205)::H):=h5.perm (List.Perm.swap _ _ _)
   have s8:∀ q:Nat,q<l->brk a l mo i0 d (k+1)=(xorNext st.1,swp st.2 (i0+k) (a+q))->q2M (some (Addr.mk g 0 none)) d.size c a l mo (Addr.mk p 0 none) ((i0+k:Nat):Int) (q:Int) w5 K (fun e' w'=>∃ m,m<3-k/\qE3 w0 H g c T z p a l mo i0 d m e' w'):=by
    intro q hq hnx
    rw[qdl]
    have eq':IntKind.wrap .i64 ((a:Int)+(q:Int))=((a+q:Nat):Int):=by rw[qk om om];omega
    rw[<-hsz]
    refine yX (i:=i0+k) (j:=a+q) rfl eq' om om h5' fun w6 h6=>?_
    rw[qgr]
    refine⟨3-(k+1),by omega,k+1,by omega,rfl,?_,?_⟩
    ·rw[qk om om,hsz];rfl
    ·rw[hnx]
     show St w0 w6 ((g,Cs (yG (swp st.2 (i0+k) (a+q)) z) T)::(p,Cs [.int .u64 ((xorNext st.1).toNat:Nat)] 205)::H)
     rw[ex]
     exact h6
   rw[qg]
   refine⟨fun hge=>?_,fun hlt=>?_⟩
   ·have hge:o>=l:=by simp at hge;omega
    rw[if_pos hge]at hnext
    have eo:IntKind.wrap .i64 ((o:Int)-(l:Int))=((o-l:Nat):Int):=by rw[qk om om];omega
    rw[eo]
    exact s8 (o-l) om hnext
   ·have hlt:¬ o>=l:=by simp at hlt;omega
    rw[if_neg hlt]at hnext
    exact s8 o om hnext
  ·intro hgt
   have:k=3:=by simp at hgt;omega
   subst this
   have h4':St w0 w4 ((p,Cs [.int .u64 ((brk a l mo i0 d 3).1.toNat:Nat)] 205)::(g,Cs (yG (brk a l mo i0 d 3).2 z) T)::H):=h4.perm (List.Perm.swap _ _ _)
   exact hK w4 (h4'.tail hp)
 ·intro h8
  have h8:¬ b-a>=8:=by simp at h8;omega
  have hBP:breakPatterns d a b=d:=by unfold breakPatterns;simp only[if_neg h8]
  rw[hBP]at hK
  exact hK w h
end
end Go.Fx.Tryz
namespace Go.Fx.Tryz
set_option maxRecDepth 100000
open Go Go.Fx Go.Proofs
def zH:=qx Tryz.f125
def qJW:=Tryz.f125.results.toList
abbrev zA K:=qH P qJW K
def f125 a b c d e f w K:=CS P zH none [8,9] [8,9] (zA K) (zh 168 [(VS a b c),(VI d),(VI e),(VI f)]) w
def qhV a b c d e f w K:=SC zH 1 [8,9] [8,9] (zA K) 168 [(0,VS a b c),(1,VI d),(2,VI e),(3,VI f)] w
abbrev qzl K:=kq zH 1 [8,9] [8,9] (zA K)
def qko a b c d e f g w K:=SC zH 3 [8,9] [8,9] (zA K) 168 [(9,VB false),(8,VI a),(0,VS b c d),(1,VI e),(2,VI f),(3,VI g)] w
abbrev qBK K:=kq zH 3 [8,9] [8,9] (zA K)
def qj8 a b c d f g h w K:=SG zH 7 [8,9] [8,9] (zA K) 168 [(8,VI a),(9,VB b),(0,VS c d f),(1,VI g),(2,VI h)] w
abbrev qzN K:=kq zH 7 [8,9] [8,9] (zA K)
def qi2 a b c d e f g h i j k l m w K:=SC zH 15 [8,9] [8,9] (zA K) 168 [(11,VI a),(10,VI b),(29,VI c),(28,VI d),(27,VI e),(26,VI f),(8,VI g),(9,VB h),(0,VS i j k),(1,VI l),(2,VI m)] w
abbrev ql7 K:=kq zH 15 [8,9] [8,9] (zA K)
abbrev q7J K:=qq 0 (ql7 K)
def qyT K Y4 e w:=zJ (fun e w=>CS P (cA zH 120) none [10,8,9,11,0,1] [8,9,11,0,1,10] (qw [10,8,9,11,0,1] Y4 (q7J K)) e w) e w
abbrev q1i K Y4:=qw [10,8,9,11,0,1] Y4 (q7J K)
def qcy a b c d f g h i w K Y4:=SG zH 120 [10,8,9,11,0,1] [8,9,11,0,1,10] (q1i K Y4) 168 [(10,VI a),(8,VI b),(9,VB c),(11,VI d),(0,VS f g h),(1,VI i)] w
abbrev q7Y K Y4:=kq zH 120 [10,8,9,11,0,1] [8,9,11,0,1,10] (q1i K Y4)
abbrev qA5 K Y4:=kq zH 240 [8,9,11,0,1,10] [8,9,11,0,1,10] (q7Y K Y4)
def q8c a b c d f g h i j w K Y4:=SG zH 481 [8,9,11,0,1,10] [8,9,11,0,1,10] (q7Y K Y4) 168 [(43,VB a),(8,VI b),(9,VB c),(11,VI d),(0,VS f g h),(1,VI i),(10,VI j)] w
def ql0 a b c d f g h i w K Y4:=SG zH 241 [10,8,9,11,0,1] [8,9,11,0,1,10] (q1i K Y4) 168 [(8,VI a),(9,VB b),(11,VI c),(0,VS d f g),(1,VI h),(10,VI i)] w
abbrev qBY K Y4:=qq 1 (q1i K Y4)
theorem qee:ql0 a c d e f g h i w K Y4=(Y4 (ql.mk 168 [(10,(Value.int .i64 (IntKind.wrap .i64 (i+1)))),(8,(Value.int .i64 a)),(9,(Value.bool c)),(11,(Value.int .i64 d)),(0,(Value.slice e f g)),(1,(Value.int .i64 h))] []) w):=qV (QJ 1 [8,9,11,0,1,10] (qBY K Y4) kr)
def q7q a b c d f g h i w K:=SG zH 31 [8,9] [8,9] (zA K) 168 [(11,VI a),(8,VI b),(9,VB c),(0,VS d f g),(1,VI h),(10,VI i)] w
abbrev ql6 K:=kq zH 31 [8,9] [8,9] (zA K)
abbrev q75 K:=qq 2 (ql6 K)
def qqE K Y8 e w:=zJ (fun e w=>CS P (cA zH 248) none [11,8,9,0,1,10] [8,9,11,0,1,10] (qw [11,8,9,0,1,10] Y8 (q75 K)) e w) e w
abbrev q0F K Y8:=qw [11,8,9,0,1,10] Y8 (q75 K)
def qbR a b c d f g h i w K Y8:=SG zH 248 [11,8,9,0,1,10] [8,9,11,0,1,10] (q0F K Y8) 168 [(11,VI a),(8,VI b),(9,VB c),(0,VS d f g),(1,VI h),(10,VI i)] w
abbrev q3L K Y8:=kq zH 248 [11,8,9,0,1,10] [8,9,11,0,1,10] (q0F K Y8)
abbrev quP K Y8:=kq zH 496 [8,9,0,1,10,11] [8,9,11,0,1,10] (q3L K Y8)
def q93 a b c d f g h i j w K Y8:=SG zH 993 [8,9,0,1,10,11] [8,9,11,0,1,10] (q3L K Y8) 168 [(60,VB a),(8,VI b),(9,VB c),(0,VS d f g),(1,VI h),(10,VI i),(11,VI j)] w
def qb5 a b c d f g h i w K Y8:=SG zH 497 [11,8,9,0,1,10] [8,9,11,0,1,10] (q0F K Y8) 168 [(8,VI a),(9,VB b),(0,VS c d f),(1,VI g),(10,VI h),(11,VI i)] w
abbrev qy9 K Y8:=qq 3 (q0F K Y8)
theorem qaN:qb5 a c d e f g h i w K Y8=(Y8 (ql.mk 168 [(11,(Value.int .i64 (IntKind.wrap .i64 (i-1)))),(8,(Value.int .i64 a)),(9,(Value.bool c)),(0,(Value.slice d e f)),(1,(Value.int .i64 g)),(10,(Value.int .i64 h))] []) w):=qV (QJ 3 [8,9,11,0,1,10] (qy9 K Y8) kr)
def q5b a b c d f g h i w K:=SG zH 63 [8,9] [8,9] (zA K) 168 [(11,VI a),(0,VS b c d),(1,VI f),(8,VI g),(9,VB h),(10,VI i)] w
abbrev q1m K:=kq zH 63 [8,9] [8,9] (zA K)
abbrev qt2 K:=kq zH 126 [8,9,0,1,11,10] [8,9] (q1m K)
def qcI a w K:=SG zH 1013 [8,9,0,1,11,10] [8,9] (q1m K) 168 [(11,VI a)] w
abbrev qvw K:=kq zH 1013 [8,9,0,1,11,10] [8,9] (q1m K)
theorem qd5:qcI c w K=(K (Value.tuple #[(Value.int .i64 c),(Value.bool true)]) w):=qV (qT [8,9] (qvw K) kr)
def q9Q a b c d f g h i w K:=SG zH 127 [8,9] [8,9] (zA K) 168 [(8,VI a),(9,VB b),(0,VS c d f),(1,VI g),(11,VI h),(10,VI i)] w
abbrev qrQ K:=kq zH 127 [8,9] [8,9] (zA K)
def qaA a b c d f g h i w K:=SG zH 255 [8,9] [8,9] (zA K) 168 [(8,VI a),(9,VB b),(0,VS c d f),(1,VI g),(11,VI h),(10,VI i)] w
abbrev qvT K:=kq zH 255 [8,9] [8,9] (zA K)
def q9O a b c d e f g h i j k w K:=SC zH 511 [8,9] [8,9] (zA K) 168 [(10,VI a),(96,VI b),(95,VI c),(8,VI d),(9,VB e),(0,VS f g h),(1,VI i),(11,VI j),(10,VI k)] w
abbrev qwg K:=kq zH 511 [8,9] [8,9] (zA K)
def qbv a b c d e f g h i j k l m n w K:=SC zH 1023 [8,9] [8,9] (zA K) 168 [(11,VI a),(98,VI b),(97,VI c),(10,VI d),(96,VI e),(95,VI f),(8,VI g),(9,VB h),(0,VS i j k),(1,VI l),(11,VI m),(10,VI n)] w
abbrev qcx K:=kq zH 1023 [8,9] [8,9] (zA K)
abbrev q4C K:=qq 4 (qcx K)
def q5U K Y17 e w:=zJ (fun e w=>CS P (cA zH 8184) none [10,8,9,11,0,1] [8,9,11,0,1] (qw [10,8,9,11,0,1] Y17 (q4C K)) e w) e w
abbrev q6y K Y17:=qw [10,8,9,11,0,1] Y17 (q4C K)
def q6U a b c d f g h i w K Y17:=SG zH 8184 [10,8,9,11,0,1] [8,9,11,0,1] (q6y K Y17) 168 [(10,VI a),(8,VI b),(9,VB c),(11,VI d),(0,VS f g h),(1,VI i)] w
abbrev vP K Y17:=qq 5 (q6y K Y17)
abbrev q9F K Y17:=kq zH 16368 [10,8,9,11,0,1] [8,9,11,0,1,10] (vP K Y17)
abbrev q5y K Y17:=qq 6 (q9F K Y17)
def qmI K Y17 Y18 e w:=zJ (fun e w=>CS P (cA zH 130944) none [10,8,9,11,0,1] [8,9,11,0,1,10] (qw [10,8,9,11,0,1] Y18 (q5y K Y17)) e w) e w
abbrev Jk K Y17 Y18:=qw [10,8,9,11,0,1] Y18 (q5y K Y17)
def q6i a b c d f g h i w K Y17 Y18:=SG zH 130944 [10,8,9,11,0,1] [8,9,11,0,1,10] (Jk K Y17 Y18) 168 [(10,VI a),(8,VI b),(9,VB c),(11,VI d),(0,VS f g h),(1,VI i)] w
abbrev q5d K Y17 Y18:=kq zH 130944 [10,8,9,11,0,1] [8,9,11,0,1,10] (Jk K Y17 Y18)
abbrev qyI K Y17 Y18:=kq zH 261888 [8,9,11,0,1,10] [8,9,11,0,1,10] (q5d K Y17 Y18)
def q3U a b c d f g h i j w K Y17 Y18:=SG zH 523777 [8,9,11,0,1,10] [8,9,11,0,1,10] (q5d K Y17 Y18) 168 [(112,VB a),(8,VI b),(9,VB c),(11,VI d),(0,VS f g h),(1,VI i),(10,VI j)] w
def qbi a b c d f g h i w K Y17 Y18:=SG zH 261889 [10,8,9,11,0,1] [8,9,11,0,1,10] (Jk K Y17 Y18) 168 [(8,VI a),(9,VB b),(11,VI c),(0,VS d f g),(1,VI h),(10,VI i)] w
abbrev qwE K Y17 Y18:=qq 7 (Jk K Y17 Y18)
theorem qcH:qbi a c d e f g h i w K Y17 Y18=(Y18 (ql.mk 168 [(10,(Value.int .i64 (IntKind.wrap .i64 (i+1)))),(8,(Value.int .i64 a)),(9,(Value.bool c)),(11,(Value.int .i64 d)),(0,(Value.slice e f g)),(1,(Value.int .i64 h))] []) w):=qV (QJ 7 [8,9,11,0,1,10] (qwE K Y17 Y18) kr)
def q3q a b c d f g h i w K Y17:=SG zH 32737 [10,8,9,11,0,1] [8,9,11,0,1,10] (vP K Y17) 168 [(11,VI a),(8,VI b),(9,VB c),(0,VS d f g),(1,VI h),(10,VI i)] w
abbrev qaO K Y17:=kq zH 32737 [10,8,9,11,0,1] [8,9,11,0,1,10] (vP K Y17)
abbrev q4c K Y17:=qq 8 (qaO K Y17)
def qnO K Y17 Y22 e w:=zJ (fun e w=>CS P (cA zH 261896) none [11,8,9,0,1,10] [8,9,11,0,1,10] (qw [11,8,9,0,1,10] Y22 (q4c K Y17)) e w) e w
abbrev Jp K Y17 Y22:=qw [11,8,9,0,1,10] Y22 (q4c K Y17)
def q6a a b c d f g h i w K Y17 Y22:=SG zH 261896 [11,8,9,0,1,10] [8,9,11,0,1,10] (Jp K Y17 Y22) 168 [(11,VI a),(8,VI b),(9,VB c),(0,VS d f g),(1,VI h),(10,VI i)] w
abbrev q3C K Y17 Y22:=kq zH 261896 [11,8,9,0,1,10] [8,9,11,0,1,10] (Jp K Y17 Y22)
abbrev qws K Y17 Y22:=kq zH 523792 [8,9,0,1,10,11] [8,9,11,0,1,10] (q3C K Y17 Y22)
def q4T a b c d f g h i j w K Y17 Y22:=SG zH 1047585 [8,9,0,1,10,11] [8,9,11,0,1,10] (q3C K Y17 Y22) 168 [(129,VB a),(8,VI b),(9,VB c),(0,VS d f g),(1,VI h),(10,VI i),(11,VI j)] w
def qbX a b c d f g h i w K Y17 Y22:=SG zH 523793 [11,8,9,0,1,10] [8,9,11,0,1,10] (Jp K Y17 Y22) 168 [(8,VI a),(9,VB b),(0,VS c d f),(1,VI g),(10,VI h),(11,VI i)] w
abbrev qxw K Y17 Y22:=qq 9 (Jp K Y17 Y22)
theorem qa4:qbX a c d e f g h i w K Y17 Y22=(Y22 (ql.mk 168 [(11,(Value.int .i64 (IntKind.wrap .i64 (i-1)))),(8,(Value.int .i64 a)),(9,(Value.bool c)),(0,(Value.slice d e f)),(1,(Value.int .i64 g)),(10,(Value.int .i64 h))] []) w):=qV (QJ 9 [8,9,11,0,1,10] (qxw K Y17 Y22) kr)
def q5n a b c d f g h i w K Y17:=SG zH 65475 [10,8,9,11,0,1] [8,9,11,0,1,10] (vP K Y17) 168 [(8,VI a),(9,VB b),(11,VI c),(0,VS d f g),(1,VI h),(10,VI i)] w
abbrev qcR K Y17:=kq zH 65475 [10,8,9,11,0,1] [8,9,11,0,1,10] (vP K Y17)
abbrev qw3 K Y17:=kq zH 130950 [8,9,0,1,11,10] [8,9,11,0,1,10] (qcR K Y17)
def qbc a b c d f w K:=SG zH 2047 [8,9] [8,9] (zA K) 168 [(11,VI a),(0,VS b c d),(1,VI f)] w
abbrev qtp K:=kq zH 2047 [8,9] [8,9] (zA K)
def qbY a w K:=SG zH 4095 [8,9] [8,9] (zA K) 168 [(11,VI a)] w
abbrev qvy K:=kq zH 4095 [8,9] [8,9] (zA K)
theorem q9R:qbY c w K=(K (Value.tuple #[(Value.int .i64 c),(Value.bool false)]) w):=qV (qT [8,9] (qvy K) kr)
theorem qbr:qbc c e f g d w K=(qi e (fun j=>0<=d/\d<(f:Nat)/\qi e (fun k=>0<=c/\c<(f:Nat)/\∃ h:Int,w.drew.cell? (j.add (Int.toNat d*1))=some (.int .u32 h)/\∃ i:Int,w.drew.cell? (k.add (Int.toNat c*1))=some (.int .u32 i)/\qi e (fun l=>0<=c/\c<(f:Nat)/\zG (l.add (Int.toNat c*1)) (Value.int .u32 h) w.drew (fun m=>qi e (fun n=>0<=d/\d<(f:Nat)/\zG (n.add (Int.toNat d*1)) (Value.int .u32 i) m (fun o=>qbY c o K))))))):=qV (qT [11] (qtp K) kr)
def qcl a b c d f g h i w K Y17:=SG zH 130951 [10,8,9,11,0,1] [8,9,11,0,1,10] (vP K Y17) 168 [(8,VI a),(9,VB b),(0,VS c d f),(1,VI g),(11,VI h),(10,VI i)] w
abbrev qyU K Y17:=kq zH 130951 [10,8,9,11,0,1] [8,9,11,0,1,10] (vP K Y17)
def qd1 a b c d f g h i w K Y17:=SG zH 261903 [10,8,9,11,0,1] [8,9,11,0,1,10] (vP K Y17) 168 [(8,VI a),(9,VB b),(0,VS c d f),(1,VI g),(11,VI h),(10,VI i)] w
abbrev qxV K Y17:=kq zH 261903 [10,8,9,11,0,1] [8,9,11,0,1,10] (vP K Y17)
theorem qbk:qd1 c d e f g h i j w K Y17=(Y17 (ql.mk 168 [(10,(Value.int .i64 (IntKind.wrap .i64 (j+1)))),(8,(Value.int .i64 c)),(9,(Value.bool d)),(11,(Value.int .i64 (IntKind.wrap .i64 (i-1)))),(0,(Value.slice e f g)),(1,(Value.int .i64 h))] []) w):=qV (qT [10,8,9,0,1,11] (qxV K Y17) kr)
theorem qc7:qcl g h e f i j c d w K Y17=(qi e (fun m=>0<=c/\c<(f:Nat)/\qi e (fun n=>0<=d/\d<(f:Nat)/\∃ k:Int,w.drew.cell? (m.add (Int.toNat c*1))=some (.int .u32 k)/\∃ l:Int,w.drew.cell? (n.add (Int.toNat d*1))=some (.int .u32 l)/\qi e (fun o=>0<=d/\d<(f:Nat)/\zG (o.add (Int.toNat d*1)) (Value.int .u32 k) w.drew (fun p=>qi e (fun q=>0<=c/\c<(f:Nat)/\zG (q.add (Int.toNat c*1)) (Value.int .u32 l) p (fun r=>qd1 g h e f i j c d r K Y17))))))):=qV (qT [8,9,0,1,11,10] (qyU K Y17) kr)
theorem qb9:q5n i j c d e f g h w K Y17=(qC (decide (h > c)) (qbc c d e f g w K) (qcl i j d e f g c h w K Y17)):=qV (qT [8,9,0,1,11,10] (qcR K Y17) (qT [134,8,9,11,0,1,10] (qw3 K Y17) kr))
theorem q2v:q4T j a c d e f g h i w K Y17 Y22=(qC j (qbX a c d e f g h i w K Y17 Y22) (q5n a c i d e f g h w K Y17)):=qV kr
theorem q8O:q6a c h i e f j d g w K Y17 Y22=(qC (decide (g<=c)) (qi e (fun n=>0<=c/\c<(f:Nat)/\qi e (fun o=>0<=d/\d<(f:Nat)/\∃ k:Int,w.drew.cell? (n.add (Int.toNat c*1))=some (.int .u32 k)/\∃ l:Int,w.drew.cell? (o.add (Int.toNat d*1))=some (.int .u32 l)/\qa P 123 [(Value.int .u32 k),(Value.int .u32 l)] w.drew (fun p q=>∃ m:Bool,p=(.bool m)/\q4T (!m) h i e f j d g c q K Y17 Y22)))) (q4T false h i e f j d g c w.drew K Y17 Y22)):=qV (qT [8,9,0,1,10,11] (q3C K Y17 Y22) (qT [129,8,9,0,1,10,11] (qws K Y17 Y22) kr))
theorem qbG:q3q c d e f g h i j w K Y17=(za (qnO K Y17) (ql.mk 168 [(11,(Value.int .i64 c)),(8,(Value.int .i64 d)),(9,(Value.bool e)),(0,(Value.slice f g h)),(1,(Value.int .i64 i)),(10,(Value.int .i64 j))] []) w):=qV (qT [8,9,11,0,1,10] (qaO K Y17) (QJ 8 [8,9,11,0,1,10] (q4c K Y17) (CSv [8,9,11,0,1,10] [11,8,9,0,1,10])))
theorem q2p:q3U j a c d e f g h i w K Y17 Y18=(qC j (qbi a c d e f g h i w K Y17 Y18) (q3q d a c e f g h i w K Y17)):=qV kr
theorem q8y:q6i c h i g e f j d w K Y17 Y18=(qC (decide (c<=g)) (qi e (fun n=>0<=c/\c<(f:Nat)/\qi e (fun o=>0<=d/\d<(f:Nat)/\∃ k:Int,w.drew.cell? (n.add (Int.toNat c*1))=some (.int .u32 k)/\∃ l:Int,w.drew.cell? (o.add (Int.toNat d*1))=some (.int .u32 l)/\qa P 123 [(Value.int .u32 k),(Value.int .u32 l)] w.drew (fun p q=>∃ m:Bool,p=(.bool m)/\q3U m h i g e f j d c q K Y17 Y18)))) (q3U false h i g e f j d c w.drew K Y17 Y18)):=qV (qT [8,9,11,0,1,10] (q5d K Y17 Y18) (qT [112,8,9,11,0,1,10] (qyI K Y17 Y18) kr))
theorem q7r:q6U c d e f g h i j w K Y17=(za (qmI K Y17) (ql.mk 168 [(10,(Value.int .i64 c)),(8,(Value.int .i64 d)),(9,(Value.bool e)),(11,(Value.int .i64 f)),(0,(Value.slice g h i)),(1,(Value.int .i64 j))] []) w):=qV (QJ 5 [8,9,11,0,1,10] (vP K Y17) (qT [11,8,9,0,1,10] (q9F K Y17) (QJ 6 [8,9,11,0,1,10] (q5y K Y17) (CSv [8,9,11,0,1,10] [10,8,9,11,0,1]))))
theorem qau:qbv c k l d m n e f g h i j o p w K=(za (q5U K) (ql.mk 168 [(10,(Value.int .i64 d)),(8,(Value.int .i64 e)),(9,(Value.bool f)),(11,(Value.int .i64 c)),(0,(Value.slice g h i)),(1,(Value.int .i64 j))] []) w):=Eq.trans (b:=CS P (cA zH 1023) none [8,9] [8,9] (zA K) (ql.mk 168 [(11,(VI c)),(98,(VI k)),(97,(VI l)),(10,(VI d)),(96,(VI m)),(95,(VI n)),(8,(VI e)),(9,(VB f)),(0,(VS g h i)),(1,(VI j)),(11,(VI o)),(10,(VI p))] []) w) kr (Eq.trans (zN [11,0,1] (qcx K) kr) (Eq.trans (YD 4 [8,9,11,0,1] (q4C K) kr) ((qY (b:=(cA zH 8184)) (X':=[8,9,11,0,1]) (H:=[10,8,9,11,0,1]) kr kr kr).trans kr)))
theorem qcS:q9O d e f g h i j k l c m w K=(qbv (IntKind.wrap .i64 (c-1)) (IntKind.wrap .i64 (c-1)) c d e f g h i j k l c m w K):=Eq.trans (b:=CS P (cA zH 511) none [8,9] [8,9] (zA K) (ql.mk 168 [(10,(VI d)),(96,(VI e)),(95,(VI f)),(8,(VI g)),(9,(VB h)),(0,(VS i j k)),(1,(VI l)),(11,(VI c)),(10,(VI m))] []) w) kr (Eq.trans (zN [10,8,9,11,0,1] (qwg K) kr) kr)
theorem qci:qaA d e f g h i j c w K=(q9O (IntKind.wrap .i64 (c+1)) (IntKind.wrap .i64 (c+1)) c d e f g h i j c w K):=qV (qT [10,8,9,0,1,11] (qvT K) kr)
theorem qbw:q9Q g h e f i j c d w K=(qi e (fun m=>0<=c/\c<(f:Nat)/\qi e (fun n=>0<=d/\d<(f:Nat)/\∃ k:Int,w.drew.cell? (m.add (Int.toNat c*1))=some (.int .u32 k)/\∃ l:Int,w.drew.cell? (n.add (Int.toNat d*1))=some (.int .u32 l)/\qi e (fun o=>0<=d/\d<(f:Nat)/\zG (o.add (Int.toNat d*1)) (Value.int .u32 k) w.drew (fun p=>qi e (fun q=>0<=c/\c<(f:Nat)/\zG (q.add (Int.toNat c*1)) (Value.int .u32 l) p (fun r=>qaA g h e f i j c d r K))))))):=qV (qT [8,9,0,1,11,10] (qrQ K) kr)
theorem qbH:q5b c e f h d i j g w K=(qC (decide (g > c)) (qi e (fun m=>0<=d/\d<(f:Nat)/\qi e (fun n=>0<=c/\c<(f:Nat)/\∃ k:Int,w.drew.cell? (m.add (Int.toNat d*1))=some (.int .u32 k)/\∃ l:Int,w.drew.cell? (n.add (Int.toNat c*1))=some (.int .u32 l)/\qi e (fun o=>0<=c/\c<(f:Nat)/\zG (o.add (Int.toNat c*1)) (Value.int .u32 k) w.drew (fun p=>qi e (fun q=>0<=d/\d<(f:Nat)/\zG (q.add (Int.toNat d*1)) (Value.int .u32 l) p (fun r=>qcI c r K))))))) (q9Q i j e f h d c g w K)):=qV (qT [8,9,0,1,11,10] (q1m K) (qT [65,11,0,1,8,9,10] (qt2 K) kr))
theorem q5x:q93 j a c d e f g h i w K Y8=(qC j (qb5 a c d e f g h i w K Y8) (q5b i d e f g a c h w K)):=qV kr
theorem q9X:qbR c h i e f j d g w K Y8=(qC (decide (g<=c)) (qi e (fun n=>0<=c/\c<(f:Nat)/\qi e (fun o=>0<=d/\d<(f:Nat)/\∃ k:Int,w.drew.cell? (n.add (Int.toNat c*1))=some (.int .u32 k)/\∃ l:Int,w.drew.cell? (o.add (Int.toNat d*1))=some (.int .u32 l)/\qa P 123 [(Value.int .u32 k),(Value.int .u32 l)] w.drew (fun p q=>∃ m:Bool,p=(.bool m)/\q93 (!m) h i e f j d g c q K Y8)))) (q93 false h i e f j d g c w.drew K Y8)):=qV (qT [8,9,0,1,10,11] (q3L K Y8) (qT [60,8,9,0,1,10,11] (quP K Y8) kr))
theorem qh9:q7q c d e f g h i j w K=(za (qqE K) (ql.mk 168 [(11,(Value.int .i64 c)),(8,(Value.int .i64 d)),(9,(Value.bool e)),(0,(Value.slice f g h)),(1,(Value.int .i64 i)),(10,(Value.int .i64 j))] []) w):=qV (qT [11,0,1,8,9,10] (ql6 K) (QJ 2 [8,9,11,0,1,10] (q75 K) (CSv [8,9,11,0,1,10] [11,8,9,0,1,10])))
theorem q4V:q8c j a c d e f g h i w K Y4=(qC j (ql0 a c d e f g h i w K Y4) (q7q d a c e f g h i w K)):=qV kr
theorem qcM:qcy c h i g e f j d w K Y4=(qC (decide (c<=g)) (qi e (fun n=>0<=c/\c<(f:Nat)/\qi e (fun o=>0<=d/\d<(f:Nat)/\∃ k:Int,w.drew.cell? (n.add (Int.toNat c*1))=some (.int .u32 k)/\∃ l:Int,w.drew.cell? (o.add (Int.toNat d*1))=some (.int .u32 l)/\qa P 123 [(Value.int .u32 k),(Value.int .u32 l)] w.drew (fun p q=>∃ m:Bool,p=(.bool m)/\q8c m h i g e f j d c q K Y4)))) (q8c false h i g e f j d c w.drew K Y4)):=qV (qT [8,9,11,0,1,10] (q7Y K Y4) (qT [43,8,9,11,0,1,10] (qA5 K Y4) kr))
theorem qdo:qi2 c d k l m n e f g h i j o w K=(za (qyT K) (ql.mk 168 [(10,(Value.int .i64 d)),(8,(Value.int .i64 e)),(9,(Value.bool f)),(11,(Value.int .i64 c)),(0,(Value.slice g h i)),(1,(Value.int .i64 j))] []) w):=Eq.trans (b:=CS P (cA zH 15) none [8,9] [8,9] (zA K) (ql.mk 168 [(11,(VI c)),(10,(VI d)),(29,(VI k)),(28,(VI l)),(27,(VI m)),(26,(VI n)),(8,(VI e)),(9,(VB f)),(0,(VS g h i)),(1,(VI j)),(2,(VI o))] []) w) kr (Eq.trans (zN [11,8,9,0,1,10] (ql7 K) kr) (Eq.trans (YD 0 [8,9,11,0,1,10] (q7J K) kr) ((qY (b:=(cA zH 120)) (X':=[8,9,11,0,1,10]) (H:=[10,8,9,11,0,1]) kr kr kr).trans kr)))
theorem qef:qj8 e f g h i c d w K=(qi2 (IntKind.wrap .i64 (d-1)) (IntKind.wrap .i64 (c+1)) (IntKind.wrap .i64 (d-1)) d (IntKind.wrap .i64 (c+1)) c e f g h i c d w K):=qV (qT [10,8,9,11,0,1] (qzN K) kr)
theorem qec:qko g e f h c i d w K=(qi e (fun l=>0<=d/\d<(f:Nat)/\qi e (fun m=>0<=c/\c<(f:Nat)/\∃ j:Int,w.drew.cell? (l.add (Int.toNat d*1))=some (.int .u32 j)/\∃ k:Int,w.drew.cell? (m.add (Int.toNat c*1))=some (.int .u32 k)/\qi e (fun n=>0<=c/\c<(f:Nat)/\zG (n.add (Int.toNat c*1)) (Value.int .u32 j) w.drew (fun o=>qi e (fun p=>0<=d/\d<(f:Nat)/\zG (p.add (Int.toNat d*1)) (Value.int .u32 k) o (fun q=>qj8 g false e f h c i q K))))))):=Eq.trans (b:=CS P (cA zH 3) none [8,9] [8,9] (zA K) (ql.mk 168 [(9,(VB false)),(8,(VI g)),(0,(VS e f h)),(1,(VI c)),(2,(VI i)),(3,(VI d))] []) w) kr (Eq.trans (zN [8,9,0,1,2] (qBK K) kr) kr)
theorem qdH:qhV c d e f g h w K=(qko 0 c d e f g h w K):=Eq.trans (b:=CS P (cA zH 1) none [8,9] [8,9] (zA K) (ql.mk 168 [(0,(VS c d e)),(1,(VI f)),(2,(VI g)),(3,(VI h))] []) w) kr (Eq.trans (zN [8,9,0,1,2,3] (qzl K) kr) kr)
theorem qzI:f125 a b c d e f w K=(qhV a b c d e f w K):=kr
theorem qB2 a b c d e f w K(h:f125 a b c d e f w K):qa P 125 [(Value.slice a b c),(Value.int .i64 d),(Value.int .i64 e),(Value.int .i64 f)] w K:=zj zH Tryz.func125 h
def yM:=qx Tryz.f124
def qJU:=Tryz.f124.results.toList
abbrev vq K:=qH P qJU K
def f124 a b c d e f w K:=CS P yM none [8] [8] (vq K) (zh 84 [(VS a b c),(VI d),(VI e),(VI f)]) w
def qkx a b c d e f w K:=SC yM 1 [8] [8] (vq K) 84 [(0,VS a b c),(1,VI d),(2,VI e),(3,VI f)] w
abbrev qzf K:=kq yM 1 [8] [8] (vq K)
def qim a b c d e f g w K:=SC yM 3 [8] [8] (vq K) 84 [(8,VI a),(0,VS b c d),(1,VI e),(2,VI f),(3,VI g)] w
abbrev qCX K:=kq yM 3 [8] [8] (vq K)
def qiq a b c d f g w K:=SG yM 7 [8] [8] (vq K) 84 [(8,VI a),(0,VS b c d),(1,VI f),(2,VI g)] w
abbrev qzZ K:=kq yM 7 [8] [8] (vq K)
def qjA a b c d e f g h i j k l w K:=SC yM 15 [8] [8] (vq K) 84 [(10,VI a),(9,VI b),(28,VI c),(27,VI d),(26,VI e),(25,VI f),(8,VI g),(0,VS h i j),(1,VI k),(2,VI l)] w
abbrev qjN K:=kq yM 15 [8] [8] (vq K)
abbrev q8U K:=qq 0 (qjN K)
def qc3 K Y4 e w:=zJ (fun e w=>CS P (cA yM 120) none [9,8,10,0,1] [8,9] (qw [9,8,10,0,1] Y4 (q8U K)) e w) e w
abbrev q9V K Y4:=qw [9,8,10,0,1] Y4 (q8U K)
def qam a b c d f g h w K Y4:=SG yM 120 [9,8,10,0,1] [8,9] (q9V K Y4) 84 [(9,VI a),(8,VI b),(10,VI c),(0,VS d f g),(1,VI h)] w
abbrev Qa K Y4:=qq 1 (q9V K Y4)
abbrev qiG K Y4:=kq yM 240 [9,8,10,0,1] [8,9,10,0,1] (Qa K Y4)
abbrev q8E K Y4:=qq 2 (qiG K Y4)
def qqI K Y4 Y5 e w:=zJ (fun e w=>CS P (cA yM 1920) none [9,8,10,0,1] [8,9,10,0,1] (qw [9,8,10,0,1] Y5 (q8E K Y4)) e w) e w
abbrev q0O K Y4 Y5:=qw [9,8,10,0,1] Y5 (q8E K Y4)
def qbJ a b c d f g h w K Y4 Y5:=SG yM 1920 [9,8,10,0,1] [8,9,10,0,1] (q0O K Y4 Y5) 84 [(9,VI a),(8,VI b),(10,VI c),(0,VS d f g),(1,VI h)] w
abbrev q9q K Y4 Y5:=kq yM 1920 [9,8,10,0,1] [8,9,10,0,1] (q0O K Y4 Y5)
abbrev qC4 K Y4 Y5:=kq yM 3840 [8,10,0,1,9] [8,9,10,0,1] (q9q K Y4 Y5)
def q8a a b c d f g h i w K Y4 Y5:=SG yM 7681 [8,10,0,1,9] [8,9,10,0,1] (q9q K Y4 Y5) 84 [(43,VB a),(8,VI b),(10,VI c),(0,VS d f g),(1,VI h),(9,VI i)] w
def qkr a b c d f g h w K Y4 Y5:=SG yM 3841 [9,8,10,0,1] [8,9,10,0,1] (q0O K Y4 Y5) 84 [(8,VI a),(10,VI b),(0,VS c d f),(1,VI g),(9,VI h)] w
abbrev quW K Y4 Y5:=qq 3 (q0O K Y4 Y5)
theorem qfK:qkr a c d e f g h w K Y4 Y5=(Y5 (ql.mk 84 [(9,(Value.int .i64 (IntKind.wrap .i64 (h+1)))),(8,(Value.int .i64 a)),(10,(Value.int .i64 c)),(0,(Value.slice d e f)),(1,(Value.int .i64 g))] []) w):=qV (QJ 3 [8,9,10,0,1] (quW K Y4 Y5) kr)
def q8w a b c d f g h w K Y4:=SG yM 481 [9,8,10,0,1] [8,9,10,0,1] (Qa K Y4) 84 [(10,VI a),(8,VI b),(9,VI c),(0,VS d f g),(1,VI h)] w
abbrev qbg K Y4:=kq yM 481 [9,8,10,0,1] [8,9,10,0,1] (Qa K Y4)
abbrev q4U K Y4:=qq 4 (qbg K Y4)
def qx1 K Y4 Y9 e w:=zJ (fun e w=>CS P (cA yM 3848) none [10,8,9,0,1] [8,9,10,0,1] (qw [10,8,9,0,1] Y9 (q4U K Y4)) e w) e w
abbrev q0Z K Y4 Y9:=qw [10,8,9,0,1] Y9 (q4U K Y4)
def q9K a b c d f g h w K Y4 Y9:=SG yM 3848 [10,8,9,0,1] [8,9,10,0,1] (q0Z K Y4 Y9) 84 [(10,VI a),(8,VI b),(9,VI c),(0,VS d f g),(1,VI h)] w
abbrev q4G K Y4 Y9:=kq yM 3848 [10,8,9,0,1] [8,9,10,0,1] (q0Z K Y4 Y9)
abbrev qwR K Y4 Y9:=kq yM 7696 [8,9,0,1,10] [8,9,10,0,1] (q4G K Y4 Y9)
def q3I a b c d f g h i w K Y4 Y9:=SG yM 15393 [8,9,0,1,10] [8,9,10,0,1] (q4G K Y4 Y9) 84 [(59,VB a),(8,VI b),(9,VI c),(0,VS d f g),(1,VI h),(10,VI i)] w
def qb6 a b c d f g h w K Y4 Y9:=SG yM 7697 [10,8,9,0,1] [8,9,10,0,1] (q0Z K Y4 Y9) 84 [(8,VI a),(9,VI b),(0,VS c d f),(1,VI g),(10,VI h)] w
abbrev qyJ K Y4 Y9:=qq 5 (q0Z K Y4 Y9)
theorem q9P:qb6 a c d e f g h w K Y4 Y9=(Y9 (ql.mk 84 [(10,(Value.int .i64 (IntKind.wrap .i64 (h-1)))),(8,(Value.int .i64 a)),(9,(Value.int .i64 c)),(0,(Value.slice d e f)),(1,(Value.int .i64 g))] []) w):=qV (QJ 5 [8,9,10,0,1] (qyJ K Y4 Y9) kr)
def q40 a b c d f g h w K Y4:=SG yM 963 [9,8,10,0,1] [8,9,10,0,1] (Qa K Y4) 84 [(8,VI a),(9,VI b),(10,VI c),(0,VS d f g),(1,VI h)] w
abbrev qaD K Y4:=kq yM 963 [9,8,10,0,1] [8,9,10,0,1] (Qa K Y4)
abbrev qup K Y4:=kq yM 1926 [8,0,1,10,9] [8,9,10,0,1] (qaD K Y4)
def qcE a w K:=SG yM 31 [8] [8] (vq K) 84 [(9,VI a)] w
abbrev qtJ K:=kq yM 31 [8] [8] (vq K)
theorem qax:qcE c w K=(K (Value.int .i64 c) w):=qV (qT [8] (qtJ K) kr)
def qa5 a b c d f g h w K Y4:=SG yM 1927 [9,8,10,0,1] [8,9,10,0,1] (Qa K Y4) 84 [(8,VI a),(0,VS b c d),(1,VI f),(10,VI g),(9,VI h)] w
abbrev quG K Y4:=kq yM 1927 [9,8,10,0,1] [8,9,10,0,1] (Qa K Y4)
def qaB a b c d f g h w K Y4:=SG yM 3855 [9,8,10,0,1] [8,9,10,0,1] (Qa K Y4) 84 [(8,VI a),(0,VS b c d),(1,VI f),(10,VI g),(9,VI h)] w
abbrev qsD K Y4:=kq yM 3855 [9,8,10,0,1] [8,9,10,0,1] (Qa K Y4)
theorem qac:qaB c d e f g h i w K Y4=(Y4 (ql.mk 84 [(9,(Value.int .i64 (IntKind.wrap .i64 (i+1)))),(8,(Value.int .i64 c)),(10,(Value.int .i64 (IntKind.wrap .i64 (h-1)))),(0,(Value.slice d e f)),(1,(Value.int .i64 g))] []) w):=qV (qT [9,8,0,1,10] (qsD K Y4) kr)
theorem qan:qa5 g e f h i c d w K Y4=(qi e (fun l=>0<=c/\c<(f:Nat)/\qi e (fun m=>0<=d/\d<(f:Nat)/\∃ j:Int,w.drew.cell? (l.add (Int.toNat c*1))=some (.int .u32 j)/\∃ k:Int,w.drew.cell? (m.add (Int.toNat d*1))=some (.int .u32 k)/\qi e (fun n=>0<=d/\d<(f:Nat)/\zG (n.add (Int.toNat d*1)) (Value.int .u32 j) w.drew (fun o=>qi e (fun p=>0<=c/\c<(f:Nat)/\zG (p.add (Int.toNat c*1)) (Value.int .u32 k) o (fun q=>qaB g e f h i c d q K Y4))))))):=qV (qT [8,0,1,10,9] (quG K Y4) kr)
theorem qap:q40 e c d f g h i w K Y4=(qC (decide (c > d)) (qcE c w K) (qa5 e f g h i d c w K Y4)):=qV (qT [8,0,1,10,9] (qaD K Y4) (qT [64,8,9,10,0,1] (qup K Y4) kr))
theorem q2j:q3I i a c d e f g h w K Y4 Y9=(qC i (qb6 a c d e f g h w K Y4 Y9) (q40 a c h d e f g w K Y4)):=qV kr
theorem qaH:q9K c h g e f i d w K Y4 Y9=(qC (decide (g<=c)) (qi e (fun m=>0<=d/\d<(f:Nat)/\qi e (fun n=>0<=c/\c<(f:Nat)/\∃ j:Int,w.drew.cell? (m.add (Int.toNat d*1))=some (.int .u32 j)/\∃ k:Int,w.drew.cell? (n.add (Int.toNat c*1))=some (.int .u32 k)/\qa P 123 [(Value.int .u32 j),(Value.int .u32 k)] w.drew (fun o p=>∃ l:Bool,o=(.bool l)/\q3I l h g e f i d c p K Y4 Y9)))) (q3I false h g e f i d c w.drew K Y4 Y9)):=qV (qT [8,9,0,1,10] (q4G K Y4 Y9) (qT [59,8,9,0,1,10] (qwR K Y4 Y9) kr))
theorem qgO:q8w c d e f g h i w K Y4=(za (qx1 K Y4) (ql.mk 84 [(10,(Value.int .i64 c)),(8,(Value.int .i64 d)),(9,(Value.int .i64 e)),(0,(Value.slice f g h)),(1,(Value.int .i64 i))] []) w):=qV (qT [8,9,10,0,1] (qbg K Y4) (QJ 4 [8,9,10,0,1] (q4U K Y4) (CSv [8,9,10,0,1] [10,8,9,0,1])))
theorem q3n:q8a i a c d e f g h w K Y4 Y5=(qC i (qkr a c d e f g h w K Y4 Y5) (q8w c a h d e f g w K Y4)):=qV kr
theorem qcQ:qbJ c h g e f i d w K Y4 Y5=(qC (decide (c<=g)) (qi e (fun m=>0<=d/\d<(f:Nat)/\qi e (fun n=>0<=c/\c<(f:Nat)/\∃ j:Int,w.drew.cell? (m.add (Int.toNat d*1))=some (.int .u32 j)/\∃ k:Int,w.drew.cell? (n.add (Int.toNat c*1))=some (.int .u32 k)/\qa P 123 [(Value.int .u32 j),(Value.int .u32 k)] w.drew (fun o p=>∃ l:Bool,o=(.bool l)/\q8a (!l) h g e f i d c p K Y4 Y5)))) (q8a false h g e f i d c w.drew K Y4 Y5)):=qV (qT [8,10,0,1,9] (q9q K Y4 Y5) (qT [43,8,10,0,1,9] (qC4 K Y4 Y5) kr))
theorem qbh:qam c d e f g h i w K Y4=(za (qqI K Y4) (ql.mk 84 [(9,(Value.int .i64 c)),(8,(Value.int .i64 d)),(10,(Value.int .i64 e)),(0,(Value.slice f g h)),(1,(Value.int .i64 i))] []) w):=qV (QJ 1 [8,9,10,0,1] (Qa K Y4) (qT [10,8,9,0,1] (qiG K Y4) (QJ 2 [8,9,10,0,1] (q8E K Y4) (CSv [8,9,10,0,1] [9,8,10,0,1]))))
theorem qf7:qjA c d j k l m e f g h i n w K=(za (qc3 K) (ql.mk 84 [(9,(Value.int .i64 d)),(8,(Value.int .i64 e)),(10,(Value.int .i64 c)),(0,(Value.slice f g h)),(1,(Value.int .i64 i))] []) w):=Eq.trans (b:=CS P (cA yM 15) none [8] [8] (vq K) (ql.mk 84 [(10,(VI c)),(9,(VI d)),(28,(VI j)),(27,(VI k)),(26,(VI l)),(25,(VI m)),(8,(VI e)),(0,(VS f g h)),(1,(VI i)),(2,(VI n))] []) w) kr (Eq.trans (zN [9] (qjN K) kr) (Eq.trans (YD 0 [8,9] (q8U K) kr) ((qY (b:=(cA yM 120)) (X':=[8,9]) (H:=[9,8,10,0,1]) kr kr kr).trans kr)))
theorem qhj:qiq e f g h c d w K=(qjA (IntKind.wrap .i64 (d-1)) (IntKind.wrap .i64 (c+1)) (IntKind.wrap .i64 (d-1)) d (IntKind.wrap .i64 (c+1)) c e f g h c d w K):=qV (qT [9,8,10,0,1] (qzZ K) kr)
theorem qgh:qim g e f h c i d w K=(qi e (fun l=>0<=d/\d<(f:Nat)/\qi e (fun m=>0<=c/\c<(f:Nat)/\∃ j:Int,w.drew.cell? (l.add (Int.toNat d*1))=some (.int .u32 j)/\∃ k:Int,w.drew.cell? (m.add (Int.toNat c*1))=some (.int .u32 k)/\qi e (fun n=>0<=c/\c<(f:Nat)/\zG (n.add (Int.toNat c*1)) (Value.int .u32 j) w.drew (fun o=>qi e (fun p=>0<=d/\d<(f:Nat)/\zG (p.add (Int.toNat d*1)) (Value.int .u32 k) o (fun q=>qiq g e f h c i q K))))))):=Eq.trans (b:=CS P (cA yM 3) none [8] [8] (vq K) (ql.mk 84 [(8,(VI g)),(0,(VS e f h)),(1,(VI c)),(2,(VI i)),(3,(VI d))] []) w) kr (Eq.trans (zN [8,0,1,2] (qCX K) kr) kr)
theorem qdv:qkx c d e f g h w K=(qim 0 c d e f g h w K):=Eq.trans (b:=CS P (cA yM 1) none [8] [8] (vq K) (ql.mk 84 [(0,(VS c d e)),(1,(VI f)),(2,(VI g)),(3,(VI h))] []) w) kr (Eq.trans (zN [8,0,1,2,3] (qzf K) kr) kr)
theorem qBw:f124 a b c d e f w K=(qkx a b c d e f w K):=kr
theorem qCR a b c d e f w K(h:f124 a b c d e f w K):qa P 124 [(Value.slice a b c),(Value.int .i64 d),(Value.int .i64 e),(Value.int .i64 f)] w K:=zj yM Tryz.func124 h
end Go.Fx.Tryz
namespace Go.Fx.Tryz
open Go Go.Fx Go.Fx.Mo
open Go.Proofs
open Go.Sort (swp swp_size ltInt scanUp scanDown scanUp_ge scanDown_le scanUp_spec partLoop partLoop_eq partition partEqLoop partEqLoop_eq partitionEqual)
variable {w0 w:World} {H X:qP} {K:KT}
set_option maxRecDepth 20000
section
variable {p:Int->Bool} {d:Array Int} {i j:Nat}
theorem q7n(h1:i<=j)(h2:p d[i]! = true):scanUp p d j i=scanUp p d j (i+1):=by
 conv=>lhs;rw[scanUp]
 rw[if_pos (by simp[h1,h2])]
theorem YJ(h:¬ (i<=j/\p d[i]! = true)):scanUp p d j i=i:=by
 rw[scanUp,if_neg (by simpa using h)]
theorem qte(d:Array Int)(i j b:Nat)(hi:i<=b)(hj:j<b):scanUp p d j i<=b:=by
 by_cases h:i<=j+1
 ·have:=(scanUp_spec p d j _ i rfl).2.1 h;omega
 ·rw[YJ om];exact hi
theorem q1Q(h0:1<=i)(h1:i<=j)(h2:p d[j]! = true):scanDown p d i j=scanDown p d i (j-1):=by
 obtain⟨q,rfl⟩:∃ q,j=q+1:=⟨j-1,by omega⟩
 conv=>lhs;rw[scanDown]
 rw[if_pos (by simp[h1,h2])]
 rfl
theorem QL(h:¬ (i<=j/\p d[j]! = true)):scanDown p d i j=j:=by
 cases j with
 | zero=>rfl
 | succ q=>rw[scanDown,if_neg (by simpa using h)]
end
section
variable {g c:Nat} {T:TypeId} {z:List Value}
abbrev ptE(g c n a:Nat)(i j:Nat):ql:=ql.mk 168 [(10,(Value.int .i64 i)),(8,(Value.int .i64 0)),(9,(Value.bool false)),(11,(Value.int .i64 j)),(0,(Value.slice (some (Addr.mk g 0 none)) n c)),(1,(Value.int .i64 a))] []
abbrev ptF(g c n a:Nat)(i j:Nat):ql:=ql.mk 168 [(11,(Value.int .i64 j)),(8,(Value.int .i64 0)),(9,(Value.bool false)),(0,(Value.slice (some (Addr.mk g 0 none)) n c)),(1,(Value.int .i64 a)),(10,(Value.int .i64 i))] []
def qwV(w0:World)(X:qP)(E:Nat->ql)(p:Int->Bool)(d:Array Int)(a b j I:Nat)(m:Nat)(ee:ql)(w:World):Prop:=
 ∃ i:Nat,a<i/\i<=b/\m=j+1-i/\scanUp p d j i=I/\ee=E i/\St w0 w X
def qvB(w0:World)(X:qP)(E:Nat->ql)(p:Int->Bool)(d:Array Int)(b I J:Nat)(m:Nat)(ee:ql)(w:World):Prop:=
 ∃ j:Nat,j<b/\m=j/\scanDown p d I j=J/\ee=E j/\St w0 w X
def qrr(w0:World)(H:qP)(g c:Nat)(T:TypeId)(z:List Value)(n a b:Nat)(R:Nat × Array Int)(m:Nat)(ee:ql)(w:World):Prop:=
 ∃ (i j:Nat) (d:Array Int),a<i/\i<=b/\j<b/\m=j+1-i/\d.size=n/\partLoop ltInt a i j d=R/\ee=ptE g c n a i j/\St w0 w ((g,Cs (yG d z) T)::H)
theorem qlR{d:Array Int}{n a b i j:Nat}{R:Nat × Array Int}(h:St w0 w ((g,Cs (yG d z) T)::H))(ha:a<i)(hi:i<=b)(hj:j<b)(hd:d.size=n)(hb:b<=n)(hn:n<1000000000000)(hR:partLoop ltInt a i j d=R)
  (hK:∀ w',St w0 w' ((g,Cs (yG (swp R.2 R.1 a) z) T)::H)->K (.tuple [qj (R.1:Nat),.bool false].toArray) w'):za (q5U K) (ptE g c n a i j) w:=by
 refine⟨qrr w0 H g c T z n a b R,⟨j+1-i,i,j,d,ha,hi,hj,rfl,hd,hR,rfl,h⟩,?_⟩
 clear h ha hi hj hd hR
 rintro m ee w7 ⟨i',j',d2,ha',hi',hj',rfl,hd2,hR,rfl,h7⟩
 show q6U ..
 rw[q7r]
 rw[partLoop_eq]at hR
 subst hd2
 refine⟨qwV w0 ((g,Cs (yG d2 z) T)::H) (fun i=>ptE g c d2.size a i j') (fun x=>ltInt x d2[a]!) d2 a b j' (scanUp (fun x=>ltInt x d2[a]!) d2 j' i'),⟨j'+1-i',i',ha',hi',rfl,rfl,rfl,h7⟩,?_⟩
 have gI:=qte (p:=fun x=>ltInt x d2[a]!) d2 i' j' b hi' hj'
 have gI0:=scanUp_ge (fun x=>ltInt x d2[a]!) d2 j' i'
 generalize scanUp (fun x=>ltInt x d2[a]!) d2 j' i'=I2 at hR gI gI0
 rintro m ee w8 ⟨i3,ha3,hi3,rfl,hup3,rfl,h8⟩
 show q6i ..
 rw[q8y,qg]
 have after3:∀ w9,St w0 w9 ((g,Cs (yG d2 z) T)::H)->q3q (j':Int) 0 false (some (Addr.mk g 0 none)) d2.size c a I2 w9 K (fun e' w'=>∃ m,m<j'+1-i'/\qrr w0 H g c T z d2.size a b R m e' w'):=by
  intro w9 h9
  rw[qbG]
  refine⟨qvB w0 ((g,Cs (yG d2 z) T)::H) (fun j=>ptF g c d2.size a I2 j) (fun x=>!ltInt x d2[a]!) d2 b I2 (scanDown (fun x=>!ltInt x d2[a]!) d2 I2 j'),⟨j',j',hj',rfl,rfl,rfl,h9⟩,?_⟩
  have gJ:=scanDown_le (fun x=>!ltInt x d2[a]!) d2 I2 j'
  generalize scanDown (fun x=>!ltInt x d2[a]!) d2 I2 j'=J2 at hR gJ
  rintro j4 ee w10 ⟨_,hj4,rfl,hdn4,rfl,h10⟩
  show q6a ..
  rw[q8O,qg]
  have after4:∀ w11,j4=J2->St w0 w11 ((g,Cs (yG d2 z) T)::H)->q5n 0 false (j4:Int) (some (Addr.mk g 0 none)) d2.size c a I2 w11 K (fun e' w'=>∃ m,m<j'+1-i'/\qrr w0 H g c T z d2.size a b R m e' w'):=by
   intro w11 hj h11
   subst hj
   rw[qb9,qg]
   constructor
   ·intro hgt
    have hgt:I2 > j4:=by simpa using hgt
    rw[if_pos hgt]at hR
    subst hR
    rw[qbr]
    refine yX (i:=j4) (j:=a) rfl rfl om om h11 fun w12 h12=>?_
    rw[q9R]
    exact hK w12 h12
   ·intro hle
    have hle:¬ I2 > j4:=by simpa using hle
    rw[if_neg hle]at hR
    rw[qc7]
    refine yX (i:=I2) (j:=j4) rfl rfl om om h11 fun w12 h12=>?_
    have ej:IntKind.wrap .i64 ((j4:Int)-1)=((j4-1:Nat):Int):=by rw[qk om om];omega
    have ei:IntKind.wrap .i64 ((I2:Int)+1)=((I2+1:Nat):Int):=by rw[qk om om];omega
    rw[qbk,ei,ej]
    exact⟨j4-1+1-(I2+1),by omega,I2+1,j4-1,_,by omega,by omega,by omega,rfl,swp_size _ _ _,hR,rfl,h12⟩
  constructor
  ·intro hle
   have hle:I2<=j4:=by simpa using hle
   refine vp (i:=j4) (j:=a) rfl rfl om om h10 (.head _) fun w11 h11=>⟨_,rfl,?_⟩
   rw[q2v,qg]
   refine⟨fun hb'=>?_,fun hb'=>?_⟩
   ·rw[qa4]
    refine⟨j4-1,by omega,j4-1,by omega,rfl,?_,?_,h11⟩
    ·rw[<-hdn4];exact(q1Q om hle hb').symm
    ·rw[qk om om,show(j4:Int)-1=((j4-1:Nat):Int)by omega]
   ·refine after4 w11 ?_ h11
    rw[<-hdn4];exact(QL (fun hh=>by rw[hh.2]at hb';cases hb')).symm
  ·intro hgt
   have hgt:¬ I2<=j4:=by simpa using hgt
   rw[q2v,qd]
   refine after4 _ ?_ h10.drew
   rw[<-hdn4];exact(QL (fun hh=>hgt hh.1)).symm
 constructor
 ·intro hle
  have hle:i3<=j':=by simpa using hle
  refine vp (i:=i3) (j:=a) rfl rfl om om h8 (.head _) fun w9 h9=>⟨_,rfl,?_⟩
  rw[q2p,qg]
  refine⟨fun hb'=>?_,fun hb'=>?_⟩
  ·rw[qcH]
   refine⟨j'+1-(i3+1),by omega,i3+1,by omega,by omega,rfl,?_,?_,h9⟩
   ·rw[<-hup3];exact(q7n hle hb').symm
   ·rw[qk om om];rfl
  ·have:i3=I2:=by rw[<-hup3];exact(YJ (fun hh=>by rw[hh.2]at hb';cases hb')).symm
   rw[this]
   exact after3 w9 h9
 ·intro hgt
  have hgt:¬ i3<=j':=by simpa using hgt
  rw[q2p,qd]
  have:i3=I2:=by rw[<-hup3];exact(YJ (fun hh=>hgt hh.1)).symm
  rw[this]
  exact after3 _ h8.drew
theorem q7S{d:Array Int}{a b pv:Nat}(h:St w0 w ((g,Cs (yG d z) T)::H))(hap:a<=pv)(hpb:pv<b)(hb:b<=d.size)(hn:d.size<1000000000000)
  (hK:∀ w',St w0 w' ((g,Cs (yG (partition ltInt d a b pv).2.2 z) T)::H)->K (.tuple [qj ((partition ltInt d a b pv).1:Nat),.bool (partition ltInt d a b pv).2.1].toArray) w') :
  qa P 125 [.slice (some (Addr.mk g 0 none)) d.size c,.int .i64 a,.int .i64 b,.int .i64 pv] w K:=by
 refine qB2 _ _ _ _ _ _ _ _ ?_
 rw[qzI,qdH,qec]
 refine yX (i:=a) (j:=pv) rfl rfl om om h fun w1 h1=>?_
 have hs1:(swp d a pv).size=d.size:=swp_size _ _ _
 unfold partition at hK
 simp only at hK
 generalize swp d a pv=d1 at h1 hs1 hK
 have ej:IntKind.wrap .i64 ((b:Int)-1)=((b-1:Nat):Int):=by rw[qk om om];omega
 have ei:IntKind.wrap .i64 ((a:Int)+1)=((a+1:Nat):Int):=by rw[qk om om];omega
 rw[qef,ej,ei,qdo,<-hs1]
 rw[<-hs1]at hb hn
 refine⟨qwV w0 ((g,Cs (yG d1 z) T)::H) (fun i=>ptE g c d1.size a i (b-1)) (fun x=>ltInt x d1[a]!) d1 a b (b-1) (scanUp (fun x=>ltInt x d1[a]!) d1 (b-1) (a+1)),⟨b-1+1-(a+1),a+1,by omega,by omega,rfl,rfl,rfl,h1⟩,?_⟩
 have hI:=qte (p:=fun x=>ltInt x d1[a]!) d1 (a+1) (b-1) b om om
 have hI0:=scanUp_ge (fun x=>ltInt x d1[a]!) d1 (b-1) (a+1)
 generalize hII:scanUp (fun x=>ltInt x d1[a]!) d1 (b-1) (a+1)=I at hK hI hI0
 rintro m ee w2 ⟨i,hai,hib,rfl,hup,rfl,h2⟩
 show qcy ..
 rw[qcM,qg]
 have after:∀ w3,St w0 w3 ((g,Cs (yG d1 z) T)::H)->q7q ((b-1:Nat):Int) 0 false (some (Addr.mk g 0 none)) d1.size c a I w3 K:=by
  intro w3 h3
  rw[qh9]
  refine⟨qvB w0 ((g,Cs (yG d1 z) T)::H) (fun j=>ptF g c d1.size a I j) (fun x=>!ltInt x d1[a]!) d1 b I (scanDown (fun x=>!ltInt x d1[a]!) d1 I (b-1)),⟨b-1,b-1,by omega,rfl,rfl,rfl,h3⟩,?_⟩
  have hJ:=scanDown_le (fun x=>!ltInt x d1[a]!) d1 I (b-1)
  generalize hJJ:scanDown (fun x=>!ltInt x d1[a]!) d1 I (b-1)=J at hK hJ
  rintro j ee w4 ⟨_,hjb,rfl,hdn,rfl,h4⟩
  show qbR ..
  rw[q9X,qg]
  have after2:∀ w5,j=J->St w0 w5 ((g,Cs (yG d1 z) T)::H)->q5b (j:Int) (some (Addr.mk g 0 none)) d1.size c a 0 false I w5 K:=by
   intro w5 hjJ h5
   subst hjJ
   rw[qbH,qg]
   constructor
   ·intro hgt
    have hgt:I > j:=by simpa using hgt
    simp only[if_pos hgt]at hK
    refine yX (i:=j) (j:=a) rfl rfl om om h5 fun w6 h6=>?_
    rw[qd5]
    exact hK w6 h6
   ·intro hle
    have hle:¬ I > j:=by simpa using hle
    simp only[if_neg hle]at hK
    rw[qbw]
    refine yX (i:=I) (j:=j) rfl rfl om om h5 fun w6 h6=>?_
    have hs2:(swp d1 I j).size=d1.size:=swp_size _ _ _
    have ej:IntKind.wrap .i64 ((j:Int)-1)=((j-1:Nat):Int):=by rw[qk om om];omega
    have ei:IntKind.wrap .i64 ((I:Int)+1)=((I+1:Nat):Int):=by rw[qk om om];omega
    rw[qci,ei,qcS,ej,qau]
    exact qlR h6 om om om hs2 hb hn rfl hK
  constructor
  ·intro hle
   have hle:I<=j:=by simpa using hle
   refine vp (i:=j) (j:=a) rfl rfl om om h4 (.head _) fun w5 h5=>⟨_,rfl,?_⟩
   rw[q5x,qg]
   refine⟨fun hb'=>?_,fun hb'=>?_⟩
   ·rw[qaN]
    refine⟨j-1,by omega,j-1,by omega,rfl,?_,?_,h5⟩
    ·rw[<-hdn];exact(q1Q om hle hb').symm
    ·rw[qk om om,show(j:Int)-1=((j-1:Nat):Int)by omega]
   ·refine after2 w5 ?_ h5
    rw[<-hdn];exact(QL (fun hh=>by rw[hh.2]at hb';cases hb')).symm
  ·intro hgt
   have hgt:¬ I<=j:=by simpa using hgt
   rw[q5x,qd]
   refine after2 _ ?_ h4.drew
   rw[<-hdn];exact(QL (fun hh=>hgt hh.1)).symm
 constructor
 ·intro hle
  have hle:i<=b-1:=by simp at hle;omega
  refine vp (i:=i) (j:=a) rfl rfl om om h2 (.head _) fun w3 h3=>⟨_,rfl,?_⟩
  rw[q4V,qg]
  refine⟨fun hb'=>?_,fun hb'=>?_⟩
  ·rw[qee]
   refine⟨b-1+1-(i+1),by omega,i+1,by omega,by omega,rfl,?_,?_,h3⟩
   ·rw[<-hup];exact(q7n hle hb').symm
   ·rw[qk om om];rfl
  ·have:i=I:=by rw[<-hup];exact(YJ (fun hh=>by rw[hh.2]at hb';cases hb')).symm
   rw[this]
   exact after w3 h3
 ·intro hgt
  have hgt:¬ i<=b-1:=by simp at hgt;omega
  rw[q4V,qd]
  have:i=I:=by rw[<-hup];exact(YJ (fun hh=>hgt hh.1)).symm
  rw[this]
  exact after _ h2.drew
abbrev peE(g c n a:Nat)(i j:Nat):ql:=ql.mk 84 [(9,(Value.int .i64 i)),(8,(Value.int .i64 0)),(10,(Value.int .i64 j)),(0,(Value.slice (some (Addr.mk g 0 none)) n c)),(1,(Value.int .i64 a))] []
abbrev peF(g c n a:Nat)(i j:Nat):ql:=ql.mk 84 [(10,(Value.int .i64 j)),(8,(Value.int .i64 0)),(9,(Value.int .i64 i)),(0,(Value.slice (some (Addr.mk g 0 none)) n c)),(1,(Value.int .i64 a))] []
def qxp(w0:World)(H:qP)(g c:Nat)(T:TypeId)(z:List Value)(n a b:Nat)(R:Nat × Array Int)(m:Nat)(ee:ql)(w:World):Prop:=
 ∃ (i j:Nat) (d:Array Int),a<i/\i<=b/\j<b/\m=j+1-i/\d.size=n/\partEqLoop ltInt a i j d=R/\ee=peE g c n a i j/\St w0 w ((g,Cs (yG d z) T)::H)
theorem qcf{d:Array Int}{n a b i j:Nat}{R:Nat × Array Int}(h:St w0 w ((g,Cs (yG d z) T)::H))(ha:a<i)(hi:i<=b)(hj:j<b)(hd:d.size=n)(hb:b<=n)(hn:n<1000000000000)(hR:partEqLoop ltInt a i j d=R)
  (hK:∀ w',St w0 w' ((g,Cs (yG R.2 z) T)::H)->K (qj (R.1:Nat)) w'):za (qc3 K) (peE g c n a i j) w:=by
 refine⟨qxp w0 H g c T z n a b R,⟨j+1-i,i,j,d,ha,hi,hj,rfl,hd,hR,rfl,h⟩,?_⟩
 clear h ha hi hj hd hR
 rintro m ee w7 ⟨i',j',d2,ha',hi',hj',rfl,hd2,hR,rfl,h7⟩
 show qam ..
 rw[qbh]
 rw[partEqLoop_eq]at hR
 subst hd2
 refine⟨qwV w0 ((g,Cs (yG d2 z) T)::H) (fun i=>peE g c d2.size a i j') (fun x=>!ltInt d2[a]! x) d2 a b j' (scanUp (fun x=>!ltInt d2[a]! x) d2 j' i'),⟨j'+1-i',i',ha',hi',rfl,rfl,rfl,h7⟩,?_⟩
 have gI:=qte (p:=fun x=>!ltInt d2[a]! x) d2 i' j' b hi' hj'
 have gI0:=scanUp_ge (fun x=>!ltInt d2[a]! x) d2 j' i'
 generalize scanUp (fun x=>!ltInt d2[a]! x) d2 j' i'=I2 at hR gI gI0
 rintro m ee w8 ⟨i3,ha3,hi3,rfl,hup3,rfl,h8⟩
 show qbJ ..
 rw[qcQ,qg]
 have after3:∀ w9,St w0 w9 ((g,Cs (yG d2 z) T)::H)->q8w (j':Int) 0 I2 (some (Addr.mk g 0 none)) d2.size c a w9 K (fun e' w'=>∃ m,m<j'+1-i'/\qxp w0 H g c T z d2.size a b R m e' w'):=by
  intro w9 h9
  rw[qgO]
  refine⟨qvB w0 ((g,Cs (yG d2 z) T)::H) (fun j=>peF g c d2.size a I2 j) (fun x=>ltInt d2[a]! x) d2 b I2 (scanDown (fun x=>ltInt d2[a]! x) d2 I2 j'),⟨j',j',hj',rfl,rfl,rfl,h9⟩,?_⟩
  have gJ:=scanDown_le (fun x=>ltInt d2[a]! x) d2 I2 j'
  generalize scanDown (fun x=>ltInt d2[a]! x) d2 I2 j'=J2 at hR gJ
  rintro j4 ee w10 ⟨_,hj4,rfl,hdn4,rfl,h10⟩
  show q9K ..
  rw[qaH,qg]
  have after4:∀ w11,j4=J2->St w0 w11 ((g,Cs (yG d2 z) T)::H)->q40 0 I2 (j4:Int) (some (Addr.mk g 0 none)) d2.size c a w11 K (fun e' w'=>∃ m,m<j'+1-i'/\qxp w0 H g c T z d2.size a b R m e' w'):=by
   intro w11 hj h11
   subst hj
   rw[qap,qg]
   constructor
   ·intro hgt
    have hgt:I2 > j4:=by simpa using hgt
    rw[if_pos hgt]at hR
    subst hR
    rw[qax]
    exact hK w11 h11
   ·intro hle
    have hle:¬ I2 > j4:=by simpa using hle
    rw[if_neg hle]at hR
    rw[qan]
    refine yX (i:=I2) (j:=j4) rfl rfl om om h11 fun w12 h12=>?_
    have ej:IntKind.wrap .i64 ((j4:Int)-1)=((j4-1:Nat):Int):=by rw[qk om om];omega
    have ei:IntKind.wrap .i64 ((I2:Int)+1)=((I2+1:Nat):Int):=by rw[qk om om];omega
    rw[qac,ei,ej]
    exact⟨j4-1+1-(I2+1),by omega,I2+1,j4-1,_,by omega,by omega,by omega,rfl,swp_size _ _ _,hR,rfl,h12⟩
  constructor
  ·intro hle
   have hle:I2<=j4:=by simpa using hle
   refine vp (i:=a) (j:=j4) rfl rfl om om h10 (.head _) fun w11 h11=>⟨_,rfl,?_⟩
   rw[q2j,qg]
   refine⟨fun hb'=>?_,fun hb'=>?_⟩
   ·rw[q9P]
    refine⟨j4-1,by omega,j4-1,by omega,rfl,?_,?_,h11⟩
    ·rw[<-hdn4];exact(q1Q om hle hb').symm
    ·rw[qk om om,show(j4:Int)-1=((j4-1:Nat):Int)by omega]
   ·refine after4 w11 ?_ h11
    rw[<-hdn4];exact(QL (fun hh=>by rw[hh.2]at hb';cases hb')).symm
  ·intro hgt
   have hgt:¬ I2<=j4:=by simpa using hgt
   rw[q2j,qd]
   refine after4 _ ?_ h10.drew
   rw[<-hdn4];exact(QL (fun hh=>hgt hh.1)).symm
 constructor
 ·intro hle
  have hle:i3<=j':=by simpa using hle
  refine vp (i:=a) (j:=i3) rfl rfl om om h8 (.head _) fun w9 h9=>⟨_,rfl,?_⟩
  rw[q3n,qg]
  refine⟨fun hb'=>?_,fun hb'=>?_⟩
  ·rw[qfK]
   refine⟨j'+1-(i3+1),by omega,i3+1,by omega,by omega,rfl,?_,?_,h9⟩
   ·rw[<-hup3];exact(q7n hle hb').symm
   ·rw[qk om om];rfl
  ·have:i3=I2:=by rw[<-hup3];exact(YJ (fun hh=>by rw[hh.2]at hb';cases hb')).symm
   rw[this]
   exact after3 w9 h9
 ·intro hgt
  have hgt:¬ i3<=j':=by simpa using hgt
  rw[q3n,qd]
  have:i3=I2:=by rw[<-hup3];exact(YJ (fun hh=>hgt hh.1)).symm
  rw[this]
  exact after3 _ h8.drew
theorem q1n{d:Array Int}{a b pv:Nat}(h:St w0 w ((g,Cs (yG d z) T)::H))(hap:a<=pv)(hpb:pv<b)(hb:b<=d.size)(hn:d.size<1000000000000)
  (hK:∀ w',St w0 w' ((g,Cs (yG (partitionEqual ltInt d a b pv).2 z) T)::H)->K (qj ((partitionEqual ltInt d a b pv).1:Nat)) w') :
  qa P 124 [.slice (some (Addr.mk g 0 none)) d.size c,.int .i64 a,.int .i64 b,.int .i64 pv] w K:=by
 refine qCR _ _ _ _ _ _ _ _ ?_
 rw[qBw,qdv,qgh]
 refine yX (i:=a) (j:=pv) rfl rfl om om h fun w1 h1=>?_
 have hs1:(swp d a pv).size=d.size:=swp_size _ _ _
 unfold partitionEqual at hK
 generalize swp d a pv=d1 at h1 hs1 hK
 have ej:IntKind.wrap .i64 ((b:Int)-1)=((b-1:Nat):Int):=by rw[qk om om];omega
 have ei:IntKind.wrap .i64 ((a:Int)+1)=((a+1:Nat):Int):=by rw[qk om om];omega
 rw[qhj,ej,ei,qf7]
 exact qcf h1 om om om hs1 hb hn rfl hK
end
end Go.Fx.Tryz
namespace Go.Fx.Tryz
set_option maxRecDepth 100000
open Go Go.Fx Go.Proofs
def zy:=qx Tryz.f122
def qKq:=Tryz.f122.results.toList
abbrev vU K:=qH P qKq K
def f122 a b c d e w K:=CS P zy none [6] [6] (vU K) (zh 133 [(VS a b c),(VI d),(VI e)]) w
def qkc a b c d e w K:=SC zy 1 [6] [6] (vU K) 133 [(0,VS a b c),(1,VI d),(2,VI e)] w
abbrev qzv K:=kq zy 1 [6] [6] (vU K)
def qip a b c d e w K:=SC zy 3 [6] [6] (vU K) 133 [(6,VB false),(0,VS a b c),(1,VI d),(2,VI e)] w
abbrev qB1 K:=kq zy 3 [6] [6] (vU K)
def qi6 a b c d e f g h w K:=SC zy 7 [6] [6] (vU K) 133 [(7,VI a),(12,VI b),(11,VI c),(6,VB false),(0,VS d e f),(1,VI g),(2,VI h)] w
abbrev q1a K:=kq zy 7 [6] [6] (vU K)
abbrev qAE K:=kq zy 14 [] [6] (q1a K)
def qln a b c d e f g h i w K:=SC zy 29 [] [6] (q1a K) 133 [(8,VI a),(7,VI b),(12,VI c),(11,VI d),(6,VB false),(0,VS e f g),(1,VI h),(2,VI i)] w
abbrev q7T K:=qq 0 (q1a K)
def qtZ K Y4 e w:=zJ (fun e w=>CS P (cA zy 116) none [7,6,8,0,2,1] [6] (qw [7,6,8,0,2,1] Y4 (q7T K)) e w) e w
abbrev VG K Y4:=qw [7,6,8,0,2,1] Y4 (q7T K)
def qaG a b c d f g h i w K Y4:=SG zy 116 [7,6,8,0,2,1] [6] (VG K Y4) 133 [(7,VI a),(6,VB b),(8,VI c),(0,VS d f g),(2,VI h),(1,VI i)] w
abbrev qjV K Y4:=kq zy 116 [7,6,8,0,2,1] [6] (VG K Y4)
abbrev qAR K Y4:=kq zy 232 [7,6,0,2,1,8] [6] (qjV K Y4)
def qhY a b c d f g h i w K Y4:=SG zy 233 [7,6,8,0,2,1] [6] (VG K Y4) 133 [(7,VI a),(6,VB b),(0,VS c d f),(2,VI g),(1,VI h),(8,VI i)] w
abbrev qih K Y4:=kq zy 233 [7,6,8,0,2,1] [6] (VG K Y4)
abbrev yw K Y4:=qq 1 (qih K Y4)
abbrev qkp K Y4:=kq zy 932 [7,6,0,2,1,8] [6,7,0,2,1,8] (yw K Y4)
abbrev q5r K Y4:=qq 2 (qkp K Y4)
def quk K Y4 Y6 e w:=zJ (fun e w=>CS P (cA zy 7456) none [7,6,0,2,1,8] [6,7,0,2,1,8] (qw [7,6,0,2,1,8] Y6 (q5r K Y4)) e w) e w
abbrev q0G K Y4 Y6:=qw [7,6,0,2,1,8] Y6 (q5r K Y4)
def qbs a b c d f g h i w K Y4 Y6:=SG zy 7456 [7,6,0,2,1,8] [6,7,0,2,1,8] (q0G K Y4 Y6) 133 [(7,VI a),(6,VB b),(0,VS c d f),(2,VI g),(1,VI h),(8,VI i)] w
abbrev q3t K Y4 Y6:=kq zy 7456 [7,6,0,2,1,8] [6,7,0,2,1,8] (q0G K Y4 Y6)
abbrev qvd K Y4 Y6:=kq zy 14912 [6,0,2,1,8,7] [6,7,0,2,1,8] (q3t K Y4 Y6)
def q7E a b c d f g h i j w K Y4 Y6:=SG zy 29825 [6,0,2,1,8,7] [6,7,0,2,1,8] (q3t K Y4 Y6) 133 [(32,VB a),(6,VB b),(0,VS c d f),(2,VI g),(1,VI h),(8,VI i),(7,VI j)] w
def qjR a b c d f g h i w K Y4 Y6:=SG zy 14913 [7,6,0,2,1,8] [6,7,0,2,1,8] (q0G K Y4 Y6) 133 [(6,VB a),(0,VS b c d),(2,VI f),(1,VI g),(8,VI h),(7,VI i)] w
abbrev qs3 K Y4 Y6:=qq 3 (q0G K Y4 Y6)
theorem qe0:qjR a c d e f g h i w K Y4 Y6=(Y6 (ql.mk 133 [(7,(Value.int .i64 (IntKind.wrap .i64 (i+1)))),(6,(Value.bool a)),(0,(Value.slice c d e)),(2,(Value.int .i64 f)),(1,(Value.int .i64 g)),(8,(Value.int .i64 h))] []) w):=qV (QJ 3 [6,7,0,2,1,8] (qs3 K Y4 Y6) kr)
def q8u a b c d f g h i w K Y4:=SG zy 1865 [7,6,0,2,1,8] [6,7,0,2,1,8] (yw K Y4) 133 [(7,VI a),(0,VS b c d),(2,VI f),(1,VI g),(8,VI h),(6,VB i)] w
abbrev q9I K Y4:=kq zy 1865 [7,6,0,2,1,8] [6,7,0,2,1,8] (yw K Y4)
abbrev qru K Y4:=kq zy 3730 [7,0,2,1,8,6] [6,7,0,2,1,8] (q9I K Y4)
def qb4 a b c d f g h i w K Y4:=SG zy 3731 [7,6,0,2,1,8] [6,7,0,2,1,8] (yw K Y4) 133 [(7,VI a),(0,VS b c d),(2,VI f),(1,VI g),(8,VI h),(6,VB i)] w
abbrev qd6 K Y4:=kq zy 3731 [7,6,0,2,1,8] [6,7,0,2,1,8] (yw K Y4)
abbrev qr1 K Y4:=kq zy 7462 [6,7,0,2,1,8] [6,7,0,2,1,8] (qd6 K Y4)
def qai a b c d f g h i w K Y4:=SG zy 7463 [7,6,0,2,1,8] [6,7,0,2,1,8] (yw K Y4) 133 [(6,VB a),(7,VI b),(0,VS c d f),(2,VI g),(1,VI h),(8,VI i)] w
abbrev qsw K Y4:=kq zy 7463 [7,6,0,2,1,8] [6,7,0,2,1,8] (yw K Y4)
def q5w a b c d f g h i w K Y4:=SG zy 14927 [7,6,0,2,1,8] [6,7,0,2,1,8] (yw K Y4) 133 [(6,VB a),(7,VI b),(0,VS c d f),(2,VI g),(1,VI h),(8,VI i)] w
abbrev Qe K Y4:=kq zy 14927 [7,6,0,2,1,8] [6,7,0,2,1,8] (yw K Y4)
abbrev qrx K Y4:=kq zy 29854 [6,7,0,2,1,8] [6,7,0,2,1,8] (Qe K Y4)
def qbo a b c d e f g h i j k l w K Y4:=SC zy 119418 [6,7,0,2,1,8] [6,7,0,2,1,8] (Qe K Y4) 133 [(61,VB true),(61,VB a),(60,VI b),(59,VI c),(58,VI d),(6,VB e),(7,VI f),(0,VS g h i),(2,VI j),(1,VI k),(8,VI l)] w
abbrev qyu K Y4:=kq zy 119418 [6,7,0,2,1,8] [6,7,0,2,1,8] (Qe K Y4)
def qcL a b c d e f g h i j k l m n o w K Y4:=SC zy 238837 [6,7,0,2,1,8] [6,7,0,2,1,8] (Qe K Y4) 133 [(9,VI a),(63,VI b),(62,VI c),(61,VB true),(61,VB d),(60,VI e),(59,VI f),(58,VI g),(6,VB h),(7,VI i),(0,VS j k l),(2,VI m),(1,VI n),(8,VI o)] w
abbrev q5j K Y4:=qq 4 (Qe K Y4)
def qoI K Y4 Y15 e w:=zJ (fun e w=>CS P (cA zy 955348) none [6,7,0,2,1,8,9] [6,7,0,2,1,8] (qw [6,7,0,2,1,8,9] Y15 (q5j K Y4)) e w) e w
abbrev Yg K Y4 Y15:=qw [6,7,0,2,1,8,9] Y15 (q5j K Y4)
def q6g a b c d f g h i j w K Y4 Y15:=SG zy 955348 [6,7,0,2,1,8,9] [6,7,0,2,1,8] (Yg K Y4 Y15) 133 [(6,VB a),(7,VI b),(0,VS c d f),(2,VI g),(1,VI h),(8,VI i),(9,VI j)] w
abbrev qd4 K Y4 Y15:=kq zy 955348 [6,7,0,2,1,8,9] [6,7,0,2,1,8] (Yg K Y4 Y15)
abbrev qs0 K Y4 Y15:=kq zy 1910696 [6,7,0,2,1,8,9] [6,7,0,2,1,8] (qd4 K Y4 Y15)
def qcX a b c d f g h i j w K Y4 Y15:=SG zy 1910697 [6,7,0,2,1,8,9] [6,7,0,2,1,8] (Yg K Y4 Y15) 133 [(6,VB a),(7,VI b),(0,VS c d f),(2,VI g),(1,VI h),(8,VI i),(9,VI j)] w
abbrev qd3 K Y4 Y15:=kq zy 1910697 [6,7,0,2,1,8,9] [6,7,0,2,1,8] (Yg K Y4 Y15)
abbrev q49 K Y4 Y15:=qq 5 (qd3 K Y4 Y15)
abbrev q5q K Y4 Y15:=kq zy 7642788 [6,7,0,2,1,8,9] [6,7,0,2,1,8,9] (q49 K Y4 Y15)
abbrev qxQ K Y4 Y15:=kq zy 15285576 [6,7,0,2,1,8,9] [6,7,0,2,1,8,9] (q5q K Y4 Y15)
def qaw a b c d f g h i j k w K Y4 Y15:=SG zy 30571153 [6,7,0,2,1,8,9] [6,7,0,2,1,8,9] (q5q K Y4 Y15) 133 [(78,VB a),(6,VB b),(7,VI c),(0,VS d f g),(2,VI h),(1,VI i),(8,VI j),(9,VI k)] w
def ZO a b c d f g h i w K Y4:=SG zy 29855 [7,6,0,2,1,8] [6,7,0,2,1,8] (yw K Y4) 133 [(6,VB a),(7,VI b),(0,VS c d f),(2,VI g),(1,VI h),(8,VI i)] w
abbrev qqZ K Y4:=kq zy 29855 [7,6,0,2,1,8] [6,7,0,2,1,8] (yw K Y4)
def qca a b c d e f g h i j k l w K Y4:=SC zy 119422 [7,6,0,2,1,8] [6,7,0,2,1,8] (yw K Y4) 133 [(98,VB true),(98,VB a),(97,VI b),(96,VI c),(95,VI d),(6,VB e),(7,VI f),(0,VS g h i),(2,VI j),(1,VI k),(8,VI l)] w
abbrev qrv K Y4:=kq zy 119422 [7,6,0,2,1,8] [6,7,0,2,1,8] (yw K Y4)
def qbL a b c d e f g h i j k l m n o w K Y4:=SC zy 238845 [7,6,0,2,1,8] [6,7,0,2,1,8] (yw K Y4) 133 [(10,VI a),(100,VI b),(99,VI c),(98,VB true),(98,VB d),(97,VI e),(96,VI f),(95,VI g),(6,VB h),(7,VI i),(0,VS j k l),(2,VI m),(1,VI n),(8,VI o)] w
abbrev q54 K Y4:=qq 6 (yw K Y4)
def qo2 K Y4 Y21 e w:=zJ (fun e w=>CS P (cA zy 955380) none [6,7,0,2,1,8,10] [6,7,0,2,1,8] (qw [6,7,0,2,1,8,10] Y21 (q54 K Y4)) e w) e w
abbrev Yi K Y4 Y21:=qw [6,7,0,2,1,8,10] Y21 (q54 K Y4)
def q6S a b c d f g h i j w K Y4 Y21:=SG zy 955380 [6,7,0,2,1,8,10] [6,7,0,2,1,8] (Yi K Y4 Y21) 133 [(6,VB a),(7,VI b),(0,VS c d f),(2,VI g),(1,VI h),(8,VI i),(10,VI j)] w
abbrev qa6 K Y4 Y21:=kq zy 955380 [6,7,0,2,1,8,10] [6,7,0,2,1,8] (Yi K Y4 Y21)
abbrev qw6 K Y4 Y21:=kq zy 1910760 [6,7,0,2,1,8,10] [6,7,0,2,1,8] (qa6 K Y4 Y21)
def qcF a b c d f g h i j w K Y4 Y21:=SG zy 1910761 [6,7,0,2,1,8,10] [6,7,0,2,1,8] (Yi K Y4 Y21) 133 [(6,VB a),(7,VI b),(0,VS c d f),(2,VI g),(1,VI h),(8,VI i),(10,VI j)] w
abbrev qak K Y4 Y21:=kq zy 1910761 [6,7,0,2,1,8,10] [6,7,0,2,1,8] (Yi K Y4 Y21)
abbrev q4b K Y4 Y21:=qq 7 (qak K Y4 Y21)
abbrev q4f K Y4 Y21:=kq zy 7643044 [6,7,0,2,1,8,10] [6,7,0,2,1,8,10] (q4b K Y4 Y21)
abbrev qz5 K Y4 Y21:=kq zy 15286088 [6,7,0,2,1,8,10] [6,7,0,2,1,8,10] (q4f K Y4 Y21)
def qah a b c d f g h i j k w K Y4 Y21:=SG zy 30572177 [6,7,0,2,1,8,10] [6,7,0,2,1,8,10] (q4f K Y4 Y21) 133 [(116,VB a),(6,VB b),(7,VI c),(0,VS d f g),(2,VI h),(1,VI i),(8,VI j),(10,VI k)] w
def Vv a b c d f g h i w K Y4:=SG zy 467 [7,6,8,0,2,1] [6] (VG K Y4) 133 [(7,VI a),(6,VB b),(0,VS c d f),(2,VI g),(1,VI h),(8,VI i)] w
theorem qbU:Vv a c d e f g h i w K Y4=(Y4 (ql.mk 133 [(7,(Value.int .i64 a)),(6,(Value.bool c)),(8,(Value.int .i64 (IntKind.wrap .i64 (i+1)))),(0,(Value.slice d e f)),(2,(Value.int .i64 g)),(1,(Value.int .i64 h))] []) w):=qV kr
def qaL a b c d f g h i j w K Y4 Y21:=SG zy 15286089 [6,7,0,2,1,8,10] [6,7,0,2,1,8,10] (q4b K Y4 Y21) 133 [(6,VB a),(7,VI b),(0,VS c d f),(2,VI g),(1,VI h),(8,VI i),(10,VI j)] w
def qaW a b c d f g h i j w K Y4 Y21:=SG zy 3821523 [6,7,0,2,1,8,10] [6,7,0,2,1,8] (Yi K Y4 Y21) 133 [(6,VB a),(7,VI b),(0,VS c d f),(2,VI g),(1,VI h),(8,VI i),(10,VI j)] w
theorem qbN:qaW a c d e f g h i j w K Y4 Y21=(Y21 (ql.mk 133 [(6,(Value.bool a)),(7,(Value.int .i64 c)),(0,(Value.slice d e f)),(2,(Value.int .i64 g)),(1,(Value.int .i64 h)),(8,(Value.int .i64 i)),(10,(Value.int .i64 (IntKind.wrap .i64 (j+1))))] []) w):=qV kr
theorem qba:qaL e f c d g h i j a w K Y4 Y21=(qi c (fun m=>0<=(IntKind.wrap .i64 (a-1))/\(IntKind.wrap .i64 (a-1))<(d:Nat)/\qi c (fun n=>0<=a/\a<(d:Nat)/\∃ k:Int,w.drew.cell? (m.add (Int.toNat (IntKind.wrap .i64 (a-1))*1))=some (.int .u32 k)/\∃ l:Int,w.drew.cell? (n.add (Int.toNat a*1))=some (.int .u32 l)/\qi c (fun o=>0<=a/\a<(d:Nat)/\zG (o.add (Int.toNat a*1)) (Value.int .u32 k) w.drew (fun p=>qi c (fun q=>0<=(IntKind.wrap .i64 (a-1))/\(IntKind.wrap .i64 (a-1))<(d:Nat)/\zG (q.add (Int.toNat (IntKind.wrap .i64 (a-1))*1)) (Value.int .u32 l) p (fun r=>qaW e f c d g h i j a r K Y4 Y21))))))):=qV kr
theorem qa7:qah j a c d e f g h i k w K Y4 Y21=(qC j (Vv c a d e f g h i w K Y4) (qaL a c d e f g h i k w K Y4 Y21)):=qV kr
theorem qaV:qcF f g d e h i j k c w K Y4 Y21=(qi d (fun o=>0<=c/\c<(e:Nat)/\qi d (fun p=>0<=(IntKind.wrap .i64 (c-1))/\(IntKind.wrap .i64 (c-1))<(e:Nat)/\∃ l:Int,w.drew.cell? (o.add (Int.toNat c*1))=some (.int .u32 l)/\∃ m:Int,w.drew.cell? (p.add (Int.toNat (IntKind.wrap .i64 (c-1))*1))=some (.int .u32 m)/\qa P 123 [(Value.int .u32 l),(Value.int .u32 m)] w.drew (fun q r=>∃ n:Bool,q=(.bool n)/\qah (!n) f g d e h i j k c r K Y4 Y21)))):=qV (qT [6,7,0,2,1,8,10] (qak K Y4 Y21) (QJ 7 [6,7,0,2,1,8,10] (q4b K Y4 Y21) (qT [6,7,0,2,1,8,10] (q4f K Y4 Y21) (qT [116,6,7,0,2,1,8,10] (qz5 K Y4 Y21) kr))))
theorem q9k:q6S d e f g h c i j k w K Y4 Y21=(qC (decide (k<c)) (qcF d e f g h c i j k w K Y4 Y21) (Vv e d f g h c i j w K Y4)):=qV (qT [6,7,0,2,1,8,10] (qa6 K Y4 Y21) (qT [103,6,7,0,2,1,8,10] (qw6 K Y4 Y21) kr))
theorem qcw:qbL a k l m n o p c d e f g h i j w K Y4=(za (qo2 K Y4) (ql.mk 133 [(6,(Value.bool c)),(7,(Value.int .i64 d)),(0,(Value.slice e f g)),(2,(Value.int .i64 h)),(1,(Value.int .i64 i)),(8,(Value.int .i64 j)),(10,(Value.int .i64 a))] []) w):=Eq.trans (b:=CS P (cA zy 238845) none [7,6,0,2,1,8] [6,7,0,2,1,8] (yw K Y4) (ql.mk 133 [(10,(VI a)),(100,(VI k)),(99,(VI l)),(98,(VB true)),(98,(VB m)),(97,(VI n)),(96,(VI o)),(95,(VI p)),(6,(VB c)),(7,(VI d)),(0,(VS e f g)),(2,(VI h)),(1,(VI i)),(8,(VI j))] []) w) kr (Eq.trans (YD 6 [6,7,0,2,1,8] (q54 K Y4) kr) ((qY (b:=(cA zy 955380)) (X':=[6,7,0,2,1,8]) (H:=[6,7,0,2,1,8,10]) kr kr kr).trans kr))
theorem qcb:qca d e f g h c i j k l m n w K Y4=(qbL (IntKind.wrap .i64 (c+1)) (IntKind.wrap .i64 (c+1)) c d e f g h c i j k l m n w K Y4):=Eq.trans (b:=CS P (cA zy 119422) none [7,6,0,2,1,8] [6,7,0,2,1,8] (yw K Y4) (ql.mk 133 [(98,(VB true)),(98,(VB d)),(97,(VI e)),(96,(VI f)),(95,(VI g)),(6,(VB h)),(7,(VI c)),(0,(VS i j k)),(2,(VI l)),(1,(VI m)),(8,(VI n))] []) w) kr (Eq.trans (zN [6,7,0,2,1,8,10] (qrv K Y4) kr) kr)
theorem qc8:ZO e c f g h d i j w K Y4=(qC (decide ((IntKind.wrap .i64 (d-c))>=2)) (qca (decide ((IntKind.wrap .i64 (d-c))>=2)) (IntKind.wrap .i64 (d-c)) c d e c f g h d i j w K Y4) (Vv c e f g h d i j w K Y4)):=qV (qT [98,6,7,0,2,1,8] (qqZ K Y4) kr)
def qas a b c d f g h i j w K Y4 Y15:=SG zy 15285577 [6,7,0,2,1,8,9] [6,7,0,2,1,8,9] (q49 K Y4 Y15) 133 [(6,VB a),(7,VI b),(0,VS c d f),(2,VI g),(1,VI h),(8,VI i),(9,VI j)] w
def qa0 a b c d f g h i j w K Y4 Y15:=SG zy 3821395 [6,7,0,2,1,8,9] [6,7,0,2,1,8] (Yg K Y4 Y15) 133 [(6,VB a),(7,VI b),(0,VS c d f),(2,VI g),(1,VI h),(8,VI i),(9,VI j)] w
theorem qaZ:qa0 a c d e f g h i j w K Y4 Y15=(Y15 (ql.mk 133 [(6,(Value.bool a)),(7,(Value.int .i64 c)),(0,(Value.slice d e f)),(2,(Value.int .i64 g)),(1,(Value.int .i64 h)),(8,(Value.int .i64 i)),(9,(Value.int .i64 (IntKind.wrap .i64 (j-1))))] []) w):=qV kr
theorem q9H:qas e f c d g h i j a w K Y4 Y15=(qi c (fun m=>0<=(IntKind.wrap .i64 (a-1))/\(IntKind.wrap .i64 (a-1))<(d:Nat)/\qi c (fun n=>0<=a/\a<(d:Nat)/\∃ k:Int,w.drew.cell? (m.add (Int.toNat (IntKind.wrap .i64 (a-1))*1))=some (.int .u32 k)/\∃ l:Int,w.drew.cell? (n.add (Int.toNat a*1))=some (.int .u32 l)/\qi c (fun o=>0<=a/\a<(d:Nat)/\zG (o.add (Int.toNat a*1)) (Value.int .u32 k) w.drew (fun p=>qi c (fun q=>0<=(IntKind.wrap .i64 (a-1))/\(IntKind.wrap .i64 (a-1))<(d:Nat)/\zG (q.add (Int.toNat (IntKind.wrap .i64 (a-1))*1)) (Value.int .u32 l) p (fun r=>qa0 e f c d g h i j a r K Y4 Y15))))))):=qV kr
theorem qb2:qaw j a c d e f g h i k w K Y4 Y15=(qC j (ZO a c d e f g h i w K Y4) (qas a c d e f g h i k w K Y4 Y15)):=qV kr
theorem qaF:qcX f g d e h i j k c w K Y4 Y15=(qi d (fun o=>0<=c/\c<(e:Nat)/\qi d (fun p=>0<=(IntKind.wrap .i64 (c-1))/\(IntKind.wrap .i64 (c-1))<(e:Nat)/\∃ l:Int,w.drew.cell? (o.add (Int.toNat c*1))=some (.int .u32 l)/\∃ m:Int,w.drew.cell? (p.add (Int.toNat (IntKind.wrap .i64 (c-1))*1))=some (.int .u32 m)/\qa P 123 [(Value.int .u32 l),(Value.int .u32 m)] w.drew (fun q r=>∃ n:Bool,q=(.bool n)/\qaw (!n) f g d e h i j k c r K Y4 Y15)))):=qV (qT [6,7,0,2,1,8,9] (qd3 K Y4 Y15) (QJ 5 [6,7,0,2,1,8,9] (q49 K Y4 Y15) (qT [6,7,0,2,1,8,9] (q5q K Y4 Y15) (qT [78,6,7,0,2,1,8,9] (qxQ K Y4 Y15) kr))))
theorem q9r:q6g c d e f g h i j k w K Y4 Y15=(qC (decide (k>=1)) (qcX c d e f g h i j k w K Y4 Y15) (ZO c d e f g h i j w K Y4)):=qV (qT [6,7,0,2,1,8,9] (qd4 K Y4 Y15) (qT [65,6,7,0,2,1,8,9] (qs0 K Y4 Y15) kr))
theorem qcY:qcL a k l m n o p c d e f g h i j w K Y4=(za (qoI K Y4) (ql.mk 133 [(6,(Value.bool c)),(7,(Value.int .i64 d)),(0,(Value.slice e f g)),(2,(Value.int .i64 h)),(1,(Value.int .i64 i)),(8,(Value.int .i64 j)),(9,(Value.int .i64 a))] []) w):=Eq.trans (b:=CS P (cA zy 238837) none [6,7,0,2,1,8] [6,7,0,2,1,8] (Qe K Y4) (ql.mk 133 [(9,(VI a)),(63,(VI k)),(62,(VI l)),(61,(VB true)),(61,(VB m)),(60,(VI n)),(59,(VI o)),(58,(VI p)),(6,(VB c)),(7,(VI d)),(0,(VS e f g)),(2,(VI h)),(1,(VI i)),(8,(VI j))] []) w) kr (Eq.trans (YD 4 [6,7,0,2,1,8] (q5j K Y4) kr) ((qY (b:=(cA zy 955348)) (X':=[6,7,0,2,1,8]) (H:=[6,7,0,2,1,8,9]) kr kr kr).trans kr))
theorem qch:qbo d e f g h c i j k l m n w K Y4=(qcL (IntKind.wrap .i64 (c-1)) (IntKind.wrap .i64 (c-1)) c d e f g h c i j k l m n w K Y4):=Eq.trans (b:=CS P (cA zy 119418) none [6,7,0,2,1,8] [6,7,0,2,1,8] (Qe K Y4) (ql.mk 133 [(61,(VB true)),(61,(VB d)),(60,(VI e)),(59,(VI f)),(58,(VI g)),(6,(VB h)),(7,(VI c)),(0,(VS i j k)),(2,(VI l)),(1,(VI m)),(8,(VI n))] []) w) kr (Eq.trans (zN [6,7,0,2,1,8,9] (qyu K Y4) kr) kr)
theorem qb8:q5w e c f g h i d j w K Y4=(qC (decide ((IntKind.wrap .i64 (c-d))>=2)) (qbo (decide ((IntKind.wrap .i64 (c-d))>=2)) (IntKind.wrap .i64 (c-d)) d c e c f g h i d j w K Y4) (ZO e c f g h i d j w K Y4)):=qV (qT [6,7,0,2,1,8] (Qe K Y4) (qT [61,6,7,0,2,1,8] (qrx K Y4) kr))
theorem qbe:qai f c d e g h i j w K Y4=(qi d (fun m=>0<=(IntKind.wrap .i64 (c-1))/\(IntKind.wrap .i64 (c-1))<(e:Nat)/\qi d (fun n=>0<=c/\c<(e:Nat)/\∃ k:Int,w.drew.cell? (m.add (Int.toNat (IntKind.wrap .i64 (c-1))*1))=some (.int .u32 k)/\∃ l:Int,w.drew.cell? (n.add (Int.toNat c*1))=some (.int .u32 l)/\qi d (fun o=>0<=c/\c<(e:Nat)/\zG (o.add (Int.toNat c*1)) (Value.int .u32 k) w.drew (fun p=>qi d (fun q=>0<=(IntKind.wrap .i64 (c-1))/\(IntKind.wrap .i64 (c-1))<(e:Nat)/\zG (q.add (Int.toNat (IntKind.wrap .i64 (c-1))*1)) (Value.int .u32 l) p (fun r=>q5w f c d e g h i j r K Y4))))))):=qV (qT [6,7,0,2,1,8] (qsw K Y4) kr)
theorem qbu:qb4 e f g h c d i j w K Y4=(qC (decide ((IntKind.wrap .i64 (c-d))<50)) (K (Value.bool false) w) (qai j e f g h c d i w K Y4)):=qV (qT [6,7,0,2,1,8] (qd6 K Y4) (qT [41,7,0,2,1,8,6] (qr1 K Y4) kr))
theorem qhc:q8u c e f g d h i j w K Y4=(qC (c==d) (K (Value.bool true) w) (qb4 c e f g d h i j w K Y4)):=qV (qT [7,0,2,1,8,6] (q9I K Y4) (qT [37,7,0,2,1,8,6] (qru K Y4) kr))
theorem q3N:q7E j a c d e f g h i w K Y4 Y6=(qC j (qjR a c d e f g h i w K Y4 Y6) (q8u i c d e f g h a w K Y4)):=qV kr
theorem qcv:qbs c g d e h f i j w K Y4 Y6=(qC (decide (c<f)) (qi d (fun n=>0<=c/\c<(e:Nat)/\qi d (fun o=>0<=(IntKind.wrap .i64 (c-1))/\(IntKind.wrap .i64 (c-1))<(e:Nat)/\∃ k:Int,w.drew.cell? (n.add (Int.toNat c*1))=some (.int .u32 k)/\∃ l:Int,w.drew.cell? (o.add (Int.toNat (IntKind.wrap .i64 (c-1))*1))=some (.int .u32 l)/\qa P 123 [(Value.int .u32 k),(Value.int .u32 l)] w.drew (fun p q=>∃ m:Bool,p=(.bool m)/\q7E (!m) g d e h f i j c q K Y4 Y6)))) (q7E false g d e h f i j c w.drew K Y4 Y6)):=qV (qT [6,0,2,1,8,7] (q3t K Y4 Y6) (qT [32,6,0,2,1,8,7] (qvd K Y4 Y6) kr))
theorem qhx:qhY c d e f g h i j w K Y4=(za (quk K Y4) (ql.mk 133 [(7,(Value.int .i64 c)),(6,(Value.bool d)),(0,(Value.slice e f g)),(2,(Value.int .i64 h)),(1,(Value.int .i64 i)),(8,(Value.int .i64 j))] []) w):=qV (qT [7,6,0,2,1,8] (qih K Y4) (QJ 1 [6,7,0,2,1,8] (yw K Y4) (qT [7,0,2,1,8,6] (qkp K Y4) (QJ 2 [6,7,0,2,1,8] (q5r K Y4) (CSv [6,7,0,2,1,8] [7,6,0,2,1,8])))))
def qd8 w K:=SG zy 15 [6] [6] (vU K) 133 [] w
abbrev qwl K:=kq zy 15 [6] [6] (vU K)
theorem qbK:qd8 w K=(K (Value.bool false) w):=qV (qT [6] (qwl K) kr)
theorem qc1:qaG d e c f g h i j w K Y4=(qC (decide (c<5)) (qhY d e f g h i j c w K Y4) (qd8 w K)):=qV (qT [7,6,0,2,1,8] (qjV K Y4) (qT [14,7,6,0,2,1,8] (qAR K Y4) kr))
theorem qgg:qln a c i j d e f g h w K=(za (qtZ K) (ql.mk 133 [(7,(Value.int .i64 c)),(6,(Value.bool false)),(8,(Value.int .i64 a)),(0,(Value.slice d e f)),(2,(Value.int .i64 h)),(1,(Value.int .i64 g))] []) w):=Eq.trans (b:=CS P (cA zy 29) none [] [6] (q1a K) (ql.mk 133 [(8,(VI a)),(7,(VI c)),(12,(VI i)),(11,(VI j)),(6,(VB false)),(0,(VS d e f)),(1,(VI g)),(2,(VI h))] []) w) kr (Eq.trans (YD 0 [6] (q7T K) kr) ((qY (b:=(cA zy 116)) (X':=[6]) (H:=[7,6,8,0,2,1]) kr kr kr).trans kr))
theorem qfe:qi6 c d e f g h i j w K=(qln 0 c d e f g h i j w K):=Eq.trans (b:=CS P (cA zy 7) none [6] [6] (vU K) (ql.mk 133 [(7,(VI c)),(12,(VI d)),(11,(VI e)),(6,(VB false)),(0,(VS f g h)),(1,(VI i)),(2,(VI j))] []) w) kr (Eq.trans (zN [] (q1a K) kr) (Eq.trans (zN [7,6,8,0,2,1] (qAE K) kr) kr))
theorem qdg:qip d e f c g w K=(qi6 (IntKind.wrap .i64 (c+1)) (IntKind.wrap .i64 (c+1)) c d e f c g w K):=Eq.trans (b:=CS P (cA zy 3) none [6] [6] (vU K) (ql.mk 133 [(6,(VB false)),(0,(VS d e f)),(1,(VI c)),(2,(VI g))] []) w) kr (Eq.trans (zN [7,6,0,2,1] (qB1 K) kr) kr)
theorem qfz:qkc c d e f g w K=(qip c d e f g w K):=Eq.trans (b:=CS P (cA zy 1) none [6] [6] (vU K) (ql.mk 133 [(0,(VS c d e)),(1,(VI f)),(2,(VI g))] []) w) kr (Eq.trans (zN [6,0,2,1] (qzv K) kr) kr)
theorem qBu:f122 a b c d e w K=(qkc a b c d e w K):=kr
theorem qzu a b c d e w K(h:f122 a b c d e w K):qa P 122 [(Value.slice a b c),(Value.int .i64 d),(Value.int .i64 e)] w K:=zj zy Tryz.func122 h
end Go.Fx.Tryz
namespace Go.Fx.Tryz
open Go Go.Fx Go.Fx.Mo
open Go.Proofs
open Go.Sort (swp swp_size ltInt scanSorted shiftDown shiftUp partialIns partialInsertionSort)
variable {w0 w:World} {H X:qP} {K:KT}
set_option maxRecDepth 20000
section
variable {g c:Nat} {T:TypeId} {z:List Value} {Y4:YT}
theorem Vp:∀ (j:Nat) (d:Array Int),(shiftDown ltInt j d).size=d.size
 | 0,d=>rfl
 | j+1,d=>by
  unfold shiftDown
  split
  ·rfl
  ·rw[Vp j,swp_size]
theorem q1p(b:Nat):∀ (m j:Nat) (d:Array Int),b-j=m->(shiftUp ltInt b j d).size=d.size
 | 0,j,d,h=>by rw[shiftUp,if_neg om]
 | m+1,j,d,h=>by
  rw[shiftUp,if_pos om]
  split
  ·rfl
  ·rw[q1p b m (j+1) _ om,swp_size]
def qK4(w0:World)(H:qP)(g c:Nat)(T:TypeId)(z:List Value)(n a b i s:Nat)(D:Array Int)(m:Nat)(ee:ql)(w:World):Prop:=
 ∃ (k:Nat) (d:Array Int),i<k/\k<=b/\m=b-k/\d.size=n/\shiftUp ltInt b k d=D/\ee=ql.mk 133 [(6,(Value.bool false)),(7,(Value.int .i64 i)),(0,(Value.slice (some (Addr.mk g 0 none)) n c)),(2,(Value.int .i64 b)),(1,(Value.int .i64 a)),(8,(Value.int .i64 s)),(10,(Value.int .i64 k))] []/\St w0 w ((g,Cs (yG d z) T)::H)
theorem qFG{d:Array Int}{n a b i s:Nat}(h:St w0 w ((g,Cs (yG d z) T)::H))(hd:d.size=n)(hi:i<b)(hb:b<=n)(hn:n<1000000000000)
  (hK:∀ w',St w0 w' ((g,Cs (yG (if b-i>=2 then shiftUp ltInt b (i+1) d else d) z) T)::H)->Vv i false (some (Addr.mk g 0 none)) n c b a s w' K Y4) :
  ZO false i (some (Addr.mk g 0 none)) n c b a s w K Y4:=by
 have e1:IntKind.wrap .i64 ((b:Int)-(i:Int))=((b-i:Nat):Int):=by rw[qk om om];omega
 have e2:IntKind.wrap .i64 ((i:Int)+1)=((i+1:Nat):Int):=by rw[qk om om];omega
 rw[qc8,e1,qg]
 refine⟨fun h2=>?_,fun h2=>?_⟩
 ·have h2:b-i>=2:=by simp at h2;omega
  rw[if_pos h2]at hK
  rw[qcb,e2,qcw]
  refine⟨qK4 w0 H g c T z n a b i s (shiftUp ltInt b (i+1) d),⟨b-(i+1),i+1,d,by omega,by omega,rfl,hd,rfl,rfl,h⟩,?_⟩
  generalize shiftUp ltInt b (i+1) d=D at hK
  clear h hd
  rintro m ee w1 ⟨k,d,hik,hkb,rfl,hd,hD,rfl,h1⟩
  show q6S ..
  subst hd
  rw[shiftUp]at hD
  rw[q9k,qg]
  constructor
  ·intro hlt
   have hlt:k<b:=by simpa using hlt
   rw[if_pos hlt]at hD
   have ek:IntKind.wrap .i64 ((k:Int)-1)=((k-1:Nat):Int):=by rw[qk om om];omega
   rw[qaV]
   refine vp (i:=k) (j:=k-1) rfl ek om om h1 (.head _) fun w2 h2=>⟨_,rfl,?_⟩
   rw[qa7,qg]
   refine⟨fun hb'=>?_,fun hb'=>?_⟩
   ·rw[if_pos hb']at hD
    subst hD
    exact hK w2 h2
   ·rw[if_neg (by simp[hb'])]at hD
    rw[qba]
    refine yX (i:=k) (j:=k-1) rfl ek om om h2 fun w3 h3=>?_
    rw[qbN]
    refine⟨b-(k+1),by omega,k+1,_,by omega,by omega,rfl,swp_size _ _ _,hD,?_,h3⟩
    rw[qk om om];rfl
  ·intro hge
   have hge:¬ k<b:=by simpa using hge
   rw[if_neg hge]at hD
   subst hD
   exact hK w1 h1
 ·have h2:¬ b-i>=2:=by simp at h2;omega
  rw[if_neg h2]at hK
  exact hK w h
def qKx(w0:World)(H:qP)(g c:Nat)(T:TypeId)(z:List Value)(n a b i s:Nat)(D:Array Int)(m:Nat)(ee:ql)(w:World):Prop:=
 ∃ (k:Nat) (d:Array Int),k<i/\m=k/\d.size=n/\shiftDown ltInt k d=D/\ee=ql.mk 133 [(6,(Value.bool false)),(7,(Value.int .i64 i)),(0,(Value.slice (some (Addr.mk g 0 none)) n c)),(2,(Value.int .i64 b)),(1,(Value.int .i64 a)),(8,(Value.int .i64 s)),(9,(Value.int .i64 k))] []/\St w0 w ((g,Cs (yG d z) T)::H)
theorem qFR{d:Array Int}{n a b i s:Nat}(h:St w0 w ((g,Cs (yG d z) T)::H))(hd:d.size=n)(hai:a<i)(hi:i<b)(hb:b<=n)(hn:n<1000000000000)
  (hK:∀ w',St w0 w' ((g,Cs (yG (if i-a>=2 then shiftDown ltInt (i-1) d else d) z) T)::H)->ZO false i (some (Addr.mk g 0 none)) n c b a s w' K Y4) :
  q5w false i (some (Addr.mk g 0 none)) n c b a s w K Y4:=by
 have e1:IntKind.wrap .i64 ((i:Int)-(a:Int))=((i-a:Nat):Int):=by rw[qk om om];omega
 have e2:IntKind.wrap .i64 ((i:Int)-1)=((i-1:Nat):Int):=by rw[qk om om];omega
 rw[qb8,e1,qg]
 refine⟨fun h2=>?_,fun h2=>?_⟩
 ·have h2:i-a>=2:=by simp at h2;omega
  rw[if_pos h2]at hK
  rw[qch,e2,qcY]
  refine⟨qKx w0 H g c T z n a b i s (shiftDown ltInt (i-1) d),⟨i-1,i-1,d,by omega,rfl,hd,rfl,rfl,h⟩,?_⟩
  generalize shiftDown ltInt (i-1) d=D at hK
  clear h hd
  rintro k ee w1 ⟨_,d,hki,rfl,hd,hD,rfl,h1⟩
  show q6g ..
  subst hd
  rw[q9r,qg]
  constructor
  ·intro hge
   obtain⟨q,rfl⟩:∃ q,k=q+1:=⟨k-1,by simp at hge;omega⟩
   have ek:IntKind.wrap .i64 (((q+1:Nat):Int)-1)=(q:Int):=by rw[qk om om];omega
   unfold shiftDown at hD
   rw[qaF]
   refine vp (i:=q+1) (j:=q) rfl ek om om h1 (.head _) fun w2 h2=>⟨_,rfl,?_⟩
   rw[qb2,qg]
   refine⟨fun hb'=>?_,fun hb'=>?_⟩
   ·rw[if_pos hb']at hD
    subst hD
    exact hK w2 h2
   ·rw[if_neg (by simp[hb'])]at hD
    rw[q9H]
    refine yX (i:=q+1) (j:=q) rfl ek om om h2 fun w3 h3=>?_
    rw[qaZ,ek]
    exact⟨q,by omega,q,_,by omega,rfl,swp_size _ _ _,hD,rfl,h3⟩
  ·intro hlt
   have:k=0:=by simp at hlt;omega
   subst this
   have hD:d=D:=hD
   subst hD
   exact hK w1 h1
 ·have h2:¬ i-a>=2:=by simp at h2;omega
  rw[if_neg h2]at hK
  exact hK w h
def qKM(w0:World)(X:qP)(g c:Nat)(d:Array Int)(a b s I:Nat)(m:Nat)(ee:ql)(w:World):Prop:=
 ∃ i:Nat,a<i/\i<=b/\m=b-i/\scanSorted ltInt d b i=I/\ee=ql.mk 133 [(7,(Value.int .i64 i)),(6,(Value.bool false)),(0,(Value.slice (some (Addr.mk g 0 none)) d.size c)),(2,(Value.int .i64 b)),(1,(Value.int .i64 a)),(8,(Value.int .i64 s))] []/\St w0 w X
def qE4(w0:World)(H:qP)(g c:Nat)(T:TypeId)(z:List Value)(n a b:Nat)(R:Array Int × Bool)(m:Nat)(ee:ql)(w:World):Prop:=
 ∃ (i:Nat) (d:Array Int),a<i/\i<=b/\m<=5/\d.size=n/\partialIns ltInt a b m i d=R/\ee=ql.mk 133 [(7,(Value.int .i64 i)),(6,(Value.bool false)),(8,(Value.int .i64 ((5-m:Nat):Int))),(0,(Value.slice (some (Addr.mk g 0 none)) n c)),(2,(Value.int .i64 b)),(1,(Value.int .i64 a))] []/\St w0 w ((g,Cs (yG d z) T)::H)
theorem qgW{d:Array Int}{a b:Nat}(h:St w0 w ((g,Cs (yG d z) T)::H))(hab:a<b)(hb:b<=d.size)(hn:d.size<1000000000000)
  (hK:∀ w',St w0 w' ((g,Cs (yG (partialInsertionSort ltInt d a b).1 z) T)::H)->K (.bool (partialInsertionSort ltInt d a b).2) w') :
  qa P 122 [.slice (some (Addr.mk g 0 none)) d.size c,.int .i64 a,.int .i64 b] w K:=by
 refine qzu _ _ _ _ _ _ _ ?_
 have ei:IntKind.wrap .i64 ((a:Int)+1)=((a+1:Nat):Int):=by rw[qk om om];omega
 rw[qBu,qfz,qdg,ei,qfe,qgg]
 unfold partialInsertionSort at hK
 refine⟨qE4 w0 H g c T z d.size a b (partialIns ltInt a b 5 (a+1) d),⟨5,a+1,d,by omega,by omega,by omega,rfl,rfl,rfl,h⟩,?_⟩
 generalize hnn:d.size=n at hb hn
 generalize partialIns ltInt a b 5 (a+1) d=R at hK
 clear h hnn d
 rintro m ee w1 ⟨i,d,hai,hib,hm5,hd,hR,rfl,h1⟩
 show qaG ..
 subst hd
 rw[qc1,qg]
 constructor
 ·intro hlt
  obtain⟨m,rfl⟩:∃ q,m=q+1:=⟨m-1,by simp at hlt;omega⟩
  rw[qhx]
  unfold partialIns at hR
  simp only at hR
  refine⟨qKM w0 ((g,Cs (yG d z) T)::H) g c d a b (5-(m+1)) (scanSorted ltInt d b i),⟨b-i,i,hai,hib,rfl,rfl,rfl,h1⟩,?_⟩
  generalize scanSorted ltInt d b i=I at hR
  clear h1
  rintro q ee w2 ⟨i2,hai2,hib2,rfl,hI,rfl,h2⟩
  show qbs ..
  rw[scanSorted]at hI
  rw[qcv,qg]
  have after:∀ w3,i2=I->St w0 w3 ((g,Cs (yG d z) T)::H)->q8u i2 (some (Addr.mk g 0 none)) d.size c b a ((5-(m+1):Nat):Int) false w3 K (fun e' w'=>∃ m',m'<m+1/\qE4 w0 H g c T z d.size a b R m' e' w'):=by
   intro w3 hi h3
   subst hi
   rw[qhc,qg]
   refine⟨fun he=>?_,fun he=>?_⟩
   ·have he:i2=b:=by simp at he;omega
    rw[if_pos he]at hR
    subst hR
    exact hK w3 h3
   ·have he:i2≠b:=by simp at he;omega
    rw[if_neg he]at hR
    have e1:IntKind.wrap .i64 ((b:Int)-(a:Int))=((b-a:Nat):Int):=by rw[qk om om];omega
    rw[qbu,e1,qg]
    refine⟨fun h50=>?_,fun h50=>?_⟩
    ·have h50:b-a<50:=by simp at h50;omega
     rw[if_pos h50]at hR
     subst hR
     exact hK w3 h3
    ·have h50:¬ b-a<50:=by simp at h50;omega
     rw[if_neg h50]at hR
     have e2:IntKind.wrap .i64 ((i2:Int)-1)=((i2-1:Nat):Int):=by rw[qk om om];omega
     rw[qbe]
     refine yX (i:=i2) (j:=i2-1) rfl e2 om om h3 fun w4 h4=>?_
     refine qFR h4 (swp_size _ _ _) hai2 om hb hn fun w5 h5=>?_
     have hsz:(if i2-a>=2 then shiftDown ltInt (i2-1) (swp d i2 (i2-1))else swp d i2 (i2-1)).size=d.size:=by
      split
      ·rw[Vp,swp_size]
      ·rw[swp_size]
     refine qFG h5 hsz om hb hn fun w6 h6=>?_
     rw[qbU]
     refine⟨m,by omega,i2,_,hai2,hib2,by omega,?_,hR,?_,h6⟩
     ·split
      ·rw[q1p _ _ _ _ rfl,hsz]
      ·exact hsz
     ·have:IntKind.wrap .i64 (((5-(m+1):Nat):Int)+1)=((5-m:Nat):Int):=by rw[qk om om];omega
      rw[this]
  constructor
  ·intro hlt2
   have hlt2:i2<b:=by simpa using hlt2
   have e2:IntKind.wrap .i64 ((i2:Int)-1)=((i2-1:Nat):Int):=by rw[qk om om];omega
   refine vp (i:=i2) (j:=i2-1) rfl e2 om om h2 (.head _) fun w3 h3=>⟨_,rfl,?_⟩
   rw[q3N,qg]
   refine⟨fun hb'=>?_,fun hb'=>?_⟩
   ·rw[if_pos (by simp[hlt2];simpa using hb')]at hI
    rw[qe0]
    refine⟨b-(i2+1),by omega,i2+1,by omega,by omega,rfl,hI,?_,h3⟩
    rw[qk om om];rfl
   ·rw[if_neg (by rw[hb'];simp)]at hI
    exact after w3 hI h3
  ·intro hge
   have hge:¬ i2<b:=by simpa using hge
   rw[if_neg (by simp[hge])]at hI
   rw[q3N,qd]
   exact after _ hI h2.drew
 ·intro hge
  have:m=0:=by simp at hge;omega
  subst this
  have hR:(d,false)=R:=hR
  subst hR
  rw[qbK]
  exact hK w1 h1
end
end Go.Fx.Tryz
namespace Go.Fx.Tryz
set_option maxRecDepth 100000
open Go Go.Fx Go.Proofs
def JM:=qx Tryz.f99
def qLO:=Tryz.f99.results.toList
abbrev ZG K:=qH P qLO K
def f99 a b c d e f w K:=CS P JM none [] [] (ZG K) (zh 134 [(VS a b c),(VI d),(VI e),(VI f)]) w
def qyr a b c d e f w K:=SC JM 1 [] [] (ZG K) 134 [(0,VS a b c),(1,VI d),(2,VI e),(3,VI f)] w
abbrev qGK K:=kq JM 1 [] [] (ZG K)
def qwY a b c d e f w K:=SC JM 3 [] [] (ZG K) 134 [(8,VB true),(0,VS a b c),(1,VI d),(2,VI e),(3,VI f)] w
abbrev qF1 K:=kq JM 3 [] [] (ZG K)
def qwj a b c d e f w K:=SC JM 7 [] [] (ZG K) 134 [(9,VB true),(8,VB true),(0,VS a b c),(1,VI d),(2,VI e),(3,VI f)] w
abbrev qgD K:=qq 0 (ZG K)
def qCa K Y3 e w:=zJ (fun e w=>CS P (cA JM 28) none [2,1,0,9,8,3] [] (qw [2,1,0,9,8,3] Y3 (qgD K)) e w) e w
abbrev qlv K Y3:=qw [2,1,0,9,8,3] Y3 (qgD K)
def q79 a b c d f g h i w K Y3:=SG JM 28 [2,1,0,9,8,3] [] (qlv K Y3) 134 [(2,VI a),(1,VI b),(0,VS c d f),(9,VB g),(8,VB h),(3,VI i)] w
abbrev jC K Y3:=qq 1 (qlv K Y3)
abbrev qEU K Y3:=kq JM 56 [2,1,0,9,8,3] [2,1,0,9,8,3] (jC K Y3)
def qwh a b c d f g h i j w K Y3:=SG JM 227 [2,1,0,9,8,3] [2,1,0,9,8,3] (jC K Y3) 134 [(2,VI a),(1,VI b),(0,VS c d f),(9,VB g),(8,VB h),(3,VI i),(10,VI j)] w
abbrev qqJ K Y3:=kq JM 227 [2,1,0,9,8,3] [2,1,0,9,8,3] (jC K Y3)
abbrev qGB K Y3:=kq JM 454 [2,1,0,9,8,10,3] [2,1,0,9,8,3] (qqJ K Y3)
def qve a b c d f g h i j w K Y3:=SG JM 455 [2,1,0,9,8,3] [2,1,0,9,8,3] (jC K Y3) 134 [(2,VI a),(1,VI b),(0,VS c d f),(9,VB g),(8,VB h),(10,VI i),(3,VI j)] w
abbrev qi5 K Y3:=kq JM 455 [2,1,0,9,8,3] [2,1,0,9,8,3] (jC K Y3)
abbrev qzW K Y3:=kq JM 910 [2,1,0,9,8,3,10] [2,1,0,9,8,3] (qi5 K Y3)
def q8t a b c d f g h i j w K Y3:=SG JM 911 [2,1,0,9,8,3] [2,1,0,9,8,3] (jC K Y3) 134 [(2,VI a),(1,VI b),(0,VS c d f),(9,VB g),(8,VB h),(3,VI i),(10,VI j)] w
abbrev qCW K Y3:=kq JM 911 [2,1,0,9,8,3] [2,1,0,9,8,3] (jC K Y3)
def q8H a b c d f g h i j k l w K Y3:=SG JM 3647 [2,1,0,9,8,3] [2,1,0,9,8,3] (jC K Y3) 134 [(2,VI a),(1,VI b),(0,VS c d f),(9,VB g),(8,VB h),(3,VI i),(11,VI j),(10,VI k),(12,VI l)] w
abbrev q7X K Y3:=kq JM 3647 [2,1,0,9,8,3] [2,1,0,9,8,3] (jC K Y3)
abbrev qBN K Y3:=kq JM 7294 [2,0,9,8,3,11,1,10] [2,1,0,9,8,3] (q7X K Y3)
def q3W a b c d f g h i j k l w K Y3:=SG JM 14589 [2,0,9,8,3,11,1,10] [2,1,0,9,8,3] (q7X K Y3) 134 [(68,VB a),(2,VI b),(1,VI c),(0,VS d f g),(9,VB h),(8,VB i),(3,VI j),(11,VI k),(10,VI l)] w
def q4W a b c d f g h i j k w K Y3:=SG JM 7295 [2,1,0,9,8,3] [2,1,0,9,8,3] (jC K Y3) 134 [(2,VI a),(0,VS b c d),(9,VB f),(8,VB g),(3,VI h),(11,VI i),(1,VI j),(10,VI k)] w
abbrev q8q K Y3:=kq JM 7295 [2,1,0,9,8,3] [2,1,0,9,8,3] (jC K Y3)
abbrev qAt K Y3:=kq JM 14590 [2,0,3,1,10,11] [2,1,0,9,8,3] (q8q K Y3)
def q9e a b c d f g h i j k l w K Y3:=SG JM 29181 [2,0,3,1,10,11] [2,1,0,9,8,3] (q8q K Y3) 134 [(87,VB a),(2,VI b),(0,VS c d f),(9,VB g),(8,VB h),(3,VI i),(11,VI j),(1,VI k),(10,VI l)] w
def q8Q a b c d f g h i w K Y3:=SG JM 14591 [2,1,0,9,8,3] [2,1,0,9,8,3] (jC K Y3) 134 [(2,VI a),(0,VS b c d),(3,VI f),(1,VI g),(10,VI h),(11,VI i)] w
abbrev qD4 K Y3:=kq JM 14591 [2,1,0,9,8,3] [2,1,0,9,8,3] (jC K Y3)
theorem qen:q8Q d e f g i h j k w K Y3=(qa P 125 [(Value.slice e f g),(Value.int .i64 h),(Value.int .i64 d),(Value.int .i64 k)] w (fun n m=>∃ c:Int,∃ l:Bool,n=(.tuple #[(Value.int .i64 c),(Value.bool l)])/\(8:Int)≠0/\qC (decide ((IntKind.wrap .i64 (c-h))<(IntKind.wrap .i64 (d-c)))) (qa P 99 [(Value.slice e f g),(Value.int .i64 h),(Value.int .i64 c),(Value.int .i64 i)] m (fun o p=>o=(.tuple #[])/\Y3 (ql.mk 134 [(2,(Value.int .i64 d)),(1,(Value.int .i64 (IntKind.wrap .i64 (c+1)))),(0,(Value.slice e f g)),(9,(Value.bool l)),(8,(Value.bool (decide ((IntKind.wrap .i64 (c-h))>=(IntKind.wrap .i64 (j.tdiv 8)))))),(3,(Value.int .i64 i))] []) p)) (qa P 99 [(Value.slice e f g),(Value.int .i64 (IntKind.wrap .i64 (c+1))),(Value.int .i64 d),(Value.int .i64 i)] m (fun q r=>q=(.tuple #[])/\Y3 (ql.mk 134 [(2,(Value.int .i64 c)),(1,(Value.int .i64 h)),(0,(Value.slice e f g)),(9,(Value.bool l)),(8,(Value.bool (decide ((IntKind.wrap .i64 (d-c))>=(IntKind.wrap .i64 (j.tdiv 8)))))),(3,(Value.int .i64 i))] []) r)))):=qV (qT [2,0,3,14,1,10,15] (qD4 K Y3) kr)
theorem q45:q9e i a c d e j k f g h l w K Y3=(qC i (qa P 124 [(Value.slice c d e),(Value.int .i64 h),(Value.int .i64 a),(Value.int .i64 g)] w (fun n o=>∃ m:Int,n=(.int .i64 m)/\Y3 (ql.mk 134 [(2,(Value.int .i64 a)),(1,(Value.int .i64 m)),(0,(Value.slice c d e)),(9,(Value.bool j)),(8,(Value.bool k)),(3,(Value.int .i64 f))] []) o)) (q8Q a c d e f h l g w K Y3)):=qV kr
theorem qqn:q4W g e f h i j k d c l w K Y3=(qC (decide (c > 0)) (qi e (fun p=>0<=(IntKind.wrap .i64 (c-1))/\(IntKind.wrap .i64 (c-1))<(f:Nat)/\qi e (fun q=>0<=d/\d<(f:Nat)/\∃ m:Int,w.drew.cell? (p.add (Int.toNat (IntKind.wrap .i64 (c-1))*1))=some (.int .u32 m)/\∃ n:Int,w.drew.cell? (q.add (Int.toNat d*1))=some (.int .u32 n)/\qa P 123 [(Value.int .u32 m),(Value.int .u32 n)] w.drew (fun r s=>∃ o:Bool,r=(.bool o)/\q9e (!o) g e f h i j k d c l s K Y3)))) (q9e false g e f h i j k d c l w.drew K Y3)):=qV (qT [2,0,3,1,10,11] (q8q K Y3) (qT [87,2,0,9,8,3,11,1,10] (qAt K Y3) kr))
theorem q5Q:q3W l a c d e f g h i j k w K Y3=(qC l (qa P 122 [(Value.slice d e f),(Value.int .i64 c),(Value.int .i64 a)] w (fun o m=>∃ n:Bool,o=(.bool n)/\qC n (K (Value.tuple #[]) m) (q4W a d e f g h i j c k m K Y3))) (q4W a d e f g h i j c k w K Y3)):=qV kr
theorem qmv:q8H e f g h i c d j k l m w K Y3=(qC d (qC c (q3W (m==1) e f g h i c d j k l w K Y3) (q3W false e f g h i c d j k l w K Y3)) (q3W false e f g h i c d j k l w K Y3)):=qV (qT [2,0,9,8,3,11,1,10] (q7X K Y3) (qT [68,2,1,0,9,8,3,11,10] (qBN K Y3) kr))
theorem qnX:q8t c d e f g h i j k w K Y3=(qa P 120 [(Value.slice e f g),(Value.int .i64 d),(Value.int .i64 c)] w (fun o n=>∃ l:Int,∃ m:Int,o=(.tuple #[(Value.int .i64 l),(Value.int .i64 m)])/\qC (m==2) (qa P 121 [(Value.slice e f g),(Value.int .i64 d),(Value.int .i64 c)] n (fun p q=>p=(.tuple #[])/\q8H c d e f g h i j (IntKind.wrap .i64 ((IntKind.wrap .i64 (c-1))-(IntKind.wrap .i64 (l-d)))) k 1 q K Y3)) (q8H c d e f g h i j l k m n K Y3))):=qV (qT [2,1,0,9,8,3,10,11,12] (qCW K Y3) kr)
theorem qpd:qve c d e f g i h j k w K Y3=(qC (!h) (qa P 119 [(Value.slice e f g),(Value.int .i64 d),(Value.int .i64 c)] w (fun l m=>l=(.tuple #[])/\q8t c d e f g i h (IntKind.wrap .i64 (k-1)) j m K Y3)) (q8t c d e f g i h k j w K Y3)):=qV (qT [2,1,0,9,8,3,10] (qi5 K Y3) (qT [35,2,1,0,9,8,10,3] (qzW K Y3) kr))
theorem qqd:qwh c d e f g i j h k w K Y3=(qC (h==0) (qa P 118 [(Value.slice e f g),(Value.int .i64 d),(Value.int .i64 c)] w (fun l m=>l=(.tuple #[])/\K (Value.tuple #[]) m)) (qve c d e f g i j k h w K Y3)):=qV (qT [2,1,0,9,8,10,3] (qqJ K Y3) (qT [29,2,1,0,9,8,3,10] (qGB K Y3) kr))
theorem q4a:q79 c d e f g h i j w K Y3=(qC (decide ((IntKind.wrap .i64 (c-d))<=12)) (qa P 117 [(Value.slice e f g),(Value.int .i64 d),(Value.int .i64 c)] w (fun k l=>k=(.tuple #[])/\K (Value.tuple #[]) l)) (qwh c d e f g h i j (IntKind.wrap .i64 (c-d)) w K Y3)):=qV (QJ 1 [2,1,0,9,8,3] (jC K Y3) (qT [2,1,0,9,8,3,10] (qEU K Y3) kr))
theorem q6J:qwj a c d e f g w K=(za (qCa K) (ql.mk 134 [(2,(Value.int .i64 f)),(1,(Value.int .i64 e)),(0,(Value.slice a c d)),(9,(Value.bool true)),(8,(Value.bool true)),(3,(Value.int .i64 g))] []) w):=Eq.trans (b:=CS P (cA JM 7) none [] [] (ZG K) (ql.mk 134 [(9,(VB true)),(8,(VB true)),(0,(VS a c d)),(1,(VI e)),(2,(VI f)),(3,(VI g))] []) w) kr (Eq.trans (YD 0 [] (qgD K) kr) ((qY (b:=(cA JM 28)) (X':=[]) (H:=[2,1,0,9,8,3]) kr kr kr).trans kr))
theorem q6j:qwY c d e f g h w K=(qwj c d e f g h w K):=Eq.trans (b:=CS P (cA JM 3) none [] [] (ZG K) (ql.mk 134 [(8,(VB true)),(0,(VS c d e)),(1,(VI f)),(2,(VI g)),(3,(VI h))] []) w) kr (Eq.trans (zN [2,1,0,9,8,3] (qF1 K) kr) kr)
theorem q6N:qyr c d e f g h w K=(qwY c d e f g h w K):=Eq.trans (b:=CS P (cA JM 1) none [] [] (ZG K) (ql.mk 134 [(0,(VS c d e)),(1,(VI f)),(2,(VI g)),(3,(VI h))] []) w) kr (Eq.trans (zN [2,1,0,8,3] (qGK K) kr) kr)
theorem qut:f99 a b c d e f w K=(qyr a b c d e f w K):=kr
theorem qsQ a b c d e f w K(h:f99 a b c d e f w K):qa P 99 [(Value.slice a b c),(Value.int .i64 d),(Value.int .i64 e),(Value.int .i64 f)] w K:=zj JM Tryz.func99 h
end Go.Fx.Tryz
namespace Go.Fx.Tryz
open Go Go.Fx Go.Fx.Mo
open Go.Proofs
open Go.Sort (swp ltInt pdq Below rd SWO swo_ltInt insertionSort_holds heapSort_holds partialInsertionSort_holds partition_holds partitionEqual_holds reverseRange_holds breakPatterns_holds choosePivot_holds pdq_sorts Hint rd_facts round_eq round_part pdq_small pdq_heap pdq_done pdq_eq pdq_left pdq_right choosePivot breakPatterns reverseRange partialInsertionSort partition partitionEqual)
variable {w0 w:World} {H X:qP} {K:KT}
set_option maxRecDepth 20000
section
variable {g c:Nat} {T:TypeId} {z:List Value}
def q4Z(w0:World)(H:qP)(g c:Nat)(T:TypeId)(z:List Value)(n M:Nat)(D:Array Int)(m:Nat)(ee:ql)(w:World):Prop:=
 ∃ (a b limit:Nat) (wb wp:Bool) (d:Array Int),m=b-a/\m<=M/\a<=b/\b<=n/\limit<=100/\d.size=n/\Below ltInt a b d/\pdq ltInt d a b limit wb wp=D/\
  ee=ql.mk 134 [(2,(Value.int .i64 b)),(1,(Value.int .i64 a)),(0,(Value.slice (some (Addr.mk g 0 none)) n c)),(9,(Value.bool wp)),(8,(Value.bool wb)),(3,(Value.int .i64 limit))] []/\St w0 w ((g,Cs (yG d z) T)::H)
theorem qKk(h:Hint):(qil h==2)=decide (h=.decreasing):=by cases h<;>rfl
theorem qKd(h:Hint):(qil h==1)=decide (h=.increasing):=by cases h<;>rfl
theorem qGI{N n M:Nat}{D:Array Int}{d3:Array Int}{a b lim pv:Nat}{wb wp:Bool}{m:Nat}
  (ih:∀ {w:World} {K:KT} {d:Array Int} {a b limit:Nat},b-a<N->St w0 w ((g,Cs (yG d z) T)::H)->a<=b->b<=d.size->d.size<1000000000000->limit<=100->Below ltInt a b d->
   (∀ w',St w0 w' ((g,Cs (yG (pdq ltInt d a b limit true true) z) T)::H)->K (.tuple [].toArray) w')->qa P 99 [.slice (some (Addr.mk g 0 none)) d.size c,.int .i64 a,.int .i64 b,.int .i64 limit] w K)
  (h:St w0 w ((g,Cs (yG d3 z) T)::H)) (hd:d3.size=n) (hab:12<b-a) (hb:b<=n) (hn:n<1000000000000) (hlim:lim<=100) (hp:a<=pv/\pv<b) (hB:Below ltInt a b d3) (hM:b-a<=M) (hN:b-a<=N) (hm:m=b-a)
  (he:(decide (a > 0)&&!ltInt d3[a-1]! d3[pv]!)=true->pdq ltInt (partitionEqual ltInt d3 a b pv).2 (partitionEqual ltInt d3 a b pv).1 b lim wb wp=D)
  (hl:(decide (a > 0)&&!ltInt d3[a-1]! d3[pv]!)=false->(partition ltInt d3 a b pv).1-a<b-(partition ltInt d3 a b pv).1->pdq ltInt (pdq ltInt (partition ltInt d3 a b pv).2.2 a (partition ltInt d3 a b pv).1 lim true true) ((partition ltInt d3 a b pv).1+1) b lim (decide ((partition ltInt d3 a b pv).1-a>=(b-a) / 8)) (partition ltInt d3 a b pv).2.1=D)
  (hr:(decide (a > 0)&&!ltInt d3[a-1]! d3[pv]!)=false->¬ (partition ltInt d3 a b pv).1-a<b-(partition ltInt d3 a b pv).1->pdq ltInt (pdq ltInt (partition ltInt d3 a b pv).2.2 ((partition ltInt d3 a b pv).1+1) b lim true true) a (partition ltInt d3 a b pv).1 lim (decide (b-(partition ltInt d3 a b pv).1>=(b-a) / 8)) (partition ltInt d3 a b pv).2.1=D) :
  q4W b (some (Addr.mk g 0 none)) n c wp wb lim pv a ((b-a:Nat):Int) w K (fun e' w'=>∃ m',m'<m/\q4Z w0 H g c T z n M D m' e' w'):=by
 subst hd
 have s11:∀ w1,(decide (a > 0)&&!ltInt d3[a-1]! d3[pv]!)=false->St w0 w1 ((g,Cs (yG d3 z) T)::H)->q8Q b (some (Addr.mk g 0 none)) d3.size c lim a ((b-a:Nat):Int) pv w1 K (fun e' w'=>∃ m',m'<m/\q4Z w0 H g c T z d3.size M D m' e' w'):=by
  intro w1 hc h1
  rw[qen]
  refine q7S h1 hp.1 hp.2 hb hn fun w2 h2=>⟨_,_,rfl,by omega,?_⟩
  obtain⟨r1,r2,r3,r4,r5,r6,r7⟩:=round_part swo_ltInt (partition_holds ltInt) (d3:=d3) (d4:=(partition ltInt d3 a b pv).2.2) (mid:=(partition ltInt d3 a b pv).1) (ap:=(partition ltInt d3 a b pv).2.1) hp.1 hp.2 hb hB rfl
  have hl:=hl hc
  have hr:=hr hc
  generalize (partition ltInt d3 a b pv).1=mid at *
  generalize (partition ltInt d3 a b pv).2.1=ap at *
  generalize (partition ltInt d3 a b pv).2.2=d4 at *
  have e1:IntKind.wrap .i64 ((mid:Int)-(a:Int))=((mid-a:Nat):Int):=by rw[qk om om];omega
  have e2:IntKind.wrap .i64 ((b:Int)-(mid:Int))=((b-mid:Nat):Int):=by rw[qk om om];omega
  have e3:IntKind.wrap .i64 (((b-a:Nat):Int).tdiv 8)=(((b-a) / 8:Nat):Int):=by rw[Int.tdiv_eq_ediv_of_nonneg om,qk om om];omega
  have e4:IntKind.wrap .i64 ((mid:Int)+1)=((mid+1:Nat):Int):=by rw[qk om om];omega
  rw[e1,e2,e3,e4,qg,<-r3]
  refine⟨fun hlt=>?_,fun hge=>?_⟩
  ·have hlt:mid-a<b-mid:=by simp at hlt;omega
   refine ih om h2 r1 om om hlim r4 fun w3 h3=>⟨rfl,?_⟩
   obtain⟨q1,q2⟩:=pdq_sorts ltInt swo_ltInt d4 a mid lim true true r1 om r4
   have q3:=(r6 _ q1 q2).1
   refine⟨b-(mid+1),by omega,mid+1,b,lim,_,_,_,rfl,by omega,by omega,by omega,hlim,q1.1,q3,hl hlt,?_,h3⟩
   have:decide (((mid-a:Nat):Int)>=(((b-a) / 8:Nat):Int))=decide (mid-a>=(b-a) / 8):=by
    rw[Bool.eq_iff_iff];simp only[decide_eq_true_eq];omega
   rw[this]
  ·have hge:¬ mid-a<b-mid:=by simp at hge;omega
   refine ih om h2 om om om hlim r5 fun w3 h3=>⟨rfl,?_⟩
   obtain⟨q1,q2⟩:=pdq_sorts ltInt swo_ltInt d4 (mid+1) b lim true true om om r5
   have q3:=(r7 _ q1 q2).1
   refine⟨mid-a,by omega,a,mid,lim,_,_,_,rfl,by omega,by omega,by omega,hlim,q1.1,q3,hr hge,?_,h3⟩
   have:decide (((b-mid:Nat):Int)>=(((b-a) / 8:Nat):Int))=decide (b-mid>=(b-a) / 8):=by
    rw[Bool.eq_iff_iff];simp only[decide_eq_true_eq];omega
   rw[this]
 rw[qqn,qg]
 constructor
 ·intro ha0
  have ha0:a > 0:=by simp at ha0;omega
  have e1:IntKind.wrap .i64 ((a:Int)-1)=((a-1:Nat):Int):=by rw[qk om om];omega
  refine vp (i:=a-1) (j:=pv) e1 rfl om om h (.head _) fun w1 h1=>⟨_,rfl,?_⟩
  rw[q45,qg]
  refine⟨fun hn'=>?_,fun hn'=>?_⟩
  ·have hc:(decide (a > 0)&&!ltInt d3[a-1]! d3[pv]!)=true:=by simp[ha0];simpa using hn'
   have he:=he hc
   refine q1n h1 hp.1 hp.2 hb hn fun w2 h2=>⟨_,rfl,?_⟩
   obtain⟨r1,r2,r3,r4,_⟩:=round_eq swo_ltInt (partitionEqual_holds (lt:=ltInt)) (d3:=d3) (d4:=(partitionEqual ltInt d3 a b pv).2) (mid:=(partitionEqual ltInt d3 a b pv).1) ha0 hp.1 hp.2 hb hB (by simpa using hn') rfl
   exact⟨b-(partitionEqual ltInt d3 a b pv).1,by omega,_,b,lim,wb,wp,_,rfl,by omega,r2,hb,hlim,r3,r4,he,rfl,h2⟩
  ·exact s11 w1 (by rw[hn',Bool.and_false]) h1
 ·intro ha0
  have ha0:¬ a > 0:=by simp at ha0;omega
  rw[q45,qd]
  exact s11 _ (by simp[ha0]) h.drew
theorem qvV:∀ (N:Nat) {w:World} {K:KT} {d:Array Int} {a b limit:Nat},b-a<N->St w0 w ((g,Cs (yG d z) T)::H)->a<=b->b<=d.size->d.size<1000000000000->limit<=100->Below ltInt a b d->
  (∀ w',St w0 w' ((g,Cs (yG (pdq ltInt d a b limit true true) z) T)::H)->K (.tuple [].toArray) w')->qa P 99 [.slice (some (Addr.mk g 0 none)) d.size c,.int .i64 a,.int .i64 b,.int .i64 limit] w K
 | 0,_,_,_,_,_,_,hN,_,_,_,_,_,_,_=>absurd hN (Nat.not_lt_zero _)
 | N+1,w,K,d,a,b,limit,hN,h,hab,hb,hn,hlim,hB,hK=>by
  refine qsQ _ _ _ _ _ _ _ _ ?_
  rw[qut,q6N,q6j,q6J]
  refine⟨q4Z w0 H g c T z d.size (b-a) (pdq ltInt d a b limit true true),⟨b-a,a,b,limit,true,true,d,rfl,Nat.le_refl _,hab,hb,hlim,rfl,hB,rfl,rfl,h⟩,?_⟩
  generalize pdq ltInt d a b limit true true=D at hK
  have hM:b-a<=N:=by omega
  generalize b-a=M at hM
  generalize hnn:d.size=n at hb hn
  clear h hab hb hB hN hlim hnn
  rintro m ee w1 ⟨a,b,limit,wb,wp,d,hm,hmM,hab,hb,hlim,hd,hB,hD,rfl,h1⟩
  show q79 ..
  have el:IntKind.wrap .i64 ((b:Int)-(a:Int))=((b-a:Nat):Int):=by rw[qk om om];omega
  subst hd
  rw[q4a,el,qg]
  constructor
  ·intro h12
   have h12:b-a<=12:=by simp at h12;omega
   rw[pdq_small h12]at hD
   subst hD
   exact q8g h1 hab hb hn fun w2 h2=>⟨rfl,hK w2 h2⟩
  ·intro h12
   have h12:¬ b-a<=12:=by simp at h12;omega
   rw[qqd,qg]
   constructor
   ·intro h0
    have h0:limit=0:=by simp at h0;omega
    rw[pdq_heap h12 h0]at hD
    subst hD
    exact qBP h1 hab hb hn fun w2 h2=>⟨rfl,hK w2 h2⟩
   ·intro h0
    have h0:¬ limit=0:=by simp at h0;omega
    obtain⟨k1,k2,k3,k4,k5,k6,k7,k8⟩:=rd_facts (lt:=ltInt) (d:=d) (a:=a) (b:=b) (limit:=limit) (wb:=wb) (wp:=wp) swo_ltInt partialInsertionSort_holds reverseRange_holds om hb hB
    have kl:(rd ltInt d a b limit wb wp).lim<=100:=Nat.le_trans Go.Sort.rd_lim_le hlim
    have t9:∀ w2,(rd ltInt d a b limit wb wp).pi.2=false->St w0 w2 ((g,Cs (yG (rd ltInt d a b limit wb wp).pi.1 z) T)::H)->
      q4W b (some (Addr.mk g 0 none)) d.size c wp wb (rd ltInt d a b limit wb wp).lim (rd ltInt d a b limit wb wp).pivot a ((b-a:Nat):Int) w2 K (fun e' w'=>∃ m',m'<m/\q4Z w0 H g c T z d.size M D m' e' w'):=by
     intro w2 hpi h2
     refine qGI (N:=N) (fun q1 q2 q3 q4 q5 q6 q7 q8=>qvV N q1 q2 q3 q4 q5 q6 q7 q8) h2 k7 om hb hn kl k6 k8 om om hm (fun hc=>?_) (fun hc hlt=>?_) (fun hc hge=>?_)
     ·rw[<-hD]
      have ha0:a > 0:=by simp at hc;exact hc.1
      have hnl:ltInt (rd ltInt d a b limit wb wp).pi.1[a-1]! (rd ltInt d a b limit wb wp).pi.1[(rd ltInt d a b limit wb wp).pivot]! = false:=by simp at hc;exact hc.2
      obtain⟨r1,r2,_⟩:=round_eq swo_ltInt (partitionEqual_holds (lt:=ltInt)) (d3:=(rd ltInt d a b limit wb wp).pi.1) (pivot:=(rd ltInt d a b limit wb wp).pivot) (d4:=(partitionEqual ltInt (rd ltInt d a b limit wb wp).pi.1 a b (rd ltInt d a b limit wb wp).pivot).2) (mid:=(partitionEqual ltInt (rd ltInt d a b limit wb wp).pi.1 a b (rd ltInt d a b limit wb wp).pivot).1) ha0 k6.1 k6.2 (by rw[k7];exact hb) k8 hnl rfl
      exact(pdq_eq h12 h0 hpi hc ⟨r1,r2⟩).symm
     ·rw[<-hD]
      obtain⟨r1,r2,_⟩:=partition_holds ltInt swo_ltInt (rd ltInt d a b limit wb wp).pi.1 a b (rd ltInt d a b limit wb wp).pivot k6.1 k6.2 (by rw[k7];exact hb)
      exact(pdq_left h12 h0 hpi hc ⟨r1,r2⟩ hlt).symm
     ·rw[<-hD]
      obtain⟨r1,r2,_⟩:=partition_holds ltInt swo_ltInt (rd ltInt d a b limit wb wp).pi.1 a b (rd ltInt d a b limit wb wp).pivot k6.1 k6.2 (by rw[k7];exact hb)
      exact(pdq_right h12 h0 hpi hc ⟨r1,r2⟩ hge).symm
    have t7:∀ w2,St w0 w2 ((g,Cs (yG (rd ltInt d a b limit wb wp).d2 z) T)::H)->
      q8H b a (some (Addr.mk g 0 none)) d.size c wp wb (rd ltInt d a b limit wb wp).lim (rd ltInt d a b limit wb wp).pivot ((b-a:Nat):Int) (qil (rd ltInt d a b limit wb wp).hint) w2 K (fun e' w'=>∃ m',m'<m/\q4Z w0 H g c T z d.size M D m' e' w'):=by
     intro w2 h2
     have no:(wb&&wp&&decide ((rd ltInt d a b limit wb wp).hint=.increasing))=false->q3W false b a (some (Addr.mk g 0 none)) d.size c wp wb (rd ltInt d a b limit wb wp).lim (rd ltInt d a b limit wb wp).pivot ((b-a:Nat):Int) w2 K (fun e' w'=>∃ m',m'<m/\q4Z w0 H g c T z d.size M D m' e' w'):=by
      intro hc
      have hp:=Go.Sort.rd_pi_no hc
      rw[q5Q,qd]
      refine t9 w2 (by rw[hp]) ?_
      rw[hp]
      exact h2
     rw[qmv,qg]
     refine⟨fun hwb=>?_,fun hwb=>no (by rw[hwb];rfl)⟩
     rw[qg]
     refine⟨fun hwp=>?_,fun hwp=>no (by rw[hwp,Bool.and_false];rfl)⟩
     rw[qKd]
     cases hh:decide ((rd ltInt d a b limit wb wp).hint=.increasing)with
     | false=>exact no (by rw[hh,Bool.and_false])
     | true=>
      have hp:=Go.Sort.rd_pi_yes (lt:=ltInt) (d:=d) (a:=a) (b:=b) (limit:=limit) (wb:=wb) (wp:=wp) (by rw[hwb,hwp]at hh ⊢;rw[hh];rfl)
      rw[q5Q,qm,<-k4]
      refine qgW h2 om om om fun w3 h3=>⟨_,rfl,?_⟩
      rw[qg]
      refine⟨fun hy=>?_,fun hy=>?_⟩
      ·rw[pdq_done h12 h0 (by rw[hp];exact hy)]at hD
       subst hD
       rw[hp]at hK
       exact hK w3 h3
      ·rw[k4]
       refine t9 w3 (by rw[hp];exact hy) ?_
       rw[hp]
       exact h3
    have t6:∀ w2,St w0 w2 ((g,Cs (yG (rd ltInt d a b limit wb wp).d1 z) T)::H)->
      q8t b a (some (Addr.mk g 0 none)) d.size c wp wb (rd ltInt d a b limit wb wp).lim ((b-a:Nat):Int) w2 K (fun e' w'=>∃ m',m'<m/\q4Z w0 H g c T z d.size M D m' e' w'):=by
     intro w2 h2
     rw[qnX,<-k1]
     refine qtW (.head _) h2 om om om fun w3 h3=>⟨_,_,rfl,?_⟩
     have hc:(rd ltInt d a b limit wb wp).c=choosePivot ltInt (rd ltInt d a b limit wb wp).d1 a b:=Go.Sort.rd_c
     rw[<-hc,qKk,qg]
     refine⟨fun hdec=>?_,fun hdec=>?_⟩
     ·have hdec:(rd ltInt d a b limit wb wp).c.2=.decreasing:=by simpa using hdec
      obtain⟨x1,x2,x3⟩:=Go.Sort.rd_dec hdec
      refine qf0 h3 om om om fun w4 h4=>⟨rfl,?_⟩
      have e1:IntKind.wrap .i64 (IntKind.wrap .i64 ((b:Int)-1)-IntKind.wrap .i64 (((rd ltInt d a b limit wb wp).c.1:Int)-(a:Int)))=((rd ltInt d a b limit wb wp).pivot:Int):=by
       rw[x2,qk (x:=(b:Int)-1) om om,qk (x:=((rd ltInt d a b limit wb wp).c.1:Int)-(a:Int)) om om,qk om om]
       omega
      rw[e1,k1]
      have:=t7 w4 (by rw[x1];exact h4)
      rw[x3]at this
      exact this
     ·have hdec:(rd ltInt d a b limit wb wp).c.2≠.decreasing:=by simpa using hdec
      obtain⟨x1,x2,x3⟩:=Go.Sort.rd_not hdec
      have:=t7 w3 (by rw[x1];exact h3)
      rw[x2,x3]at this
      rw[k1]
      exact this
    rw[qpd,qg]
    refine⟨fun hwb=>?_,fun hwb=>?_⟩
    ·have hwb:wb=false:=by simpa using hwb
     subst hwb
     obtain⟨x1,x2⟩:=Go.Sort.rd_false (lt:=ltInt) (d:=d) (a:=a) (b:=b) (limit:=limit) (wp:=wp)
     refine qxJ h1 hab hb hn fun w2 h2=>⟨rfl,?_⟩
     have e1:IntKind.wrap .i64 ((limit:Int)-1)=((limit-1:Nat):Int):=by rw[qk om om];omega
     rw[e1]
     have:=t6 w2 (by rw[x1];exact h2)
     rw[x2]at this
     exact this
    ·have hwb:wb=true:=by simpa using hwb
     subst hwb
     obtain⟨x1,x2⟩:=Go.Sort.rd_true (lt:=ltInt) (d:=d) (a:=a) (b:=b) (limit:=limit) (wp:=wp)
     have:=t6 w1 (by rw[x1];exact h1)
     rw[x2]at this
     exact this
end
end Go.Fx.Tryz
namespace Go.Fx.Tryz
set_option maxRecDepth 100000
open Go Go.Fx Go.Proofs
def c77:=qx Tryz.f77
def qM9:=Tryz.f77.results.toList
abbrev qIO K:=qH P qM9 K
def f77 a b c w K:=CS P c77 none [] [] (qIO K) (zh 11 [(VS a b c)]) w
theorem qIg:f77 a b c w K=(∃ d:Int,(∀ wq,zZ w wq->(Builtin.len_ #[49] 3 #[(Value.slice a b c)]).run P wq=.ok (.int .i64 d) wq)/\qa P 89 [(Value.int .u64 (IntKind.wrap .u64 d))] w (fun f g=>∃ e:Int,f=(.int .i64 e)/\qa P 99 [(Value.slice a b c),(Value.int .i64 0),(Value.int .i64 d),(Value.int .i64 e)] g (fun h i=>h=(.tuple #[])/\K (Value.tuple #[]) i))):=kr
theorem qFd a b c w K(h:f77 a b c w K):qa P 77 [(Value.slice a b c)] w K:=zj c77 Tryz.func77 h
def c76:=qx Tryz.f76
def qLt:=Tryz.f76.results.toList
abbrev qGp K:=qH P qLt K
def f76 a w K:=CS P c76 none [2] [2] (qGp K) (zh 5 [a]) w
theorem qyv:f76 a w K=(qa P 98 [(Value.slice none 0 0),a] w (fun e f=>∃ (b:OA) (c d:Nat),e=(.slice b c d)/\K (Value.slice b c d) f)):=kr
theorem qxa a w K(h:f76 a w K):qa P 76 [a] w K:=zj c76 Tryz.func76 h
def c98:=qx Tryz.f98
def qHZ:=Tryz.f98.results.toList
abbrev qfG K:=qH P qHZ K
def f98 a b c d w K:=CS P c98 none [4] [4] (qfG K) (zh 13 [(VS a b c),d]) w
abbrev qJr K:=kq c98 3 [4] [4] (qfG K)
abbrev qtz K:=qq 0 (qJr K)
def qij(a:Addr)(b:OA)(c e l:Nat)(R:LoopState->Option Code->Loop)(post:Option Code->World->Prop)(args:List Value)(W:World):Prop:=args.length=1/\CS P (cA c98 52) (some l) [2,5] [] (VT P (cA c98 53) l R post) { zT (ql.mk 13 [(2,(VP (some a))),(4,(VS b c e))] []) [7] args with d:=[] } W
abbrev qDa(l:Nat)(R:LoopState->Option Code->Loop)(post:Option Code->World->Prop):Exit->YT:=VT P (cA c98 53) l R post
def qiR(a:Addr)(b:OA)(c d:Nat)(e:Int)(w:World)(l:Nat)(R:LoopState->Option Code->Loop)(post:Option Code->World->Prop):Prop:=CS P (cA c98 52) (some l) [2,5] [] (qDa l R post) (ql.mk 13 [(7,(Value.int .u32 e)),(2,(VP (some a))),(4,(VS b c d))] []) w
def qyj a b w l R post:=SG0 P (cA c98 53) (some l) [] [] (q7W l R post) (ql.mk 13 [(2,(VP (some a))),(5,(Value.int .u32 b))] []) w
theorem qoh:qyj a b w l R post=(∃ (c:OA) (d e:Nat),w.cell? a=some (.slice c d e)/\qJ 1 [(Value.int .u32 b)]/\qt (([(Value.int .u32 b)].map fun(v:Value)=>v.cells.toList).flatten.toArray) 43 w (fun k m=>∃ (f:OA) (g h:Nat),∃ i:World,(Builtin.append_ #[49,49] 49 #[(Value.slice c d e),(Value.slice (some (Addr.mk k 0 none)) 1 1)]).run P m=.ok (.slice f g h) i/\zG a (Value.slice f g h) i (fun j=>j.heap[l]?=some (.loop (R .busy none))/\post none (j.putObj l (.loop (R .ready none)))))):=kr
theorem qdQ:qiR a c d e b w l R post=(w.heap[l]?=some (.loop (R .ready none))/\qyj a b (w.putObj l (.loop (R .busy none))) l R post):=kr
theorem qfA:qij b c d e l R post [(Value.int .u32 a)] w=([(Value.int .u32 a)].length=1/\qiR b c d e a w l R post):=kr
def q7Z(a:Addr)(b:OA)(c e:Nat)(d:List Deferred)(w:World)(K:KT):Prop:=(qtz K) .normal (ql.mk 13 [(2,(VP (some a))),(4,(VS b c e))] d) w
def qvt a d w K:=SG0 P (cA c98 7) none [4] [4] (qfG K) (ql.mk 13 [(2,(VP (some a)))] d) w
theorem q5S:qvt a d w K=(∃ (b:OA) (c e:Nat),w.cell? a=some (.slice b c e)/\jo P qHZ (ql.mk 13 [(4,(Value.slice b c e)),(12,(Value.slice b c e)),(2,(Value.pointer (some a)))] d) K d w):=kr
theorem q5g:q7Z a b c e d w K=(qvt a d w K):=kr
theorem qy6:f98 a b c d w K=(qt #[(Value.slice a b c)] 49 w (fun e f=>Vw P (qtz K) (ql.mk 13 [(2,(Value.pointer (some (Addr.mk e 0 none)))),(4,(Value.slice none 0 0))] []) f d (qij (Addr.mk e 0 none) none 0 0))):=kr
theorem qzb a b c d w K(h:f98 a b c d w K):qa P 98 [(Value.slice a b c),d] w K:=zj c98 Tryz.func98 h
def c78:=qx Tryz.f78
def qLg:=Tryz.f78.results.toList
abbrev qx4 K:=qH P qLg K
def f78 a b w K:=CS P c78 none [] [] (qx4 K) (zh 14 [a,(VP (some b))]) w
abbrev qri K:=qq 0 (qx4 K)
def qBo K Y0 e w:=zJ (fun e w=>CS P (cA c78 12) none [0,5] [] (qw [0,5] Y0 (qri K)) e w) e w
abbrev qkq K Y0:=qw [0,5] Y0 (qri K)
def q39 a b w K Y0:=SG c78 12 [0,5] [] (qkq K Y0) 14 [(0,a),(5,VQ b)] w
def qv0 a b w K Y0:=SG c78 51 [0,5] [] (qkq K Y0) 14 [(0,a),(5,VQ b)] w
theorem qp0:qv0 a b w K Y0=(∃ (k14 g:Value) (c:World),(Instr.entry (Value.pointer (some b))).run P w=.ok (.tuple #[k14,g]) c/\∃ d:Int,k14=(.int .u32 d)/\Zw P a [(Value.int .u32 d)] c (fun h e=>∃ f:Bool,h=(.bool f)/\qC (!f) (K (Value.tuple #[]) e) (Y0 (ql.mk 14 [(0,a),(5,(Value.pointer (some b)))] []) e))):=kr
theorem q0f:q39 b a w K Y0=((∃ c:World,(Instr.next (Value.pointer (some a)) false 0).run P w=.ok (.tuple #[.bool false]) c/\K (Value.tuple #[]) c)\/∃ (k9 e:Value) (d:World),(Instr.next (Value.pointer (some a)) false 0).run P w=.ok (.tuple #[.bool true,k9,e]) d/\qv0 b a d K Y0):=kr
theorem qwz:f78 a b w K=(∃ c:Option Nat,w.cell? b=some (.map c)/\∃ (d:Nat) (e:World),(Instr.range 35 (Value.map c)).run P w=.ok (.pointer (some (Addr.mk d 0 none))) e/\za (qBo K) (ql.mk 14 [(0,a),(5,(Value.pointer (some (Addr.mk d 0 none))))] []) e):=kr
theorem qyy a b w K(h:f78 a b w K):qa P 78 [a,(Value.pointer (some b))] w K:=zj c78 Tryz.func78 h
def c46:=qx Tryz.f46
def qLQ:=Tryz.f46.results.toList
abbrev qEy K:=qH P qLQ K
def f46 a w K:=CS P c46 none [2] [2] (qEy K) (zh 4 [(Value.map a)]) w
theorem qxs:f46 a w K=(qt #[(Value.map a)] 35 w (fun b c=>K (Value.func (.func 78) #[] #[(Value.pointer (some (Addr.mk b 0 none)))]) c)):=kr
theorem qxP a w K(h:f46 a w K):qa P 46 [(Value.map a)] w K:=zj c46 Tryz.func46 h
def c15:=qx Tryz.f15
def qLE:=Tryz.f15.results.toList
abbrev Zc K:=qH P qLE K
def f15 a b c d e f w K:=CS P c15 none [4] [4] (Zc K) (zh 26 [(VS a b c),(VS d e f)]) w
def qwf a b c d e f w K:=SC c15 1 [4] [4] (Zc K) 26 [(0,VS a b c),(1,VS d e f)] w
abbrev qFj K:=kq c15 1 [4] [4] (Zc K)
def qxe a b c d e f w K:=SC c15 3 [4] [4] (Zc K) 26 [(4,VB false),(0,VS a b c),(1,VS d e f)] w
abbrev qyM K:=kq c15 3 [4] [4] (Zc K)
abbrev qFa K:=kq c15 6 [1,0,4] [4] (qyM K)
def qr3 a b c d f g h w K:=SG c15 7 [4] [4] (Zc K) 26 [(1,VS a b c),(0,VS d f g),(4,VB h)] w
abbrev q4F K:=kq c15 7 [4] [4] (Zc K)
abbrev qI1 K:=kq c15 14 [] [4] (q4F K)
def qyp a b c d e f g h w K:=SC c15 29 [] [4] (q4F K) 26 [(5,VI a),(1,VS b c d),(0,VS e f g),(4,VB h)] w
abbrev qdM K:=qq 0 (q4F K)
def qDz K Y4 e w:=zJ (fun e w=>CS P (cA c15 116) none [5,1,0,4] [4] (qw [5,1,0,4] Y4 (qdM K)) e w) e w
abbrev q1l K Y4:=qw [5,1,0,4] Y4 (qdM K)
def qk0 a b c d f g h i w K Y4:=SG c15 116 [5,1,0,4] [4] (q1l K Y4) 26 [(5,VI a),(1,VS b c d),(0,VS f g h),(4,VB i)] w
abbrev qvK K Y4:=kq c15 116 [5,1,0,4] [4] (q1l K Y4)
abbrev qEM K Y4:=kq c15 232 [1,0,5,4] [4] (qvK K Y4)
def qs4 a b c d f g h i w K Y4:=SG c15 233 [5,1,0,4] [4] (q1l K Y4) 26 [(1,VS a b c),(0,VS d f g),(5,VI h),(4,VB i)] w
abbrev qsU K Y4:=kq c15 233 [5,1,0,4] [4] (q1l K Y4)
abbrev qiL K Y4:=qq 1 (qsU K Y4)
abbrev qCo K Y4:=kq c15 932 [1,0,4,5] [4,1,0,5] (qiL K Y4)
def qyd a b c d f g h i w K Y4:=SG c15 467 [5,1,0,4] [4] (q1l K Y4) 26 [(1,VS a b c),(0,VS d f g),(4,VB h),(5,VI i)] w
theorem qoc:qyd a c d e f g h i w K Y4=(Y4 (ql.mk 26 [(5,(Value.int .i64 (IntKind.wrap .i64 (i+1)))),(1,(Value.slice a c d)),(0,(Value.slice e f g)),(4,(Value.bool h))] []) w):=qV kr
theorem qne:qs4 d e h f g i c j w K Y4=(qi f (fun m=>0<=c/\c<(g:Nat)/\qi d (fun n=>0<=c/\c<(e:Nat)/\∃ k:Int,w.drew.cell? (m.add (Int.toNat c*1))=some (.int .u32 k)/\∃ l:Int,w.drew.cell? (n.add (Int.toNat c*1))=some (.int .u32 l)/\qC (k != l) (K (Value.bool false) w.drew) (qyd d e h f g i j c w.drew K Y4)))):=qV (qT [1,0,4,5] (qsU K Y4) (QJ 1 [4,1,0,5] (qiL K Y4) (qT [25,1,0,5,4] (qCo K Y4) kr)))
def qyH w K:=SG c15 15 [4] [4] (Zc K) 26 [] w
abbrev qCe K:=kq c15 15 [4] [4] (Zc K)
theorem qq9:qyH w K=(K (Value.bool true) w):=qV (qT [4] (qCe K) kr)
theorem qdN:qk0 c g h i d e f j w K Y4=(∃ k:Int,(∀ wq,zZ w wq->(Builtin.len_ #[49] 3 #[(Value.slice d e f)]).run P wq=.ok (.int .i64 k) wq)/\qC (decide (c<k)) (qs4 g h i d e f c j w K Y4) (qyH w K)):=qV (qT [1,0,5,4] (qvK K Y4) (qT [14,1,0,5,4] (qEM K Y4) kr))
theorem qnG:qyp a c d e f g h i w K=(za (qDz K) (ql.mk 26 [(5,(Value.int .i64 a)),(1,(Value.slice c d e)),(0,(Value.slice f g h)),(4,(Value.bool i))] []) w):=Eq.trans (b:=CS P (cA c15 29) none [] [4] (q4F K) (ql.mk 26 [(5,(VI a)),(1,(VS c d e)),(0,(VS f g h)),(4,(VB i))] []) w) kr (Eq.trans (YD 0 [4] (qdM K) kr) ((qY (b:=(cA c15 116)) (X':=[4]) (H:=[5,1,0,4]) kr kr kr).trans kr))
theorem qoO:qr3 c d e f g h i w K=(qyp 0 c d e f g h i w K):=qV (qT [] (q4F K) (qT [5,1,0,4] (qI1 K) kr))
theorem qpr:qxe c d e f g h w K=(∃ i:Int,(∀ wq,zZ w wq->(Builtin.len_ #[49] 3 #[(Value.slice c d e)]).run P wq=.ok (.int .i64 i) wq)/\∃ j:Int,(∀ wq,zZ w wq->(Builtin.len_ #[49] 3 #[(Value.slice f g h)]).run P wq=.ok (.int .i64 j) wq)/\qC (i != j) (K (Value.bool false) w) (qr3 f g h c d e false w K)):=Eq.trans (b:=CS P (cA c15 3) none [4] [4] (Zc K) (ql.mk 26 [(4,(VB false)),(0,(VS c d e)),(1,(VS f g h))] []) w) kr (Eq.trans (zN [1,0,4] (qyM K) kr) (Eq.trans (zN [10,1,0,4] (qFa K) kr) kr))
theorem qpf:qwf c d e f g h w K=(qxe c d e f g h w K):=Eq.trans (b:=CS P (cA c15 1) none [4] [4] (Zc K) (ql.mk 26 [(0,(VS c d e)),(1,(VS f g h))] []) w) kr (Eq.trans (zN [1,0,4] (qFj K) kr) kr)
theorem qGb:f15 a b c d e f w K=(qwf a b c d e f w K):=kr
theorem qEx a b c d e f w K(h:f15 a b c d e f w K):qa P 15 [(Value.slice a b c),(Value.slice d e f)] w K:=zj c15 Tryz.func15 h
end Go.Fx.Tryz
namespace Go.Fx.Tryz
open Go Go.Fx Go.Fx.Mo
open Go.Proofs
open Go.Sort (ltInt pdq bitsLen)
variable {w0 w:World} {H:qP} {K:KT}
set_option maxRecDepth 20000
theorem qhk{v0:Value}{b1 mb clk:Nat}{t1:TypeId}{es:Array MapEntry}{X0:qP}(Fr:List Int->List (Nat × Obj)->Prop)(h:St w0 w X0)(hF0:Fr [] X0)
  (hFm:∀ vis X,Fr vis X->(b1,Cs [.map (some mb)] t1)∈X/\(mb,.map es clk)∈X) (hst:MapKept.Stamped es clk) (hks:∀ e∈es.toList,∃ k:Int,e.key=.int .u32 k)
  (hy:∀ vis k W X it o,vis.length<es.size->Fr vis X->w0.heap.size<=it->St w0 W ((it,o)::X)->Zw P v0 [.int .u32 k] W fun r W'=>r=.bool true/\∃ X',Fr (vis++[k]) X'/\St w0 W' ((it,o)::X'))
  (hK:∀ W vis X it o,(es.toList.map (·.key)).Perm (vis.map zt)->Fr vis X->w0.heap.size<=it->St w0 W ((it,o)::X)->K (.tuple [].toArray) W) :
  qa P 78 [v0,.pointer (some (Addr.mk b1 0 none))] w K:=by
 refine qyy _ _ _ _ ?_
 rw[qwz]
 refine⟨some mb,by rw[qv (h.has _ _ (hFm _ _ hF0).1)];rfl,w.heap.size,_,Jr QU (h.has _ _ (hFm _ _ hF0).2),?_⟩
 have hit:=h.le
 have h1:=h.alloc (.mapIter (some mb) clk #[] clk)
 generalize hi:w.heap.size=it at hit h1
 refine Jd (es:=es) (fun vis seen w'=>∃ ks X,vis.map (·.key)=ks.map zt/\Fr ks X/\St w0 w' ((it,.mapIter (some mb) clk seen clk)::X)) ⟨[],X0,rfl,hF0,h1⟩ ?_ ?_
 ·rintro vis seen w1 hv ⟨ks,X,hk,hF,hw⟩ Y
  show q39 ..
  rw[q0f]
  refine .inl ⟨w1,Qd (hw.get (k:=0) rfl) (hw.has _ _ (.tail _ (hFm _ _ hF).2)) hst hv.over,hK w1 ks X it _ ?_ hF hit hw⟩
  rw[<-hk]
  have:=hv.perm.map (·.key)
  rwa [List.append_nil]at this
 ·rintro vis rem seen w1 hr hv ⟨ks,X,hk,hF,hw⟩ Y hY
  show q39 ..
  rw[q0f]
  have hm:=hw.has _ _ (.tail _ (hFm _ _ hF).2)
  obtain⟨e,w2,he,hn,hw2,hk2,hrun⟩:=jZ (P:=P) (hw.get (k:=0) rfl) hm hst (hv.more hst hr)
  obtain⟨k,hek⟩:=hks e he
  have h3:St w0 (w2.putObj it (.mapIter (some mb) clk (seen.push e.born) clk)) ((it,.mapIter (some mb) clk (seen.push e.born) clk)::X):=(hw.same hw2 hk2).put (k:=0) rfl _
  refine .inr ⟨_,_,_,hrun,?_⟩
  rw[qp0]
  refine⟨e.key,e.val,_,VY (h3.get (k:=0) rfl) (h3.has _ _ (.tail _ (hFm _ _ hF).2)) (by simp) (Jb hst he),k,hek,?_⟩
  have hlt:ks.length<es.size:=by
   have h5:=hv.perm.length_eq
   have h6:=congrArg List.length hk
   have h7:0<rem.length:=List.length_pos_iff.2 hr
   simp at h5 h6
   omega
  refine YE ?_ (hy ks k _ X it _ hlt hF hit h3)
  rintro r W' ⟨rfl,X',hF',h4⟩
  refine⟨true,rfl,?_⟩
  rw[Bool.not_true,qd]
  exact hY e W' he hn ⟨ks++[k],X',by rw[List.map_append,List.map_append,hk];simp[hek],hF',h4⟩
theorem qDG:yc P 78=true:=kr
theorem qgz{KK:Exit->YT}{e:ql}{round:Nat->(LoopState->Option Code->Loop)->(Option Code->World->Prop)->List Value->World->Prop}
  (h:St w0 w H) {b1 mb clk:Nat} {t1:TypeId} {es:Array MapEntry} (hst:MapKept.Stamped es clk) (hks:∀ e∈es.toList,∃ k:Int,e.key=.int .u32 k)
  (I:List Int->List (Nat × Obj)->Prop) (I0:I [] H) (hI:∀ vis H',I vis H'->(b1,Cs [.map (some mb)] t1)∈H'/\(mb,.map es clk)∈H')
  (hround:∀ l l' R post vis k W H' it o,vis.length<es.size->I vis H'->St w0 W ((l,.loop (R .ready none))::(l',.deferred (some []))::(it,o)::H')->w0.heap.size<=l->w0.heap.size<=l'->w0.heap.size<=it->
   (∀ W' H'',I (vis++[k]) H''->St w0 W' ((l,.loop (R .ready none))::(l',.deferred (some []))::(it,o)::H'')->post none W')->round l R post [.int .u32 k] W)
  (hend:∀ W H' l' vis,w0.heap.size<=l'->(es.toList.map (·.key)).Perm (vis.map zt)->I vis H'->St w0 W ((l',.deferred (some []))::H')->KK .normal { e with d:=mk l'::e.d } W) :
  Vw P KK e w (.func (.func 78) #[] #[.pointer (some (Addr.mk b1 0 none))]) round:=by
 refine⟨qDG,fun R hy=>?_⟩
 have h1:=(h.alloc (.deferred (some []))).alloc (.loop (R .ready none))
 have hsz:(w.alloc (.deferred (some []))).heap.size=w.heap.size+1:=by simp
 rw[hsz]at h1
 have hle:w0.heap.size<=w.heap.size:=h.le
 refine qhk (mb:=mb) (t1:=t1) (fun vis X=>∃ H',I vis H'/\X=(w.heap.size+1,.loop (R .ready none))::(w.heap.size,.deferred (some []))::H') h1 ⟨H,I0,rfl⟩ ?_ hst hks ?_ ?_
 ·rintro vis X ⟨H',hi,rfl⟩
  exact⟨.tail _ (.tail _ (hI vis H' hi).1),.tail _ (.tail _ (hI vis H' hi).2)⟩
 ·rintro vis k W X it o hlt ⟨H',hi,rfl⟩ hit hs
  have hs':St w0 W ((w.heap.size+1,.loop (R .ready none))::(w.heap.size,.deferred (some []))::(it,o)::H'):=hs.perm ((List.Perm.swap _ _ _).trans ((List.Perm.swap _ _ _).cons _))
  refine YE ?_ (hy [.int .u32 k] W (fun j W'=>match j with
   | none=>∃ H'',I (vis++[k]) H''/\St w0 W' ((w.heap.size+1,.loop (R .ready none))::(w.heap.size,.deferred (some []))::(it,o)::H'')
   | some _=>False)
   (hround _ _ R _ vis k W H' it o hlt hi hs' om om hit (fun W' H'' h1 h2=>⟨H'',h1,h2⟩)) (hs'.get (k:=0) rfl))
  rintro v W' ⟨j,rfl,hj⟩
  cases j with
  | none=>
   obtain⟨H'',h2,h3⟩:=hj
   exact⟨rfl,_,⟨H'',h2,rfl⟩,h3.perm (((List.Perm.swap _ _ _).cons _).trans (List.Perm.swap _ _ _))⟩
  | some c=>exact hj.elim
 ·rintro W vis X it o hp ⟨H',hi,rfl⟩ hit hs
  have hs:=hs.tail hit
  refine⟨.ready,none,hs.get (k:=0) rfl,by simp,?_⟩
  exact hend _ H' _ vis hle hp hi ((hs.put (k:=0) rfl _).tail om)
theorem q6m(sa:Option Addr)(sl sc:Nat)(v2:Value)(r:List (Nat × Value))(d0:List Deferred)(w:World)(K:KT) :
  jo P qHZ (ql.mk 13 ((4,(Value.slice sa sl sc))::(12,v2)::r) d0) K [] w=K (Value.slice sa sl sc) w:=kr
theorem qgK{b1 mb clk:Nat}{t1:TypeId}{es:Array MapEntry}(h:St w0 w H)(hb:(b1,Cs [.map (some mb)] t1)∈H)(hm:(mb,.map es clk)∈H)(hst:MapKept.Stamped es clk)(hks:∀ e∈es.toList,∃ k:Int,e.key=.int .u32 k)(hn:es.size<1000000)
  (hK:∀ w' a c (ks:List Int) Lo,(es.toList.map (·.key)).Perm (ks.map zt)->zC 1 43 (.slice a ks.length c) ks.length (ks.map zt) Lo->zr w0 Lo->St w0 w' (Lo++H)->K (.slice a ks.length c) w') :
  qa P 76 [.func (.func 78) #[] #[.pointer (some (Addr.mk b1 0 none))]] w K:=by
 refine qxa _ _ _ ?_
 rw[qyv]
 refine qzb _ _ _ _ _ _ ?_
 rw[qy6]
 refine h.newC fun n2 w1 hn2 h1=>?_
 have h1:St w0 w1 ((n2,Cs [.slice none 0 0] 49)::H):=h1
 refine qgz (mb:=mb) (t1:=t1) h1 hst hks (fun vis H'=>vis.length<=es.size/\∃ oa oc Lo,H'=(n2,Cs [.slice oa vis.length oc] 49)::(Lo++H)/\zC 1 43 (.slice oa vis.length oc) vis.length (vis.map zt) Lo/\zr w0 Lo)
  ⟨Nat.zero_le _,none,0,[],rfl,zC.nil 1 43,zr.nil w0⟩ ?_ ?_ ?_
 ·rintro vis H' ⟨_,oa,oc,Lo,rfl,_,_⟩
  exact⟨.tail _ (List.mem_append_right _ hb),.tail _ (List.mem_append_right _ hm)⟩
 ·rintro l l' R post vis k W H' it o hlt ⟨hvl,oa,oc,Lo,rfl,hS,hN⟩ hs hl hl' hit hpost
  rw[qfA]
  refine⟨rfl,?_⟩
  rw[qdQ]
  refine⟨hs.get (k:=0) rfl,?_⟩
  have h2:=hs.put (k:=0) rfl (.loop (R .busy none))
  rw[qoh]
  refine⟨oa,vis.length,oc,h2.cell (k:=3) rfl,⟨rfl,trivial⟩,h2.newC fun n13 w3 hn13 h3=>?_⟩
  have h3:St w0 w3 ([(n13,Cs [zt k] 43),(l,.loop (R .busy none)),(l',.deferred (some [])),(it,o),(n2,Cs [.slice oa vis.length oc] 49)]++(Lo++H)):=h3
  obtain⟨ga,cap,w4,L',hr,hS',h4,hN'⟩:=St.append (P:=P) 49 49 43 Tryz.t43 (.int .u32 0) 1 4 Tryz.underlying49 kr rfl rfl rfl rfl om (xs:=vis.map zt)
   (A:=[(n13,Cs [zt k] 43),(l,.loop (R .busy none)),(l',.deferred (some [])),(it,o),(n2,Cs [.slice oa vis.length oc] 49)]) (news:=[zt k]) h3 hS hN (j:=0) rfl rfl (fun u hu=>by rw[List.mem_singleton.1 hu];rfl) (by simp[maxLen];omega) om
  refine⟨_,_,_,w4,hr,?_⟩
  have h4:St w0 w4 ((n13,Cs [zt k] 43)::(l,.loop (R .busy none))::(l',.deferred (some []))::(it,o)::(n2,Cs [.slice oa vis.length oc] 49)::(L'++H)):=h4
  refine h4.st1 (k:=4) rfl (by simp) rfl fun w5 h5=>⟨h5.get (k:=1) rfl,?_⟩
  have h6:=(h5.put (k:=1) rfl (.loop (R .ready none))).tail hn13
  have e1:(vis++[k]).length=vis.length+1:=by simp
  have e2:(vis++[k]).map zt=vis.map zt++[zt k]:=by simp
  refine hpost _ ((n2,Cs [.slice (some ⟨ga,0,none⟩) (vis.length+1) cap] 49)::(L'++H)) ⟨by omega,_,cap,L',by rw[e1],by rw[e1,e2];exact hS',hN'⟩ h6
 ·rintro W H' l' vis hl' hp ⟨_,oa,oc,Lo,rfl,hS,hN⟩ hs
  show q7Z ..
  rw[q5g,q5S]
  refine⟨oa,vis.length,oc,hs.cell (k:=1) rfl,?_⟩
  refine⟨hs.get (k:=0) rfl,?_⟩
  have h5:=hs.put (k:=0) rfl (.deferred none)
  rw[q6m]
  refine⟨oa,_,oc,rfl,hK _ oa oc vis Lo hp hS hN ?_⟩
  exact(h5.tail hl').tail hn2
theorem Zr{p:Option Addr}{l c:Nat}(wq:World):(Builtin.len_ #[49] 3 [Value.slice p l c].toArray).run P wq=.ok (.int .i64 l) wq:=qZ p l c Tryz.underlying49 3
theorem qEN(h:St w0 w H){n:Nat}(hn:n<4611686018427387904)(hK:∀ w',St w0 w' H->K (qj (bitsLen n:Nat)) w'):qa P 89 [.int .u64 (n:Nat)] w K:=by
 refine Qi (Any.bits_Len (Go.Proofs.SlLaysF0.n15.bits (P:=P) (ρ:=Tryz.sortR_ren) { Tryz.sortR with }) (n:Int) w om om) ?_
 rintro e w' ⟨rfl,rfl⟩
 refine⟨_,rfl,?_⟩
 have:=hK w' h
 rw[Int.toNat_natCast,Go.Proofs.bitLen_eq _ om]
 exact this
theorem qa3{a:Option Addr}{c:Nat}{ks:List Int}{Lo:qP}(h:St w0 w (Lo++H))(hS:zC 1 43 (.slice a ks.length c) ks.length (ks.map zt) Lo)(hn:ks.length<1000000)
  (hK:∀ w' Lo',zC 1 43 (.slice a ks.length c) ks.length ((ks.mergeSort fun x y=>decide (x<=y)).map zt) Lo'->(zr w0 Lo->zr w0 Lo')->St w0 w' (Lo'++H)->K (.tuple [].toArray) w') :
  qa P 77 [.slice a ks.length c] w K:=by
 refine qFd _ _ _ _ _ ?_
 rw[qIg]
 refine⟨ks.length,fun wq _=>Zr wq,?_⟩
 have e6:IntKind.wrap .u64 (ks.length:Int)=(ks.length:Int):=by
  simp only[IntKind.wrap,IntKind.bits,IntKind.signed]
  simp
  omega
 rw[e6]
 refine qEN h om fun w1 h1=>⟨_,rfl,?_⟩
 have hbl:bitsLen ks.length<=62:=(Go.Sort.bitsLen_le_iff _ 62).2 om
 rcases hS.2 with⟨e1,e2,e3⟩ | ⟨g,cap,cur,e1,rfl,h3,h4,h5,h6⟩
 ·-- no number
  have hz:ks=[]:=List.eq_nil_of_length_eq_zero e2
  subst hz
  obtain⟨rfl,rfl⟩:a=none/\c=0:=by simpa using e1
  subst e3
  refine qsQ _ _ _ _ _ _ _ _ ?_
  rw[qut,q6N,q6j,q6J]
  refine⟨fun m ee w=>m=0/\ee=ql.mk 134 [(2,(Value.int .i64 0)),(1,(Value.int .i64 0)),(0,(Value.slice none 0 0)),(9,(Value.bool true)),(8,(Value.bool true)),(3,(Value.int .i64 (bitsLen 0:Nat)))] []/\St w0 w H,⟨0,rfl,rfl,h1⟩,?_⟩
  rintro m ee w2 ⟨rfl,rfl,h2⟩
  show q79 ..
  rw[q4a,show IntKind.wrap .i64 ((0:Int)-0)=0 by decide,show decide ((0:Int)<=12)=true by decide,qm]
  refine qj3 _ _ _ _ _ _ _ ?_
  rw[qk9,q4v,q43]
  refine⟨fun m ee w=>m=0/\ee=ql.mk 49 [(0,(Value.slice none 0 0)),(6,(Value.int .i64 1)),(1,(Value.int .i64 0)),(2,(Value.int .i64 0))] []/\St w0 w H,⟨0,rfl,rfl,h2⟩,?_⟩
  rintro m ee w3 ⟨rfl,rfl,h3⟩
  show q3y ..
  rw[q2k,show decide ((1:Int)<0)=false by decide,qd]
  exact⟨rfl,rfl,hK w3 [] (by simpa using hS) (fun hN=>hN) h3⟩
 ·obtain⟨rfl,rfl⟩:a=some ⟨g,0,none⟩/\c=cap:=by simpa using e1
  have hcur:cur=yG ks.toArray (cur.drop ks.length):=by
   have:cur.take (ks.length*1)=ks.map zt:=h6
   rw[Nat.mul_one]at this
   show cur=ks.toArray.toList.map zt++cur.drop ks.length
   rw[List.toList_toArray,<-this,List.take_append_drop]
  have h1:St w0 w1 ((g,Cs cur 43)::H):=h1
  generalize hz:cur.drop ks.length=z at hcur
  have hzl:z.length=c-ks.length:=by rw[<-hz,List.length_drop,h5];omega
  subst hcur
  have hsz:ks.toArray.size=ks.length:=by simp
  rw[<-hsz]
  rw[<-hsz]at hbl
  refine qvV (a:=0) (b:=ks.toArray.size) (limit:=bitsLen ks.toArray.size) (ks.toArray.size+1) om h1 om om om om (.inl rfl) fun w2 h2=>⟨rfl,?_⟩
  have hs:(pdq ltInt ks.toArray 0 ks.toArray.size (bitsLen ks.toArray.size) true true).toList=ks.mergeSort (fun x y=>decide (x<=y)):=Go.Sort.sortInt ks
  refine hK w2 [(g,Cs (yG (pdq ltInt ks.toArray 0 ks.toArray.size (bitsLen ks.toArray.size) true true) z) 43)] ?_ (fun hN=>by simpa [zr]using hN) h2
  rw[hsz]at hs ⊢
  refine⟨by simp,.inr ⟨g,c,_,rfl,rfl,h3,h4,?_,?_⟩⟩
  ·show(List.map zt _++z).length=_
   rw[hs,List.length_append,List.length_map,List.length_mergeSort,hzl]
   omega
  ·show(List.map zt _++z).take _=_
   rw[hs,List.take_left' (by simp)]
end Go.Fx.Tryz
namespace Go.Fx.Tryz
set_option maxRecDepth 100000
open Go Go.Fx Go.Proofs
def c8:=qx Tryz.f8
def rs8:=Tryz.f8.results.toList
abbrev Zk K:=qH P rs8 K
def f8 a w K:=CS P c8 none [2,3] [2,3] (Zk K) (zh 42 [(VP a)]) w
def qDZ a w K:=SC c8 1 [2,3] [2,3] (Zk K) 42 [(0,VP a)] w
abbrev qKO K:=kq c8 1 [2,3] [2,3] (Zk K)
def qEk a b c w K:=SC c8 3 [2,3] [2,3] (Zk K) 42 [(3,VI a),(2,VI b),(0,VP c)] w
abbrev qyl K:=kq c8 3 [2,3] [2,3] (Zk K)
abbrev qKQ K:=kq c8 6 [2,3,0] [2,3] (qyl K)
def qhT a b c d w K:=SG c8 13 [2,3,0] [2,3] (qyl K) 42 [(15,VB a),(2,VI b),(3,VI c),(0,VP d)] w
def qDU a b c w K:=SG c8 7 [2,3] [2,3] (Zk K) 42 [(2,VI a),(3,VI b),(0,VP c)] w
abbrev qL3 K:=kq c8 7 [2,3] [2,3] (Zk K)
def qEm a b c d e f g h i j w K:=SC c8 15 [2,3] [2,3] (Zk K) 42 [(4,VI a),(21,VI b),(20,Value.map c),(19,VQ d),(18,VQ e),(17,VQ f),(16,VP g),(2,VI h),(3,VI i),(0,VP j)] w
abbrev qbO K:=kq c8 15 [2,3] [2,3] (Zk K)
abbrev qKC K:=kq c8 30 [4,0] [2,3] (qbO K)
def qDL a b c d e f g h i j k l m n o p w K:=SC c8 61 [4,0] [2,3] (qbO K) 42 [(27,VI a),(26,Value.agg b),(25,VQ c),(24,VQ d),(23,VQ e),(22,VP f),(4,VI g),(21,VI h),(20,Value.map i),(19,VQ j),(18,VQ k),(17,VQ l),(16,VP m),(2,VI n),(3,VI o),(0,VP p)] w
abbrev qxN K:=qq 0 (qbO K)
def qJ9 K Y6 e w:=zJ (fun e w=>CS P (cA c8 244) none [27,4,26,2,3,0] [2,3,4,0] (qw [27,4,26,2,3,0] Y6 (qxN K)) e w) e w
abbrev VK K Y6:=qw [27,4,26,2,3,0] Y6 (qxN K)
def qv1 a b c d f g w K Y6:=SG c8 244 [27,4,26,2,3,0] [2,3,4,0] (VK K Y6) 42 [(27,VI a),(4,VI b),(26,Value.agg c),(2,VI d),(3,VI f),(0,VP g)] w
abbrev qKo K Y6:=kq c8 244 [27,4,26,2,3,0] [2,3,4,0] (VK K Y6)
def qDE a b c d e f g w K Y6:=SC c8 489 [27,4,26,2,3,0] [2,3,4,0] (VK K Y6) 42 [(28,VB a),(27,VI b),(4,VI c),(26,Value.agg d),(2,VI e),(3,VI f),(0,VP g)] w
abbrev qKR K Y6:=kq c8 489 [27,4,26,2,3,0] [2,3,4,0] (VK K Y6)
def qE5 a b c d f g w K Y6:=SG c8 979 [27,4,26,2,3,0] [2,3,4,0] (VK K Y6) 42 [(26,Value.agg a),(2,VI b),(3,VI c),(0,VP d),(27,VI f),(4,VI g)] w
abbrev qwC K Y6:=kq c8 979 [27,4,26,2,3,0] [2,3,4,0] (VK K Y6)
abbrev qre K Y6:=qq 1 (qwC K Y6)
abbrev qIm K Y6:=kq c8 3916 [4,26,2,3,0,27] [2,3,4,0,26,27] (qre K Y6)
def qid a b c d f g w K Y6:=SG c8 1959 [27,4,26,2,3,0] [2,3,4,0] (VK K Y6) 42 [(4,VI a),(26,Value.agg b),(2,VI c),(3,VI d),(0,VP f),(27,VI g)] w
theorem qsY:qid a c d e f g w K Y6=(Y6 (ql.mk 42 [(27,(Value.int .i64 (IntKind.wrap .i64 (g+1)))),(4,(Value.int .i64 a)),(26,(Value.agg c)),(2,(Value.int .i64 d)),(3,(Value.int .i64 e)),(0,(Value.pointer f))] []) w):=qV kr
theorem qsT:qE5 d e f g c h w K Y6=(0<=c/\c<(8:Nat)/\qt (qn P 27) 27 w (fun k n=>qN 8 (Addr.mk k 0 none) (d.extract (Int.toNat c*8) ((Int.toNat c*8)+8)) n (fun i=>qf 8 (Addr.mk k 0 none) i (fun l=>∃ j:Array Value,(∀ wq,(Instr.build 27 #[]).run P wq=.ok (.agg j) wq)/\∃ m:Bool,(∀ wq,(do eqGuard .neq 27 (.tmp 30) (.tmp 31) (Value.agg l) (Value.agg j);binOp .neq 27 (Value.agg l) (Value.agg j):Sem Value).run P wq=.ok (.bool m) wq)/\qC m (qid (IntKind.wrap .i64 (h+1)) d e f g c i K Y6) (qid h d e f g c i K Y6))))):=qV (qT [4,26,2,3,0,27] (qwC K Y6) (QJ 1 [2,3,4,0,26,27] (qre K Y6) (qT [26,2,3,0,27,4,6] (qIm K Y6) kr)))
def qs2 a b w K:=SG c8 31 [2,3] [2,3] (Zk K) 42 [(4,VI a),(0,VP b)] w
abbrev qF4 K:=kq c8 31 [2,3] [2,3] (Zk K)
theorem qmn:qs2 c d w K=(qi d (fun g=>∃ e:Option Nat,w.cell? (g.add 92)=some (.map e)/\∃ f:Int,(∀ wq,zZ w wq->(Builtin.len_ #[34] 3 #[(Value.map e)]).run P wq=.ok (.int .i64 f) wq)/\K (Value.tuple #[(Value.int .i64 f),(Value.int .i64 c)]) w)):=qV (qT [2,3] (qF4 K) kr)
theorem qto:qDE e f c g h i d w K Y6=(qC e (qE5 g h i d f c w K Y6) (qs2 c d w K)):=Eq.trans (b:=CS P (cA c8 489) none [27,4,26,2,3,0] [2,3,4,0] (VK K Y6) (ql.mk 42 [(28,(VB e)),(27,(VI f)),(4,(VI c)),(26,(Value.agg g)),(2,(VI h)),(3,(VI i)),(0,(VP d))] []) w) kr (Eq.trans (zN [26,2,3,0,27,4] (qKR K Y6) kr) kr)
theorem qoT:qv1 c d e f g h w K Y6=(qDE (decide (c<8)) c d e f g h w K Y6):=qV (qT [28,26,2,3,0,27,4] (qKo K Y6) kr)
theorem qxh:qDL a c h i j k d l m n o p q e f g w K=(za (qJ9 K) (ql.mk 42 [(27,(Value.int .i64 a)),(4,(Value.int .i64 d)),(26,(Value.agg c)),(2,(Value.int .i64 e)),(3,(Value.int .i64 f)),(0,(Value.pointer g))] []) w):=Eq.trans (b:=CS P (cA c8 61) none [4,0] [2,3] (qbO K) (ql.mk 42 [(27,(VI a)),(26,(Value.agg c)),(25,(VP (some h))),(24,(VP (some i))),(23,(VP (some j))),(22,(VP k)),(4,(VI d)),(21,(VI l)),(20,(Value.map m)),(19,(VP (some n))),(18,(VP (some o))),(17,(VP (some p))),(16,(VP q)),(2,(VI e)),(3,(VI f)),(0,(VP g))] []) w) kr (Eq.trans (YD 0 [2,3,4,0] (qxN K) kr) ((qY (b:=(cA c8 244)) (X':=[2,3,4,0]) (H:=[27,4,26,2,3,0]) kr kr kr).trans kr))
theorem qsk:qEm d e f g h i j k l c w K=(qi c (fun m=>qf 64 m w (fun n=>qDL 0 n m m m c d e f g h i j k l c w K))):=Eq.trans (b:=CS P (cA c8 15) none [2,3] [2,3] (Zk K) (ql.mk 42 [(4,(VI d)),(21,(VI e)),(20,(Value.map f)),(19,(VP (some g))),(18,(VP (some h))),(17,(VP (some i))),(16,(VP j)),(2,(VI k)),(3,(VI l)),(0,(VP c))] []) w) kr (Eq.trans (zN [4,0] (qbO K) kr) (Eq.trans (zN [27,4,26,2,3,0] (qKC K) kr) kr))
theorem qwK:qDU d e c w K=(qi c (fun f=>∃ g:Option Nat,w.cell? (f.add 88)=some (.map g)/\∃ h:Int,(∀ wq,zZ w wq->(Builtin.len_ #[30] 3 #[(Value.map g)]).run P wq=.ok (.int .i64 h) wq)/\qEm h h g (f.add 88) f f c d e c w K)):=qV (qT [4,2,3,0] (qL3 K) kr)
theorem qbn:qhT a c d e w K=(qC a (K (Value.tuple #[(Value.int .i64 0),(Value.int .i64 0)]) w) (qDU c d e w K)):=qV kr
theorem qcA:qEk d e c w K=(qC c.isNone (qhT true e d c w K) (qi c (fun g=>∃ f:Bool,w.cell? (g.add 90)=some (.bool f)/\qhT (!f) e d c w K))):=Eq.trans (b:=CS P (cA c8 3) none [2,3] [2,3] (Zk K) (ql.mk 42 [(3,(VI d)),(2,(VI e)),(0,(VP c))] []) w) kr (Eq.trans (zN [2,3,0] (qyl K) kr) (Eq.trans (zN [15,2,3,0] (qKQ K) kr) kr))
theorem qaE:qDZ c w K=(qEk 0 0 c w K):=Eq.trans (b:=CS P (cA c8 1) none [2,3] [2,3] (Zk K) (ql.mk 42 [(0,(VP c))] []) w) kr (Eq.trans (zN [2,3,0] (qKO K) kr) kr)
theorem qDT:f8 a w K=(qDZ a w K):=kr
theorem qDK a w K(h:f8 a w K):qa P 8 [(Value.pointer a)] w K:=zj c8 Tryz.func8 h
def c10:=qx Tryz.f10
def qMe:=Tryz.f10.results.toList
abbrev qy5 K:=qH P qMe K
def f10 a w K:=CS P c10 none [2] [2] (qy5 K) (zh 11 [(VP a)]) w
def qst a w K:=SG c10 7 [2] [2] (qy5 K) 11 [(0,VP a)] w
theorem q6X:qst a w K=(qi a (fun g=>∃ b:Option Nat,w.cell? (g.add 93)=some (.map b)/\qa P 46 [(Value.map b)] w (fun h i=>∃ c:Value,h=c/\qa P 45 [c] i (fun j k=>∃ (d:OA) (e f:Nat),j=(.slice d e f)/\K (Value.slice d e f) k)))):=kr
theorem qsF:f10 a w K=(qC a.isNone (K (Value.slice none 0 0) w) (qst a w K)):=kr
theorem qud a w K(h:f10 a w K):qa P 10 [(Value.pointer a)] w K:=zj c10 Tryz.func10 h
def c45:=qx Tryz.f45
def qMn:=Tryz.f45.results.toList
abbrev qFV K:=qH P qMn K
def f45 a w K:=CS P c45 none [2] [2] (qFV K) (zh 9 [a]) w
theorem qvz:f45 d w K=(qa P 76 [d] w (fun e f=>∃ (a:OA) (b c:Nat),e=(.slice a b c)/\qa P 77 [(Value.slice a b c)] f (fun g h=>g=(.tuple #[])/\K (Value.slice a b c) h))):=kr
theorem qxM a w K(h:f45 a w K):qa P 45 [a] w K:=zj c45 Tryz.func45 h
end Go.Fx.Tryz
namespace Go.Fx.Mo
end Go.Fx.Mo
namespace Go.Fx.Tryz
open Go Go.Fx Go.Fx.Mo
open Go.Proofs
variable {w0 w:World} {H:qP} {K:KT}
set_option maxRecDepth 20000
theorem qlL{es:Array MapEntry}{clk:Nat}{m:List (Int × Bool)}(hm:MapIs zt es clk (yp Value.bool m)){ks:List Int}(hp:(es.toList.map (·.key)).Perm (ks.map zt)):ks.Perm (m.map (·.1)):=by
 have h1:=hm.perm.map (·.1)
 have e1:(es.toList.map fun e=>(e.key,e.val)).map (·.1)=es.toList.map (·.key):=by rw[List.map_map];rfl
 have e2:((yp Value.bool m).map fun p=>(zt p.1,p.2)).map (·.1)=(m.map (·.1)).map zt:=by
  unfold yp
  rw[List.map_map,List.map_map,List.map_map]
  rfl
 rw[e1,e2]at h1
 have h2:=(hp.symm.trans h1).map fun v:Value=>match v with
  | .int _ n=>n
  | _=>0
 rw[List.map_map,List.map_map]at h2
 have e3:((fun v:Value=>match v with
  | .int _ n=>n
  | _=>0) ∘ zt)=id:=rfl
 rw[e3,List.map_id,List.map_id]at h2
 exact h2
theorem qpC{a b:List Int}(h:a.Perm b):a.mergeSort (fun x y=>decide (x<=y))=b.mergeSort (fun x y=>decide (x<=y)):=by
 have tr:∀ x y z:Int,decide (x<=y)=true->decide (y<=z)=true->decide (x<=z)=true:=fun x y z h1 h2=>by simp at *;omega
 have to:∀ x y:Int,(decide (x<=y)||decide (y<=x))=true:=fun x y=>by simp;omega
 have h1:=List.pairwise_mergeSort tr to a
 have h2:=List.pairwise_mergeSort tr to b
 exact List.Perm.eq_of_pairwise (le:=fun x y=>decide (x<=y)=true) (fun x y _ _ h1 h2=>by simp at *;omega) h1 h2 (((List.mergeSort_perm a _).trans h).trans (List.mergeSort_perm b _).symm)
def VJ(d:VO):List Int:=(d.told.map (·.1)).mergeSort fun x y=>decide (x<=y)
theorem q3b{D:DB}(h:St w0 w (zg D++H))(hD:jz w0 D)(ht:D.d.told.length<=1000)
  (hK:∀ w' a c Lo,zC 1 43 (.slice a (VJ D.d).length c) (VJ D.d).length ((VJ D.d).map zt) Lo->zr w0 Lo->St w0 w' (Lo++(zg D++H))->K (.slice a (VJ D.d).length c) w'):qa P 10 [ptr D.db] w K:=by
 refine qud _ _ _ ?_
 rw[qsF,Option.isNone_some,qd,q6X]
 have hdet:∀ {w':World} {X:qP},St w0 w' (X++(zg D++H))->w'.cell? (Addr.mk D.db 93 none)=some (.map (some D.lb)):=fun h'=>by
  rw[qv (h'.has D.db _ (List.mem_append_right _ (List.mem_append_left _ (.head _)))),List.getElem?_append_right (by rw[yu hD.th];omega),yu hD.th]
  rfl
 refine⟨some D.lb,by rw[qc];exact hdet (X:=[]) h,?_⟩
 refine qxP _ _ _ ?_
 rw[qxs]
 refine h.newC fun n1 w1 hn1 h1=>⟨_,rfl,?_⟩
 have h1:St w0 w1 ((n1,Cs [.map (some D.lb)] 35)::(zg D++H)):=h1
 refine qxM _ _ _ ?_
 rw[qvz]
 have hsz:D.es6.size=D.d.told.length:=by
  have:=hD.m6.perm.length_eq
  simpa [yp]using this
 have hlb:(D.lb,Obj.map D.es6 D.c6)∈(n1,Cs [.map (some D.lb)] 35)::(zg D++H):=by simp[zg]
 refine qgK h1 (.head _) hlb hD.m6.st (fun e he=>?_) om fun w2 a c ks Lo hp hS hN h2=>⟨a,_,c,rfl,?_⟩
 ·have:(e.key,e.val)∈(yp Value.bool D.d.told).map fun p=>(zt p.1,p.2):=hD.m6.perm.mem_iff.1 (List.mem_map.2 ⟨e,he,rfl⟩)
  obtain⟨p,_,hp⟩:=List.mem_map.1 this
  exact⟨p.1,(congrArg (·.1) hp).symm⟩
 have hpk:=qlL hD.m6 hp
 have hr:VJ D.d=ks.mergeSort fun x y=>decide (x<=y):=(qpC hpk).symm
 have hl:(VJ D.d).length=ks.length:=by rw[hr,List.length_mergeSort]
 refine qa3 h2 hS (by have:=hpk.length_eq;simp at this;omega) fun w3 Lo' hS' hN' h3=>⟨rfl,⟨a,_,c,rfl,?_⟩⟩
 rw[<-hl]
 refine hK w3 a c Lo' ?_ (hN' hN) ?_
 ·rw[hl,hr];exact hS'
 ·have h3:St w0 w3 ([(n1,Cs [.map (some D.lb)] 35)]++(Lo'++(zg D++H))):=h3.perm (qK fun c=>by simp only[List.map_append,List.map_cons,List.map_nil,List.sum_append,List.sum_cons,List.sum_nil];omega)
  exact h3.tail hn1
end Go.Fx.Tryz
namespace Go.Fx.Mo
def qxq(l:List Int):List Int:=l.mergeSort fun x y=>decide (x<=y)
theorem qvG{a b:List Int}(hp:a.Perm b)(hs:b.Pairwise (· < ·)):qxq a=b:=by
 have tr:∀ x y z:Int,decide (x<=y)=true->decide (y<=z)=true->decide (x<=z)=true:=fun x y z h1 h2=>by simp at *;omega
 have to:∀ x y:Int,(decide (x<=y)||decide (y<=x))=true:=fun x y=>by simp;omega
 have h1:=List.pairwise_mergeSort tr to a
 have h2:b.Pairwise fun x y=>decide (x<=y)=true:=hs.imp fun h=>by simp;omega
 exact List.Perm.eq_of_pairwise (le:=fun x y=>decide (x<=y)=true) (fun x y _ _ h1 h2=>by simp at *;omega) h1 h2 ((List.mergeSort_perm a _).trans hp)
end Go.Fx.Mo
namespace Go.Fx.Tryz
open Go Go.Fx Go.Fx.Mo
open Go.Proofs
variable {w0 w:World} {H Y:qP} {K:KT}
set_option maxRecDepth 20000
section
variable {n1 n3 n19 n21:Nat} {sa:Option Addr} {sl sc:Nat} {x70 x71:Int}
end
end Go.Fx.Tryz
namespace Go.Fx.Mo
theorem q7V{l m:List Ev}{k:Nat}(h:k<l.length):qX (l++m) k=qX l k:=by
 unfold qX
 simp[List.getD,List.getElem?_append_left h]
theorem QZ{l l':List Ev}:∀ {n:Nat},(∀ k,k<n->qX l k=qX l' k)->Zh l n=Zh l' n
 | 0,_=>rfl
 | n+1,h=>by
  have h1:=QZ (l:=l) (l':=l') (n:=n) (fun k hk=>h k om)
  unfold Zh
  rw[h1,h n om]
theorem q2P{l l':List Ev}{n k:Nat}(h:∀ k,k<n->qX l k=qX l' k)(hk:k<n):pN l k=pN l' k:=by
 unfold pN
 rw[QZ (l:=l) (l':=l') (n:=k) (fun i hi=>h i om),h k hk]
theorem q29{l l':List Ev}{n k:Nat}(h:∀ k,k<n->qX l k=qX l' k)(hk:k<n)(t:Int):vM l k t=vM l' k t:=by
 unfold vM
 rw[QZ (l:=l) (l':=l') (n:=k) (fun i hi=>h i om)]
theorem qjK{l l':List Ev}{n:Nat}(h:∀ k,k<n->qX l k=qX l' k){i j:Nat}(hi:i<n)(hj:j<n)(b:Int):Rc l b i j↔Rc l' b i j:=by
 unfold Rc
 rw[h i hi,h j hj,q2P h hi,q2P h hj]
theorem qsE{l l':List Ev}{n:Nat}(h:∀ k,k<n->qX l k=qX l' k){i j:Nat}(hi:i<n)(hj:j<n)(b:Int):prR l b i j=prR l' b i j:=by
 unfold prR
 rw[h i hi,h j hj]
 by_cases hr:Rc l b i j
 ·rw[if_pos hr,if_pos ((qjK h hi hj b).1 hr)]
 ·rw[if_neg hr,if_neg (fun hh=>hr ((qjK h hi hj b).2 hh))]
theorem qnm{l l':List Ev}{n:Nat}(h:∀ k,k<n->qX l k=qX l' k){j:Nat}(hj:j<n)(b:Int):Yv l b j=Yv l' b j:=by
 unfold Yv
 refine jw fun i hi=>?_
 have hi:i<j:=by simpa using hi
 exact qsE h om hj b
theorem q5R{l l':List Ev}(b:Int):∀ {n:Nat},(∀ k,k<n->qX l k=qX l' k)->QT l b n=QT l' b n
 | 0,_=>by simp[QT]
 | n+1,h=>by
  rw[jP,jP,q5R b (n:=n) (fun k hk=>h k om),qnm h om b]
theorem qDg{l l':List Ev}{n:Nat}(h:∀ k,k<n->qX l k=qX l' k){b:Int}{c:vl}(hc:CI l b n c):CI l' b n c:=by
 have hp:∀ k,k<n->QP l k=QP l' k:=fun k hk=>by unfold QP;rw[h k hk,q2P h hk]
 refine⟨fun p hp'=>?_,hc.ord,fun k hk hh=>?_,fun t kd ht hkd=>?_,hc.len⟩
 ·obtain⟨k,h1,h2,h3⟩:=hc.mem p hp'
  exact⟨k,h1,by rw[<-h k h1];exact h2,by rw[<-hp k h1];exact h3⟩
 ·rw[<-h k hk]at hh
  obtain⟨k',h1,h2,h3,h4,h5⟩:=hc.cov k hk hh
  refine⟨k',h1,by rw[<-hp k' om];exact h2,by rw[<-h k' om,<-h k hk];exact h3,by rw[<-h k' om,<-h k hk];exact h4,?_⟩
  rw[<-h k' om,<-q29 h om,<-q29 h hk]
  exact h5
 ·rcases hc.last t kd ht hkd with h1 | ⟨k',h1,h2,h3,h4,h5⟩
  ·exact .inl h1
  ·refine .inr ⟨k',h1,by rw[<-hp k' h1];exact h2,by rw[<-h k' h1];exact h3,by rw[<-h k' h1];exact h4,?_⟩
   rw[<-q29 h h1]
   exact h5
theorem Yj{l l':List Ev}:∀ {n:Nat},(∀ k,k<n->qX l k=qX l' k)->Qz l n=Qz l' n
 | 0,_=>rfl
 | n+1,h=>by
  unfold Qz
  rw[Yj (n:=n) (fun k hk=>h k om),h n om]
theorem qDh{l l':List Ev}{n:Nat}{d:VO}(h:∀ k,k<n->qX l k=qX l' k)(hd:DI l n d):DI l' n d:=by
 refine⟨by rw[<-QZ h];exact hd.th,hd.many,fun b h0 h1=>by rw[<-q5R b h];exact hd.told b h0 h1,fun b h0 h1=>?_,fun b c h0 h1 ht hc=>qDg h (hd.cell b c h0 h1 ht hc),hd.kr,hd.tr,by rw[<-Yj h];exact hd.clen,by rw[<-Yj h];exact hd.tlen⟩
 rw[hd.key b h0 h1]
 constructor
 ·rintro⟨k,hk,hh⟩;exact⟨k,hk,by rw[<-h k hk];exact hh⟩
 ·rintro⟨k,hk,hh⟩;exact⟨k,hk,by rw[h k hk];exact hh⟩
theorem qBt{l l':List Ev}{n:Nat}(h:∀ k,k<n->qX l k=qX l' k)(hd:Ok l n):Ok l' n:=by
 intro k hk
 have:=hd k hk
 rw[QZ (l:=l) (l':=l') (n:=k) (fun i hi=>h i om),h k hk,q2P h hk]at this
 exact this
theorem qxC{l:List Ev}(hok:Ok l l.length)(hl:l.length<=20000):∃ h,run l=.inl h:=by
 have key:∀ (m n:Nat) (h:q1M),n+m=l.length->∃ h',QQ (l.drop n) (n:Nat) (Zh l n) h=some h':=by
  intro m
  induction m with
  | zero=>
   intro n h hn
   rw[List.drop_eq_nil_of_le om]
   exact⟨h,rfl⟩
  | succ m ih=>
   intro n h hn
   have hd:l.drop n=qX l n::l.drop (n+1):=by
    rw[List.drop_eq_getElem_cons om]
    unfold qX
    simp[List.getD,show n<l.length by omega]
   rw[hd]
   unfold QQ
   rw[hok n om]
   have:=ih (n+1) ⟨h.orders++(pN l n).orders,h.of++List.replicate (pN l n).orders.length (n:Int),h.events++[⟨(pN l n).tk,(pN l n).own⟩]⟩ om
   rw[hok.at (by omega:n<l.length)]at this
   exact this
 obtain⟨h',hh⟩:=key l.length 0 ⟨[],[],[]⟩ om
 refine⟨h',?_⟩
 unfold run
 rw[if_neg om]
 rw[List.drop_zero]at hh
 have hh:QQ l 0 zi ⟨[],[],[]⟩=some h':=hh
 rw[hh]
theorem qzk{l:List Ev}{e:Ev}(hl:l.length<20000)(hp:plan (Zh l l.length) e=none):run (l++[e])=.inr 300:=by
 cases hr:run (l++[e])with
 | inr x=>
  unfold run at hr
  rw[if_neg (by simp;omega)]at hr
  split at hr
  ·cases hr
  ·cases hr;rfl
 | inl h=>
  exfalso
  obtain⟨hok,_,_⟩:=qf1 hr
  have h1:=hok l.length (by simp)
  have e1:qX (l++[e]) l.length=e:=by unfold qX;simp[List.getD]
  have e2:Zh (l++[e]) l.length=Zh l l.length:=QZ fun k hk=>q7V hk
  rw[e1,e2,hp]at h1
  cases h1
structure q0k where
 L:List Ev
 Told:List Int
def yj:List Int->Int->List Int
 | [],b=>[b]
 | x::t,b=>if x > b then b::x::t else x::yj t b
def q2C(l:List Ev)(t:Tab)(told0:List Int):List Int->List qQ × List Int->List qQ × List Int
 | [],s=>s
 | b::r,s=>q2C l t told0 r (if b∈told0 then s else match(yS l t b).head? with
  | none=>s
  | some x=>(s.1++[x],yj s.2 b))
def q0j(s:q0k)(e:Ev)(r:RR):List qQ × List Int:=q2C (s.L++[e]) (YS r (s.L.length+1)) s.Told (Ql e) ([],s.Told)
def yU(s:q0k)(e:Ev):q0k × (List qQ ⊕ Int):=
 if s.L.length>=20000 then(s,.inr 2)else match QA (s.L++[e])with
 | .inr x=>(s,.inr x)
 | .inl r=>if mny (yh (s.L++[e])) 0 > 20000 then(s,.inr 2)else
  if(q0j s e r).2.length > 1000 then(s,.inr 2)else(⟨s.L++[e],(q0j s e r).2⟩,.inl (q0j s e r).1)
theorem Js:∀ (l:List Int) (b x:Int),x∈yj l b↔x=b\/x∈l
 | [],b,x=>by simp[yj]
 | y::t,b,x=>by
  unfold yj
  split
  ·simp
  ·rw[List.mem_cons,Js t b x,List.mem_cons]
   constructor
   ·rintro(h | h | h)
    ·exact .inr (.inl h)
    ·exact .inl h
    ·exact .inr (.inr h)
   ·rintro(h | h | h)
    ·exact .inr (.inl h)
    ·exact .inl h
    ·exact .inr (.inr h)
theorem q0w:∀ {l:List Int} {b:Int},l.Pairwise (· < ·)->b ∉ l->(yj l b).Pairwise (· < ·)
 | [],b,_,_=>by simp[yj]
 | y::t,b,h,hb=>by
  rw[List.pairwise_cons]at h
  simp only[List.mem_cons,not_or]at hb
  unfold yj
  split
  ·rename_i hy
   refine List.pairwise_cons.2 ⟨fun z hz=>?_,List.pairwise_cons.2 h⟩
   rcases List.mem_cons.1 hz with rfl | hz
   ·omega
   ·have:=h.1 z hz;omega
  ·refine List.pairwise_cons.2 ⟨fun z hz=>?_,q0w h.2 hb.2⟩
   rcases(Js t b z).1 hz with rfl | hz
   ·omega
   ·exact h.1 z hz
theorem Jq:∀ (l:List Int) (b:Int),(yj l b).length=l.length+1
 | [],b=>rfl
 | y::t,b=>by
  unfold yj
  split
  ·simp
  ·simp[Jq t b]
theorem q2R{l:List Ev}{t:Tab}{told0:List Int}:∀ (bs:List Int) (s:List qQ × List Int),bs.Nodup->s.2.Pairwise (· < ·)->(∀ b∈bs,b ∉ told0->b ∉ s.2)->
  (q2C l t told0 bs s).1=s.1++bs.filterMap (fun b=>if b∈told0 then none else(yS l t b).head?)/\(q2C l t told0 bs s).2.Pairwise (· < ·)/\
  (∀ b,b∈(q2C l t told0 bs s).2↔b∈s.2\/(b∈bs/\b ∉ told0/\(yS l t b).head?≠none))/\(q2C l t told0 bs s).2.length<=s.2.length+bs.length
 | [],s,_,hs,_=>by simp[q2C,hs]
 | x::r,s,hn,hs,hd=>by
  rw[List.nodup_cons]at hn
  unfold q2C
  by_cases hx:x∈told0
  ·rw[if_pos hx]
   obtain⟨k1,k2,k3,k4⟩:=q2R r s hn.2 hs (fun b hb=>hd b (by simp[hb]))
   refine⟨by rw[k1,List.filterMap_cons,if_pos hx],k2,fun b=>?_,by rw[List.length_cons];omega⟩
   rw[k3 b]
   constructor
   ·rintro(h | ⟨h1,h2⟩)
    ·exact .inl h
    ·exact .inr ⟨by simp[h1],h2⟩
   ·rintro(h | ⟨h1,h2⟩)
    ·exact .inl h
    ·rcases List.mem_cons.1 h1 with rfl | h1
     ·exact absurd hx h2.1
     ·exact .inr ⟨h1,h2⟩
  ·rw[if_neg hx]
   cases hr:(yS l t x).head? with
   | none=>
    obtain⟨k1,k2,k3,k4⟩:=q2R r s hn.2 hs (fun b hb=>hd b (by simp[hb]))
    simp only
    refine⟨by rw[k1,List.filterMap_cons,if_neg hx,hr],k2,fun b=>?_,by rw[List.length_cons];omega⟩
    rw[k3 b]
    constructor
    ·rintro(h | ⟨h1,h2⟩)
     ·exact .inl h
     ·exact .inr ⟨by simp[h1],h2⟩
    ·rintro(h | ⟨h1,h2⟩)
     ·exact .inl h
     ·rcases List.mem_cons.1 h1 with rfl | h1
      ·exact absurd hr h2.2
      ·exact .inr ⟨h1,h2⟩
   | some q=>
    simp only
    have hxs:x ∉ s.2:=hd x (by simp) hx
    obtain⟨k1,k2,k3,k4⟩:=q2R r (s.1++[q],yj s.2 x) hn.2 (q0w hs hxs) (fun b hb hb0=>by
     rw[Js]
     rintro(rfl | h)
     ·exact hn.1 hb
     ·exact hd b (by simp[hb]) hb0 h)
    refine⟨by rw[k1,List.filterMap_cons,if_neg hx,hr];simp,k2,fun b=>?_,by have:=Jq s.2 x;rw[List.length_cons];dsimp only at k4;omega⟩
    rw[k3 b,Js]
    constructor
    ·rintro((rfl | h) | ⟨h1,h2⟩)
     ·exact .inr ⟨by simp,hx,by rw[hr];simp⟩
     ·exact .inl h
     ·exact .inr ⟨by simp[h1],h2⟩
    ·rintro(h | ⟨h1,h2⟩)
     ·exact .inl (.inr h)
     ·rcases List.mem_cons.1 h1 with rfl | h1
      ·exact .inl (.inl rfl)
      ·exact .inr ⟨h1,h2⟩
def nz(c:vj):Int:=if c=qW then 0 else 1
def nzs:List vj->Int
 | []=>0
 | c::r=>nz c+nzs r
theorem qcB(l:List vj)(c:vj):nzs (l++[c])=nzs l+nz c:=by
 induction l with
 | nil=>simp[nzs]
 | cons x r ih=>simp only[List.cons_append,nzs,ih];omega
theorem qmm(l:List vj):0<=nzs l/\nzs l<=l.length:=by
 induction l with
 | nil=>simp[nzs]
 | cons x r ih=>
  simp only[nzs,List.length_cons]
  have:0<=nz x/\nz x<=1:=by unfold nz;split<;>omega
  omega
end Go.Fx.Mo
namespace Go.Fx.Tryz
open Go Go.Fx Go.Fx.Mo
open Go.Proofs
variable {w0 w:World} {H:qP} {K:KT}
set_option maxRecDepth 20000
theorem qsi(wq:World):(Instr.build 27 [].toArray).run P wq=.ok (.agg (qW.map qj).toArray) wq:=kr
theorem qDf:P.cellsOf 3=1:=kr
theorem vB{d i:Nat}{is:List Nat}{xs ys:Array Value}{x y:Int}{wq:World}(px:(part 3 xs i).run P wq=.ok (qj x) wq)(py:(part 3 ys i).run P wq=.ok (qj y) wq) :
  (Op.eqItems (d+1) 3 1 xs ys (i::is)).run P wq=if x=y then(Op.eqItems (d+1) 3 1 xs ys is).run P wq else .ok false wq:=by
 have h3:∀ x y,(Op.equalIn (d+1) 3 (.int .i64 x) (.int .i64 y)).run P wq=.ok (x==y) wq:=fun x y=>by simp[Op.equalIn,run_underlying Tryz.underlying3]
 simp only[Op.eqItems,Nat.mul_one,Sem.run_bind,px,py,Result.andThen_ok,h3]
 by_cases e:x=y
 ·simp[e]
 ·simp[e]
theorem qES(c:vj)(hc:c.length=8)(s t:Nat)(wq:World):(do eqGuard .neq 27 (.tmp s) (.tmp t) (.agg (c.map qj).toArray) (.agg (qW.map qj).toArray);binOp .neq 27 (.agg (c.map qj).toArray) (.agg (qW.map qj).toArray):Sem Value).run P wq=.ok (.bool (decide (c≠qW))) wq:=by
 have hm:∃ d,Op.maxDepth=d+2:=⟨_,rfl⟩
 obtain⟨d,hd⟩:=hm
 have he:(Op.equal 27 (.agg (c.map qj).toArray) (.agg (qW.map qj).toArray)).run P wq=.ok (decide (c=qW)) wq:=by
  unfold Op.equal
  rw[hd,run_equalIn_array wq (d+1) _ _ Tryz.underlying27 qxi,qDf]
  match c,hc with
  | [c0,c1,c2,c3,c4,c5,c6,c7],_=>
   have p0:(part 3 #[qj c0,qj c1,qj c2,qj c3,qj c4,qj c5,qj c6,qj c7] 0).run P wq=.ok (qj c0) wq:=kr
   have z0:(part 3 #[qj 0,qj 0,qj 0,qj 0,qj 0,qj 0,qj 0,qj 0] 0).run P wq=.ok (qj 0) wq:=kr
   have p1:(part 3 #[qj c0,qj c1,qj c2,qj c3,qj c4,qj c5,qj c6,qj c7] 1).run P wq=.ok (qj c1) wq:=kr
   have z1:(part 3 #[qj 0,qj 0,qj 0,qj 0,qj 0,qj 0,qj 0,qj 0] 1).run P wq=.ok (qj 0) wq:=kr
   have p2:(part 3 #[qj c0,qj c1,qj c2,qj c3,qj c4,qj c5,qj c6,qj c7] 2).run P wq=.ok (qj c2) wq:=kr
   have z2:(part 3 #[qj 0,qj 0,qj 0,qj 0,qj 0,qj 0,qj 0,qj 0] 2).run P wq=.ok (qj 0) wq:=kr
   have p3:(part 3 #[qj c0,qj c1,qj c2,qj c3,qj c4,qj c5,qj c6,qj c7] 3).run P wq=.ok (qj c3) wq:=kr
   have z3:(part 3 #[qj 0,qj 0,qj 0,qj 0,qj 0,qj 0,qj 0,qj 0] 3).run P wq=.ok (qj 0) wq:=kr
   have p4:(part 3 #[qj c0,qj c1,qj c2,qj c3,qj c4,qj c5,qj c6,qj c7] 4).run P wq=.ok (qj c4) wq:=kr
   have z4:(part 3 #[qj 0,qj 0,qj 0,qj 0,qj 0,qj 0,qj 0,qj 0] 4).run P wq=.ok (qj 0) wq:=kr
   have p5:(part 3 #[qj c0,qj c1,qj c2,qj c3,qj c4,qj c5,qj c6,qj c7] 5).run P wq=.ok (qj c5) wq:=kr
   have z5:(part 3 #[qj 0,qj 0,qj 0,qj 0,qj 0,qj 0,qj 0,qj 0] 5).run P wq=.ok (qj 0) wq:=kr
   have p6:(part 3 #[qj c0,qj c1,qj c2,qj c3,qj c4,qj c5,qj c6,qj c7] 6).run P wq=.ok (qj c6) wq:=kr
   have z6:(part 3 #[qj 0,qj 0,qj 0,qj 0,qj 0,qj 0,qj 0,qj 0] 6).run P wq=.ok (qj 0) wq:=kr
   have p7:(part 3 #[qj c0,qj c1,qj c2,qj c3,qj c4,qj c5,qj c6,qj c7] 7).run P wq=.ok (qj c7) wq:=kr
   have z7:(part 3 #[qj 0,qj 0,qj 0,qj 0,qj 0,qj 0,qj 0,qj 0] 7).run P wq=.ok (qj 0) wq:=kr
   have hz:qW=[0,0,0,0,0,0,0,0]:=rfl
   show(Op.eqItems (d+1) 3 1 #[qj c0,qj c1,qj c2,qj c3,qj c4,qj c5,qj c6,qj c7] #[qj 0,qj 0,qj 0,qj 0,qj 0,qj 0,qj 0,qj 0] [0,1,2,3,4,5,6,7]).run P wq=_
   rw[hz]
   rw[vB p0 z0]
   by_cases e0:c0=0
   case neg=>rw[if_neg e0,decide_eq_false (by simp[e0])]
   rw[if_pos e0]
   rw[vB p1 z1]
   by_cases e1:c1=0
   case neg=>rw[if_neg e1,decide_eq_false (by simp[e1])]
   rw[if_pos e1]
   rw[vB p2 z2]
   by_cases e2:c2=0
   case neg=>rw[if_neg e2,decide_eq_false (by simp[e2])]
   rw[if_pos e2]
   rw[vB p3 z3]
   by_cases e3:c3=0
   case neg=>rw[if_neg e3,decide_eq_false (by simp[e3])]
   rw[if_pos e3]
   rw[vB p4 z4]
   by_cases e4:c4=0
   case neg=>rw[if_neg e4,decide_eq_false (by simp[e4])]
   rw[if_pos e4]
   rw[vB p5 z5]
   by_cases e5:c5=0
   case neg=>rw[if_neg e5,decide_eq_false (by simp[e5])]
   rw[if_pos e5]
   rw[vB p6 z6]
   by_cases e6:c6=0
   case neg=>rw[if_neg e6,decide_eq_false (by simp[e6])]
   rw[if_pos e6]
   rw[vB p7 z7]
   by_cases e7:c7=0
   case neg=>rw[if_neg e7,decide_eq_false (by simp[e7])]
   rw[if_pos e7]
   simp[Op.eqItems,e0,e1,e2,e3,e4,e5,e6,e7]
 simp[eqGuard,binOp,he,Tryz.eqGuardType27]
theorem qxo{l:List vj}(h:∀ c∈l,c.length=8){i:Nat}(hi:i<l.length):((l.flatten.map qj).drop (i*8)).take 8=l[i].map qj:=by
 have:=yD (l:=l) (f:=fun c=>c.map qj) (n:=8) (fun x hx=>by rw[List.length_map];exact h x hx) hi
 rw[List.map_flatten]
 exact this
theorem q9N{m:Nat}{es:Array MapEntry}{clk:Nat}{wq:World}(hm:wq.heap[m]?=some (.map es clk)):(Builtin.len_ #[34] 3 [Value.map (some m)].toArray).run P wq=.ok (.int .i64 es.size) wq:=by
 simp[Builtin.len_,run_underlying jV,MapKept.run_getObj_map hm,goInt]
theorem qaU{m:Nat}{es:Array MapEntry}{clk:Nat}{wq:World}(hm:wq.heap[m]?=some (.map es clk)):(Builtin.len_ #[30] 3 [Value.map (some m)].toArray).run P wq=.ok (.int .i64 es.size) wq:=by
 simp[Builtin.len_,run_underlying q0m,MapKept.run_getObj_map hm,goInt]
theorem qKz:qn P 27=(qW.map qj).toArray:=kr
def clocksOf(d:VO):Int:=d.th.objs.length+nzs d.th.clocks
def qK9(w0:World)(X:qP)(D:DB)(m:Nat)(ee:ql)(w:World):Prop:=
 ∃ i:Nat,i<=8/\m=8-i/\ee=ql.mk 42 [(27,(Value.int .i64 i)),(4,(Value.int .i64 (D.d.th.objs.length+nzs (D.d.th.clocks.take i)))),(26,(Value.agg (D.d.th.clocks.flatten.map qj).toArray)),(2,(Value.int .i64 0)),(3,(Value.int .i64 0)),(0,ptr D.db)] []/\St w0 w X
theorem qzS{D:DB}(h:St w0 w (zg D++H))(hD:jz w0 D)(hn:D.d.th.objs.length<1000000000)
  (hK:∀ w',St w0 w' (zg D++H)->K (.tuple [qj (D.d.cells.length:Nat),qj (clocksOf D.d)].toArray) w'):qa P 8 [ptr D.db] w K:=by
 have hT:=hD.th
 have hlen:=yu (ob:=D.tob) (nb:=D.tnb) hT
 have hmem:(D.db,Cs (qU D.d.th D.tob D.tnb++zp D) 37)∈zg D++H:=List.mem_append_left _ (.head _)
 have hrest:∀ {w':World} (i:Nat),St w0 w' (zg D++H)->w'.cell? (Addr.mk D.db (90+i) none)=(zp D)[i]?:=fun i h'=>by
  rw[qv (h'.has _ _ hmem),List.getElem?_append_right om,hlen,show 90+i-90=i by omega]
 have hth:∀ {w':World} (i:Nat),i<90->St w0 w' (zg D++H)->w'.cell? (Addr.mk D.db i none)=(qU D.d.th D.tob D.tnb)[i]?:=fun i hi h'=>by
  rw[qv (h'.has _ _ hmem),List.getElem?_append_left om]
 have hfl:(D.d.th.clocks.flatten.map qj).length=64:=by
  have e8:∀ l:List vj,(∀ c∈l,c.length=8)->l.flatten.length=l.length*8:=by
   intro l
   induction l with
   | nil=>simp
   | cons x r ih=>
    intro hl
    rw[List.flatten_cons,List.length_append,hl x (by simp),ih (fun c hc=>hl c (by simp[hc])),List.length_cons]
    omega
  rw[List.length_map,e8 _ hT.each,hT.clocks]
 refine qDK _ _ _ ?_
 rw[qDT,qaE,qcA,Option.isNone_some,qd]
 refine⟨true,by rw[qc,Nat.zero_add];exact hrest 0 h,?_⟩
 rw[Bool.not_true,qbn,qd,qwK]
 have h88:(qU D.d.th D.tob D.tnb)[88]?=some (.map (some D.tob)):=by
  have hx:=hT.begun;have hy:=hT.ended;have hz:=hT.rels
  unfold qU
  rw[List.getElem?_append_right om,hfl,List.getElem?_append_right (by simp[hx]),List.getElem?_append_right (by simp[hx,hy]),List.getElem?_append_right (by simp[hx,hy,hz])]
  simp[hx,hy,hz]
 have hsz:D.es3.size=D.d.th.objs.length:=by
  have:=hD.m3.perm.length_eq
  simpa [yp]using this
 have hsz5:D.es5.size=D.d.cells.length:=by
  have:=hD.m5.perm.length_eq
  rw[hD.cells]
  simpa [zY,zI]using this
 have htob:(D.tob,Obj.map D.es3 D.c3)∈zg D++H:=List.mem_append_left _ (by simp[zg])
 have hcb:(D.cb,Obj.map D.es5 D.c5)∈zg D++H:=List.mem_append_left _ (by simp[zg])
 refine⟨some D.tob,by rw[qc,Nat.zero_add,hth 88 om h,h88],(D.es3.size:Nat),fun wq hq=>qaU (Jn hq (h.has _ _ htob)),?_⟩
 rw[qsk]
 refine jU (h.has _ _ hmem) (by rw[List.length_append,hlen];omega) ?_
 have e64:((qU D.d.th D.tob D.tnb++zp D).drop 0).take 64=D.d.th.clocks.flatten.map qj:=by
  rw[List.drop_zero]
  unfold qU
  rw[List.append_assoc,List.take_left' hfl]
 rw[e64,qxh,hsz]
 refine⟨qK9 w0 (zg D++H) D,⟨8,0,by omega,rfl,by simp[nzs],h⟩,?_⟩
 rintro m ee w1 ⟨i,hi,rfl,rfl,h1⟩
 show qv1 ..
 rw[qoT,qto,qg]
 have hnr:=qmm (D.d.th.clocks.take i)
 have htl:(D.d.th.clocks.take i).length<=8:=by rw[List.length_take,hT.clocks];omega
 constructor
 ·intro hlt
  have hlt:i<8:=by simp at hlt;omega
  have hil:i<D.d.th.clocks.length:=by rw[hT.clocks];exact hlt
  have hex:(D.d.th.clocks.flatten.map qj).toArray.extract (Int.toNat (i:Int)*8) (Int.toNat (i:Int)*8+8)=(D.d.th.clocks[i].map qj).toArray:=by
   rw[Int.toNat_natCast,List.extract_toArray,List.extract_eq_take_drop,show i*8+8-i*8=8 by omega,qxo hT.each hil]
  have hc8:D.d.th.clocks[i].length=8:=hT.each _ (List.getElem_mem hil)
  rw[qsT,hex,qKz]
  refine⟨by omega,by omega,h1.newC fun n w2 hn2 h2=>h2.stA (k:=0) rfl (by simp[hc8]) (by rw[List.toList_toArray,List.length_map];decide) (fun v hv=>?_) fun w3 h3=>?_⟩
  ·obtain⟨x,_,rfl⟩:=List.mem_map.1 (show v∈D.d.th.clocks[i].map qj by simpa using hv)
   rfl
  have h3:St w0 w3 ((n,Cs (qI (qW.map qj) 0 (D.d.th.clocks[i].map qj)) 27)::(zg D++H)):=h3
  rw[qB (by rw[List.length_map,List.length_map,hc8];rfl)]at h3
  refine h3.ldA (k:=0) (i:=0) rfl (by simp[hc8]) ?_
  rw[List.drop_zero,List.take_of_length_le (by simp[hc8])]
  refine⟨_,fun wq=>qsi wq,decide (D.d.th.clocks[i]≠qW),fun wq=>qES _ hc8 30 31 wq,?_⟩
  have hsn:nzs (D.d.th.clocks.take (i+1))=nzs (D.d.th.clocks.take i)+nz D.d.th.clocks[i]:=by
   rw[List.take_add_one,List.getElem?_eq_getElem hil]
   exact qcB _ _
  have nx:∀ x:Int,x=D.d.th.objs.length+nzs (D.d.th.clocks.take (i+1))->qid x (D.d.th.clocks.flatten.map qj).toArray 0 0 (some (Addr.mk D.db 0 none)) i w3 K (fun e' w'=>∃ m,m<8-i/\qK9 w0 (zg D++H) D m e' w'):=by
   intro x hx
   rw[qsY,hx]
   refine⟨8-(i+1),by omega,i+1,by omega,rfl,?_,h3.tail hn2⟩
   rw[qk om om];rfl
  rw[qg]
  refine⟨fun hb=>nx _ ?_,fun hb=>nx _ ?_⟩
  ·have hb:D.d.th.clocks[i]≠qW:=by simpa using hb
   have:nz D.d.th.clocks[i]=1:=if_neg hb
   rw[hsn,this,qk om om]
   omega
  ·have hb:D.d.th.clocks[i]=qW:=by simpa using hb
   have:nz D.d.th.clocks[i]=0:=if_pos hb
   rw[hsn,this]
   omega
 ·intro hge
  have:i=8:=by simp at hge;omega
  subst this
  have e8:D.d.th.clocks.take 8=D.d.th.clocks:=List.take_of_length_le (by rw[hT.clocks];omega)
  rw[e8,qmn]
  refine⟨some D.cb,by rw[qc,Nat.zero_add];exact hrest 2 h1,(D.es5.size:Nat),fun wq hq=>q9N (Jn hq (h1.has _ _ hcb)),?_⟩
  rw[hsz5]
  exact hK w1 h1
end Go.Fx.Tryz
namespace Go.Fx.Mo
structure DN (d:VO):Prop where
 cells:(d.cells.map (·.1)).Nodup
 told:(d.told.map (·.1)).Nodup
 yes:∀ p∈d.told,p.2=true
theorem q4Y{a:Qk}{tk rel:Int}{ts:List (Int × Bool)}:∀ {bs:List Int} {cs:List (Int × vl)},(cs.map (·.1)).Nodup->((yy a tk rel ts bs cs).map (·.1)).Nodup
 | [],_,h=>h
 | b::r,cs,h=>by
  unfold yy
  refine q4Y ?_
  split
  ·split
   ·exact jW h _ _
   ·exact h
  ·exact jW h _ _
theorem q4l:∀ (out:List qQ) (cs:List (Int × vl)) (ts:List (Int × Bool)),(cs.map (·.1)).Nodup->(ts.map (·.1)).Nodup->(∀ p∈ts,p.2=true)->
  ((yB out cs ts).1.map (·.1)).Nodup/\((yB out cs ts).2.map (·.1)).Nodup/\∀ p∈(yB out cs ts).2,p.2=true
 | [],cs,ts,h1,h2,h3=>⟨h1,h2,h3⟩
 | x::r,cs,ts,h1,h2,h3=>by
  unfold yB
  refine q4l r _ _ (jW h1 _ _) (jW h2 _ _) fun p hp=>?_
  rcases q81 hp with hp | hp
  ·exact h3 p hp
  ·exact hp
theorem DN.feed{d d':VO}{e:Ev}{x:List qQ ⊕ Int}(h:DN d)(hf:feed d e=(d',x)):DN d':=by
 cases x with
 | inr y=>rw[q55 hf];exact h
 | inl out=>
  obtain⟨p,_,_,_,_,rfl⟩:=q0T hf
  obtain⟨k1,k2,k3⟩:=q4l out (yy (jI d e) p.tk (zo d.th.rels e.th) d.told (if(zl e).2.2 then bytes e.a e.n else[]) d.cells) d.told (q4Y h.cells) h.told h.yes
  exact⟨k1,k2,k3⟩
theorem q3s{d:VO}(h:DN d)(b:Int):(qr d.told b).getD false=true↔b∈d.told.map (·.1):=by
 constructor
 ·intro hb
  cases hl:qr d.told b with
  | none=>rw[hl]at hb;cases hb
  | some v=>exact List.mem_map.2 ⟨_,vQ hl,rfl⟩
 ·intro hb
  cases hl:qr d.told b with
  | none=>
   obtain⟨p,hp,he⟩:=List.mem_map.1 hb
   exact absurd he (jQ.1 hl p hp)
  | some v=>
   have:=h.yes _ (vQ hl)
   simp only at this
   rw[this];rfl
theorem qro{d:VO}(b:Int):(qr d.cells b).isSome=true↔b∈d.cells.map (·.1):=by
 constructor
 ·intro hb
  obtain⟨v,hl⟩:=Option.isSome_iff_exists.1 hb
  exact List.mem_map.2 ⟨_,vQ hl,rfl⟩
 ·intro hb
  cases hl:qr d.cells b with
  | none=>
   obtain⟨p,hp,he⟩:=List.mem_map.1 hb
   exact absurd he (jQ.1 hl p hp)
  | some v=>rfl
structure FR (d:VO) (s:q0k):Prop where
 ok:Ok s.L s.L.length
 di:DI s.L s.L.length d
 dn:DN d
 told:s.Told.Pairwise (· < ·)
 mem:∀ b,b∈s.Told↔b∈d.told.map (·.1)
 at':∀ e∈s.L,0<=e.a/\e.a<4294967296
theorem FR.zero:FR Za ⟨[],[]⟩:=
 ⟨fun n hn=>absurd hn (Nat.not_lt_zero n),DI.zero [],⟨by simp[Za],by simp[Za],by simp[Za]⟩,by simp,by simp[Za],by simp⟩
theorem FR.racy{d:VO}{s:q0k}(h:FR d s):qxq (d.told.map (·.1))=s.Told:=by
 refine qvG ?_ h.told
 rw[List.perm_ext_iff_of_nodup h.dn.told (h.told.imp fun hh=>by omega)]
 exact fun b=>(h.mem b).symm
theorem FR.feed{d:VO}{s:q0k}(h:FR d s){e:Ev}(ha:0<=e.a/\e.a<4294967296)(hl:s.L.length<1000)(htot:Qz s.L s.L.length+Qb e<=1000) :
  ∃ d' s' x,feed d e=(d',x)/\yU s e=(s',x)/\FR d' s'/\((∃ out,x=.inl out/\s'.L=s.L++[e])\/(s'=s/\d'=d/\∃ y,x=.inr y)):=by
 have hap:∀ k,k<s.L.length->qX s.L k=qX (s.L++[e]) k:=fun k hk=>(q7V hk).symm
 have hlast:qX (s.L++[e]) s.L.length=e:=by unfold qX;simp[List.getD]
 have hm:=h.di.many
 cases hp:plan d.th e with
 | none=>
  refine⟨d,s,.inr 300,?_,?_,h,.inr ⟨rfl,rfl,_,rfl⟩⟩
  ·unfold Mo.feed
   rw[if_neg om,hp]
  ·have hb:run (s.L++[e])=.inr 300:=qzk om (by rw[<-h.di.th];exact hp)
   have hr:QA (s.L++[e])=.inr 300:=by
    rcases Vj (s.L++[e])with⟨x,h1,h2,_⟩ | ⟨hh,r,tk,h1,_⟩
    ·rw[hb]at h1
     cases h1
     exact h2
    ·rw[hb]at h1;cases h1
   unfold yU
   rw[if_neg om,hr]
 | some p=>
  have hlen:(s.L++[e]).length=s.L.length+1:=by simp
  have hok:Ok (s.L++[e]) (s.L.length+1):=by
   intro k hk
   by_cases hkn:k<s.L.length
   ·exact qBt hap h.ok k hkn
   ·have hkn:k=s.L.length:=by omega
    subst hkn
    have e2:Zh (s.L++[e]) s.L.length=Zh s.L s.L.length:=(QZ hap).symm
    unfold pN
    rw[hlast,e2,<-h.di.th,hp]
    rfl
  have hdi:=qDh hap h.di
  have ht1:Qz (s.L++[e]) (s.L.length+1)<=1000:=by
   unfold Qz
   rw[hlast,<-Yj hap]
   exact htot
  obtain⟨d',hf,hdi'⟩:=hdi.step hok om om ht1
  rw[hlast]at hf
  have hok':Ok (s.L++[e]) (s.L++[e]).length:=by rw[hlen];exact hok
  have ha':∀ x∈s.L++[e],0<=x.a/\x.a<4294967296:=fun x hx=>by
   rcases List.mem_append.1 hx with hx | hx
   ·exact h.at' x hx
   ·have:x=e:=by simpa using hx
    rw[this];exact ha
  obtain⟨hh,hrun⟩:=qxC hok' (by rw[hlen];omega)
  obtain⟨r,hr⟩:∃ r,QA (s.L++[e])=.inl r:=by
   rcases Vj (s.L++[e])with⟨x,h1,_⟩ | ⟨_,r,tk,_,h2,_⟩
   ·rw[hrun]at h1;cases h1
   ·exact⟨r,h2⟩
  have hracing:∀ b,yS (s.L++[e]) (YS r (s.L.length+1)) b=QT (s.L++[e]) b (s.L.length+1):=fun b=>by
   have:=qmP hrun hr b
   rw[hlen]at this
   exact this
  have hbs:Ql e=Ql (qX (s.L++[e]) s.L.length):=by rw[hlast]
  have hnd:(Ql e).Nodup:=by rw[hbs];exact q6v hok om
  have htold:∀ b,0<=b->b<4294967296->(b∈s.Told↔QT (s.L++[e]) b s.L.length≠[]):=fun b h0 h1=>by
   rw[h.mem b,<-q3s h.dn,hdi.told b h0 h1]
  obtain⟨k1,k2,k3,k4⟩:=q2R (l:=s.L++[e]) (t:=YS r (s.L.length+1)) (told0:=s.Told) (Ql e) ([],s.Told) hnd h.told (fun b _ hb=>hb)
  have hout:(q0j s e r).1=(Ql e).filterMap (q4t (s.L++[e]) s.L.length):=by
   unfold q0j
   rw[k1,List.nil_append]
   refine jw fun b hb=>?_
   obtain⟨h0,h1⟩:=ZW b hb
   rw[hracing b,jP]
   unfold q4t
   by_cases hc:b∈s.Told
   ·rw[if_pos hc,if_neg ((htold b h0 h1).1 hc)]
   ·have hc':QT (s.L++[e]) b s.L.length=[]:=by
     by_cases hx:QT (s.L++[e]) b s.L.length=[]
     ·exact hx
     ·exact absurd ((htold b h0 h1).2 hx) hc
    rw[if_neg hc,if_pos hc',hc',List.nil_append]
  have hfew:(q0j s e r).2.length<=1000:=by
   have h1:s.Told.length<=d.told.length:=by
    have:=List.Nodup.length_le_of_subset (h.told.imp fun {a b} hh=>show a≠b by omega) (fun b hb=>(h.mem b).1 hb)
    rwa [List.length_map]at this
   have h2:=h.di.tlen
   have h3:=q91 e
   unfold q0j
   dsimp only at k4
   omega
  have hpl:=q27 hok' ha'
  have hmany:¬ mny (yh (s.L++[e])) 0 > 20000:=by
   have:=hpl.2.1.many
   have:=qma hok' ha'
   rw[hlen]at this
   omega
  refine⟨d',⟨s.L++[e],(q0j s e r).2⟩,.inl ((Ql e).filterMap (q4t (s.L++[e]) s.L.length)),hf,?_,?_,.inl ⟨_,rfl,rfl⟩⟩
  ·unfold yU
   rw[if_neg om,hr]
   simp only
   rw[if_neg hmany,if_neg om,hout]
  ·have hdn:=h.dn.feed hf
   refine⟨hok',by rw[hlen];exact hdi',hdn,k2,fun b=>?_,ha'⟩
   show b∈(q2C _ _ _ _ _).2↔_
   rw[k3 b]
   dsimp only
   rw[<-q3s hdn]
   constructor
   ·rintro(hb | ⟨hb,hb0,hbr⟩)
    ·have hr1:=(q3s h.dn b).2 ((h.mem b).1 hb)
     obtain⟨h0,h1⟩:=h.di.tr b hr1
     rw[hdi'.told b h0 h1,jP]
     have:=(htold b h0 h1).1 hb
     simp[this]
    ·obtain⟨h0,h1⟩:=ZW b hb
     rw[hdi'.told b h0 h1]
     rw[hracing b]at hbr
     intro hn
     rw[hn]at hbr
     exact hbr rfl
   ·intro hb
    obtain⟨h0,h1⟩:=hdi'.tr b hb
    rw[hdi'.told b h0 h1]at hb
    by_cases hc:b∈s.Told
    ·exact .inl hc
    ·right
     have hc':QT (s.L++[e]) b s.L.length=[]:=by
      by_cases hx:QT (s.L++[e]) b s.L.length=[]
      ·exact hx
      ·exact absurd ((htold b h0 h1).2 hx) hc
     rw[jP,hc',List.nil_append]at hb
     refine⟨?_,hc,?_⟩
     ·obtain⟨q,hq⟩:=List.exists_mem_of_ne_nil _ hb
      obtain⟨i,_,hrc,_⟩:=Ve hq
      rw[hbs]
      exact(YG hok om h0 h1).2 hrc.2.1
     ·rw[hracing b,jP,hc',List.nil_append]
      cases hx:Yv (s.L++[e]) b s.L.length with
      | nil=>exact absurd hx hb
      | cons q t=>simp
theorem FR.bytes{d:VO}{s:q0k}(h:FR d s):(d.cells.length:Int)=mny (yh s.L) 0:=by
 obtain⟨_,p2,p3,p4⟩:=q27 h.ok h.at'
 have hp:(d.cells.map (·.1)).Perm (yA (yh s.L)):=by
  rw[List.perm_ext_iff_of_nodup h.dn.cells (p3.imp fun hh=>by omega)]
  intro b
  rw[p4 b,<-qro]
  constructor
  ·intro hb
   obtain⟨h0,h1⟩:=h.di.kr b hb
   exact⟨h0,h1,(h.di.key b h0 h1).1 hb⟩
  ·rintro⟨h0,h1,hk⟩
   exact(h.di.key b h0 h1).2 hk
 have:=hp.length_eq
 rw[List.length_map]at this
 rw[p2.many,this]
def RO(S:Ob->Prop)(r:RR):Prop:=(∀ o∈r.L,jG o=true->∃ k∈r.objs,o.obj=(zL r.objs k:Nat))/\∀ k,S k↔k∈r.objs/\∃ o∈r.L,jG o=true/\o.obj=(zL r.objs k:Nat)
theorem ZB{r:RR}{x k:Ob}(hk:k∈r.objs):k∈(come r x).objs/\zL (come r x).objs k=zL r.objs k:=by
 unfold come
 split
 ·refine⟨by simp[hk],?_⟩
  show(r.objs++[x]).idxOf k=_
  rw[List.idxOf_append,if_pos hk];rfl
 ·exact⟨hk,rfl⟩
theorem qrW(r:RR)(x:Ob):(come r x).L=r.L:=by unfold come;split<;>rfl
theorem RO.come{S:Ob->Prop}{r:RR}(h:RO S r)(x:Ob):RO S (come r x):=by
 have hmem:∀ k,k∈(Mo.come r x).objs->k∈r.objs\/(k=x/\zL (Mo.come r x).objs k=r.objs.length):=fun k hk=>by
  unfold Mo.come at hk ⊢
  split
  ·rename_i hl
   rw[if_pos hl]at hk
   rcases List.mem_append.1 hk with hk | hk
   ·exact .inl hk
   ·have hx:k=x:=by simpa using hk
    right
    refine⟨hx,?_⟩
    have hn:k ∉ r.objs:=fun hh=>by have:=Zo.2 hh;rw[hx]at this;omega
    show(r.objs++[x]).idxOf k=_
    rw[List.idxOf_append,if_neg hn,hx]
    simp
  ·rename_i hl
   rw[if_neg hl]at hk
   exact .inl hk
 refine⟨fun o ho hr=>?_,fun k=>?_⟩
 ·rw[qrW]at ho
  obtain⟨k,hk,he⟩:=h.1 o ho hr
  obtain⟨h1,h2⟩:=ZB (x:=x) hk
  exact⟨k,h1,by rw[h2];exact he⟩
 ·rw[h.2 k,qrW]
  constructor
  ·rintro⟨hk,o,ho,hr,he⟩
   obtain⟨h1,h2⟩:=ZB (x:=x) hk
   exact⟨h1,o,ho,hr,by rw[h2];exact he⟩
  ·rintro⟨hk,o,ho,hr,he⟩
   rcases hmem k hk with hk | ⟨_,h2⟩
   ·obtain⟨_,h2⟩:=ZB (x:=x) hk
    exact⟨hk,o,ho,hr,by rw[<-h2];exact he⟩
   ·exfalso
    obtain⟨k',hk',he'⟩:=h.1 o ho hr
    have:=Zo.2 hk'
    omega
theorem RO.put{S:Ob->Prop}{r r':RR}{o:vH}{i:Int}(h:RO S r)(hr:vE r o i=some r')(ho:jG o=false):RO S r':=by
 unfold vE at hr
 split at hr
 ·cases hr
 ·cases hr
  refine⟨fun q hq hk=>?_,fun k=>?_⟩
  ·rcases List.mem_append.1 hq with hq | hq
   ·exact h.1 q hq hk
   ·have:q=o:=by simpa using hq
    rw[this,ho]at hk;cases hk
  ·rw[h.2 k]
   constructor
   ·rintro⟨hk,q,hq,h1,h2⟩
    exact⟨hk,q,List.mem_append.2 (.inl hq),h1,h2⟩
   ·rintro⟨hk,q,hq,h1,h2⟩
    rcases List.mem_append.1 hq with hq | hq
    ·exact⟨hk,q,hq,h1,h2⟩
    ·have:q=o:=by simpa using hq
     rw[this,ho]at h1;cases h1
theorem RO.touch{S:Ob->Prop}{r r':RR}{k:Int}{e:Ev}{x:Ob}{i:Int}(h:RO S r)(hr:ya r k e x i=some r'):RO (fun c=>S c\/((k=2\/k=4)/\c=x)) r':=by
 unfold ya at hr
 split at hr
 ·cases hr
 ·have hc:=h.come x
  by_cases hk:k=2\/k=4
  ·have hx:=qcj r x
   have hxn:=q6B r x
   unfold vE at hr
   split at hr
   ·cases hr
   ·cases hr
    have hrk:jG ⟨k,e.th,0,(zL r.objs x:Nat)⟩=true:=by unfold jG;simpa using hk
    refine⟨fun q hq hq2=>?_,fun c=>?_⟩
    ·rcases List.mem_append.1 hq with hq | hq
     ·exact hc.1 q hq hq2
     ·have:q=⟨k,e.th,0,(zL r.objs x:Nat)⟩:=by simpa using hq
      subst this
      exact⟨x,hx,by rw[hxn]⟩
    ·constructor
     ·rintro(hS | ⟨_,rfl⟩)
      ·obtain⟨h1,q,hq,h2,h3⟩:=(hc.2 c).1 hS
       exact⟨h1,q,List.mem_append.2 (.inl hq),h2,h3⟩
      ·exact⟨hx,_,List.mem_append.2 (.inr (List.mem_singleton.2 rfl)),hrk,by rw[hxn]⟩
     ·rintro⟨h1,q,hq,h2,h3⟩
      rcases List.mem_append.1 hq with hq | hq
      ·exact .inl ((hc.2 c).2 ⟨h1,q,hq,h2,h3⟩)
      ·have:q=⟨k,e.th,0,(zL r.objs x:Nat)⟩:=by simpa using hq
       subst this
       simp only at h3
       refine .inr ⟨hk,qd7 hx ?_⟩
       show zL (Mo.come r x).objs c=zL (Mo.come r x).objs x
       have h3:((zL r.objs x:Nat):Int)=(zL (Mo.come r x).objs c:Nat):=h3
       rw[hxn];omega
  ·have:=hc.put hr (by unfold jG;simpa using hk)
   refine⟨this.1,fun c=>?_⟩
   rw[<-this.2 c]
   constructor
   ·rintro(hh | hh)
    ·exact hh
    ·exact absurd hh.1 hk
   ·exact .inl
theorem RO.touches{e:Ev}{i:Int}:∀ {l:List Ob} {S:Ob->Prop} {r r':RR},RO S r->zF e i l r=some r'->RO (fun c=>S c\/c∈l) r'
 | [],S,r,r',h,hr=>by
  cases hr
  exact⟨h.1,fun k=>by rw[<-h.2 k];simp⟩
 | x::t,S,r,r',h,hr=>by
  unfold zF at hr
  split at hr
  ·cases hr
  ·rename_i r2 h2
   have h3:=(h.touch h2).touches hr
   refine⟨h3.1,fun k=>?_⟩
   rw[<-h3.2 k]
   dsimp only
   rw[List.mem_cons]
   constructor
   ·rintro(h | h | h)
    ·exact .inl (.inl h)
    ·exact .inl (.inr ⟨.inr rfl,h⟩)
    ·exact .inr h
   ·rintro((h | h) | h)
    ·exact .inl h
    ·exact .inr (.inl h.2)
    ·exact .inr (.inr h)
def vV(e:Ev):List Ob:=if e.kind=4 then vJ e else if e.kind=15 then[(false,e.a)]else[]
theorem RO.with{S:Ob->Prop}{r r':RR}{e:Ev}{i:Int}(h:RO S r)(hr:jt r e i=some r'):RO (fun c=>S c\/c∈vV e) r':=by
 have none:RO S r'->vV e=[]->RO (fun c=>S c\/c∈vV e) r':=fun h he=>by
  rw[he]
  exact⟨h.1,fun k=>by rw[<-h.2 k];simp⟩
 unfold jt at hr
 split at hr
 ·cases hr
 ·split at hr
  ·rename_i hk
   have:vV e=vJ e:=by unfold vV;rw[if_pos hk]
   rw[this]
   exact h.touches hr
  ·rename_i k4
   split at hr
   ·rename_i k14
    refine none ?_ (by unfold vV;rw[if_neg k4,if_neg om])
    have:=h.touch hr
    refine⟨this.1,fun k=>?_⟩
    rw[<-this.2 k]
    simp
   ·split at hr
    ·rename_i k15
     have he:vV e=[(false,e.a)]:=by unfold vV;rw[if_neg k4,if_pos k15]
     have:=h.touch hr
     refine⟨this.1,fun k=>?_⟩
     rw[<-this.2 k,he]
     simp
    ·rename_i k15
     have he:vV e=[]:=by unfold vV;rw[if_neg k4,if_neg k15]
     split at hr
     ·exact none (h.put hr rfl) he
     ·split at hr
      ·exact none (h.put hr rfl) he
      ·exact none (h.put hr rfl) he
theorem q2u(T:Th)(e:Ev)(k:Int)(p:Pl)(x c:Ob):c∈(zK T e k p x).objs.map (·.1)↔c∈p.objs.map (·.1)\/((k=2\/k=4)/\c=x):=by
 have hq:(number T p x).2.objs=p.objs:=(Zt T p x).2.1
 have h1:(zK T e k p x).objs=if k=2\/k=4 then put p.objs x (zk (qL T (tick e (if k=3\/k=4 then acquire T (number T p x).2 x else(number T p x).2) ⟨k,0,0,(number T p x).1⟩) x) (tick e (if k=3\/k=4 then acquire T (number T p x).2 x else(number T p x).2) ⟨k,0,0,(number T p x).1⟩).own)else p.objs:=by
  unfold zK
  simp only
  split
  ·split
   ·show put (acquire T (number T p x).2 x).objs x _=_
    show put (number T p x).2.objs x _=_
    rw[hq]
   ·show put (number T p x).2.objs x _=_
    rw[hq]
  ·split
   ·exact hq
   ·exact hq
 rw[h1]
 split
 ·rename_i hk
  rw[q0V]
  constructor
  ·rintro(h | h)
   ·exact .inl h
   ·exact .inr ⟨hk,h⟩
  ·rintro(h | h)
   ·exact .inl h
   ·exact .inr h.2
 ·rename_i hk
  constructor
  ·exact .inl
  ·rintro(h | h)
   ·exact h
   ·exact absurd h.1 hk
theorem q41(T:Th)(e:Ev)(c:Ob):∀ (ws:List Ob) (p:Pl),c∈(ws.foldl (fun p x=>zK T e 4 p x) p).objs.map (·.1)↔c∈p.objs.map (·.1)\/c∈ws
 | [],p=>by simp
 | x::t,p=>by
  rw[List.foldl_cons,q41 T e c t,q2u,List.mem_cons]
  constructor
  ·rintro((h | h) | h)
   ·exact .inl h
   ·exact .inr (.inl h.2)
   ·exact .inr (.inr h)
  ·rintro(h | h | h)
   ·exact .inl (.inl h)
   ·exact .inl (.inr ⟨.inr rfl,h⟩)
   ·exact .inr h
theorem qnz{T:Th}{e:Ev}{p:Pl}(h:plan T e=some p)(c:Ob):c∈p.objs.map (·.1)↔c∈vV e:=by
 have hb:=Jl h
 obtain⟨_,rfl,_⟩:=Yc h
 unfold vV
 by_cases k4:e.kind=4
 ·rw[if_pos k4]
  have ha:act T e (yL T e)=(vJ e).foldl (fun p x=>zK T e 4 p x) (yL T e):=by
   unfold act
   rw[if_pos k4,q4x]
   exact Yo T e _ _ _
  rw[ha,q41]
  simp[yL]
 ·rw[if_neg k4]
  by_cases k15:e.kind=15
  ·rw[if_pos k15]
   have ha:act T e (yL T e)=zK T e 2 (yL T e) (false,e.a):=by
    unfold act
    rw[if_neg k4,if_neg om,if_neg om,if_neg om,if_pos k15]
    rfl
   rw[ha,q2u]
   simp[yL]
  ·rw[if_neg k15]
   have ho:(act T e (yL T e)).objs=[]:=by
    unfold act
    rw[if_neg k4]
    split
    ·unfold jk;split<;>rfl
    ·split
     ·unfold join;split<;>rfl
     ·split
      ·have:=(Zt T (yL T e) (false,e.a)).2.1
       show(number T (yL T e) (false,e.a)).2.objs=[]
       rw[this];rfl
      ·rfl
   rw[ho];simp
theorem YZ{K V:Type} [DecidableEq K]:∀ (u m:List (K × V)) (k:K),k∈(zf m u).map (·.1)↔k∈m.map (·.1)\/k∈u.map (·.1)
 | [],m,k=>by simp[zf]
 | p::r,m,k=>by
  rw[zf,YZ r,q0V,List.map_cons,List.mem_cons,or_assoc]
theorem Zv{K V:Type} [DecidableEq K]:∀ (u m:List (K × V)),(m.map (·.1)).Nodup->((zf m u).map (·.1)).Nodup
 | [],_,h=>h
 | p::r,m,h=>by
  rw[zf]
  exact Zv r _ (jW h _ _)
structure SZ (T:Th) (r:RR):Prop where
 b0:zb r.begun 0=true
 cl:∀ u,0<=u->u<8->(getC T.clocks u≠qW↔(0<u/\zb r.begun u=true)\/(u=0/\∃ o∈r.L,o.th=0))
 nd:(T.objs.map (·.1)).Nodup
 ro:RO (fun k=>k∈T.objs.map (·.1)) r
theorem SZ.zero:SZ zi rr0:=by
 refine⟨rfl,fun u h0 h8=>?_,by simp[zi],by simp[rr0],fun k=>by simp[zi,rr0]⟩
 have hz:getC zi.clocks u=qW:=by
  show(List.replicate 8 qW).getD u.toNat qW=qW
  simp only[List.getD,List.getElem?_replicate]
  split<;>rfl
 rw[hz]
 simp only[ne_eq,not_true,false_iff,not_or,not_and]
 refine⟨fun hp=>?_,fun _=>by simp[rr0]⟩
 obtain⟨k,hk⟩:∃ k:Nat,u=(k:Int)+1:=⟨(u-1).toNat,by omega⟩
 subst hk
 show ¬ (true::List.replicate 7 false).getD ((k:Int)+1).toNat false=true
 rw[show((k:Int)+1).toNat=k+1 by omega]
 simp only[List.getD,List.getElem?_cons_succ,List.getElem?_replicate]
 split<;>simp
theorem qyq{a b:Int}(h0:0<=a)(h1:0<=b)(h:a≠b):¬ a.toNat=b.toNat:=by omega
theorem q3T{c:vj}{t:Int}(h:1<=zo c t):c≠qW:=fun he=>by rw[he,qcg]at h;omega
theorem SZ.step{T:Th}{e:Ev}{i:Int}{r0 r:RR}{tk0 tk:List Int}{p:Pl}{B B':Int}(h:SZ T r0)(hs:SR T r0 tk0 B)(hT:ThB T B')(hB:B'+16<4611686018427387904)(hp:plan T e=some p)(hr:jt r0 e i=some r)(hE:EvR T e i r0 tk0 p r tk (B+16)):SZ (qG T e p) r:=by
 obtain⟨f1,f2,f3,f4⟩:=QN T e p
 have hb0:=Jl hp
 obtain⟨hrf,hpa,_⟩:=Yc hp
 have hfk:=(VL hb0).1
 rw[<-hpa]at hfk
 have hth:=hE.th
 have hbe:zb T.begun e.th=true:=by
  have:=VF T e
  rw[hrf]at this
  cases hh:zb T.begun e.th
  ·rw[hh]at this;simp at this
  ·rfl
 have hlen:=List.length_pos_iff.2 hE.ne
 have hlr:r.L.length=r0.L.length+p.orders.length:=by rw[hE.L];simp
 have hm:vG r.L r0.L.length∈p.orders:=by
  unfold vG
  rw[hE.L]
  simp only[List.getD,List.getElem?_append_right (Nat.le_refl _)]
  rw[List.getElem?_eq_getElem om]
  exact List.getElem_mem _
 have hmth:=hE.ths _ hm
 have hown:1<=zo p.own e.th:=by
  have h1:=(hE.own r0.L.length om).2 ⟨r0.L.length,by omega,.inl rfl,by unfold Jw;rw[hmth];simp⟩
  have h2:=hE.sr.vi.pos r0.L.length om
  rw[hmth]at h1
  omega
 have hown8:p.own.length=8:=(YA hp hT hB).own.1
 have hbeg:r.begun=if p.fork>=0 then T.begun.set p.fork.toNat true else T.begun:=hE.sr.begun.trans f1
 have hset:∀ (l:List Bool) (k:Nat) (u:Int),zb l u=true->zb (l.set k true) u=true:=fun l k u hu=>by
  unfold zb at hu ⊢
  simp only[List.getD_eq_getElem?_getD,List.getElem?_set]at hu ⊢
  split
  ·split
   ·rfl
   ·rename_i h1 h2
    rw[h1]at h2
    rw[List.getElem?_eq_none om]at hu
    cases hu
  ·exact hu
 have hmono:∀ u,zb T.begun u=true->zb r.begun u=true:=fun u hu=>by
  rw[hbeg]
  split
  ·exact hset _ _ _ hu
  ·exact hu
 have hi:e.th.toNat<T.clocks.length:=by rw[hs.cl8];omega
 have hfork:p.fork>=0->0<p.fork/\p.fork<8:=fun hf=>by
  rw[hfk]at hf ⊢
  by_cases k11:e.kind=11
  ·rw[if_pos k11]
   unfold q8p at hb0
   rw[if_pos k11]at hb0
   have h3:zx e=true/\zb T.begun e.n=false:=by cases h1:zx e<;>cases h2:zb T.begun e.n<;>simp[h1,h2]at hb0 ⊢
   have h4:0<=e.n/\e.n<8:=by have:=h3.1;unfold zx at this;simpa using this
   refine⟨?_,h4.2⟩
   by_cases hn:e.n=0
   ·have:=h.b0
    rw[hs.begun]at this
    rw[hn,this]at h3
    cases h3.2
   ·omega
  ·rw[if_neg k11]at hf;omega
 have hL:∀ u,u≠e.th->((∃ o∈r.L,o.th=u)↔∃ o∈r0.L,o.th=u):=fun u hu=>by
  rw[hE.L]
  constructor
  ·rintro⟨o,ho,he⟩
   rcases List.mem_append.1 ho with ho | ho
   ·exact⟨o,ho,he⟩
   ·exact absurd ((hE.ths o ho).symm.trans he).symm hu
  ·rintro⟨o,ho,he⟩
   exact⟨o,List.mem_append.2 (.inl ho),he⟩
 have hit:∀ u,0<=u->zb r.begun u=true->(u=0->∃ o∈r.L,o.th=0)->(0<u/\zb r.begun u=true)\/(u=0/\∃ o∈r.L,o.th=0):=fun u h0 h1 h2=>by
  by_cases hz:u=0
  ·exact .inr ⟨hz,h2 hz⟩
  ·exact .inl ⟨by omega,h1⟩
 have hg1:∀ u,getC (T.clocks.set e.th.toNat p.own) u=if u.toNat=e.th.toNat then p.own else getC T.clocks u:=fun u=>zP hi _ u
 have hmine:(0<e.th/\zb r.begun e.th=true)\/(e.th=0/\∃ o∈r.L,o.th=0):=
  hit e.th hth.1 (hmono _ hbe) fun hz=>⟨_,by rw[hE.L];exact List.mem_append.2 (.inr hm),by rw[hmth];exact hz⟩
 have hother:∀ u,0<=u->u<8->u≠e.th->(p.fork>=0->u≠p.fork)->(getC T.clocks u≠qW↔(0<u/\zb r.begun u=true)\/(u=0/\∃ o∈r.L,o.th=0)):=fun u h0 h8 hu hf=>by
  rw[h.cl u h0 h8,hs.begun]
  have hbu:zb r.begun u=zb T.begun u:=by
   rw[hbeg]
   split
   ·rename_i hfg
    have:=hf hfg
    unfold zb
    simp only[List.getD_eq_getElem?_getD,List.getElem?_set]
    rw[if_neg om]
   ·rfl
  rw[hbu]
  by_cases hz:u=0
  ·subst hz
   rw[hL 0 hu]
  ·simp[hz]
 clear hfk
 refine⟨hmono _ (by rw[<-hs.begun];exact h.b0),fun u h0 h8=>?_,?_,?_⟩
 ·rw[zz]
  by_cases hf:p.fork>=0
  ·obtain⟨g0,g8⟩:=hfork hf
   rw[if_pos hf,zP (by rw[List.length_set,hs.cl8];omega)]
   by_cases hu:u=p.fork
   ·rw[if_pos (by rw[hu])]
    have hfc:(getC (T.clocks.set e.th.toNat p.own) p.fork).length=8:=by
     rw[hg1]
     split
     ·exact hown8
     ·exact(hs.vi.cb p.fork om g8).1
    refine iff_of_true (q3T (t:=e.th) ?_) (.inl ⟨by omega,?_⟩)
    ·have:=qJh hfc hown8 e.th
     omega
    ·rw[hbeg,if_pos hf,hu]
     unfold zb
     have:=hs.bl
     simp only[List.getD_eq_getElem?_getD,List.getElem?_set]
     simp only[if_true]
     rw[if_pos om]
     rfl
   ·rw[if_neg om,hg1]
    by_cases hu2:u=e.th
    ·rw[if_pos (by rw[hu2])]
     refine iff_of_true (q3T hown) ?_
     rw[hu2]
     exact hmine
    ·rw[if_neg (qyq h0 hth.1 hu2)]
     exact hother u h0 h8 hu2 fun _=>hu
  ·rw[if_neg hf,hg1]
   by_cases hu2:u=e.th
   ·rw[if_pos (by rw[hu2])]
    refine iff_of_true (q3T hown) ?_
    rw[hu2]
    exact hmine
   ·rw[if_neg om]
    exact hother u h0 h8 hu2 fun hh=>absurd hh hf
 ·rw[f4]
  exact Zv _ _ h.nd
 ·have:=h.ro.with hr
  refine⟨this.1,fun k=>?_⟩
  rw[<-this.2 k]
  dsimp only
  rw[f4,YZ,qnz hp]
theorem qfi{l:List Ev}(hok:Ok l l.length)(hl:l.length<=20000):∀ (m n:Nat) (r0 r:RR) (tk:List Int),n+m=l.length->SR (Zh l n) r0 tk (16*n)->SZ (Zh l n) r0->yq (l.drop n) (n:Nat) r0=some r->SZ (Zh l l.length) r/\r.objs.Nodup
 | 0,n,r0,r,tk,hn,hs,h,hr=>by
  rw[List.drop_eq_nil_of_le om]at hr
  cases hr
  rw[show l.length=n by omega]
  exact⟨h,hs.nd⟩
 | m+1,n,r0,r,tk,hn,hs,h,hr=>by
  have hd:l.drop n=qX l n::l.drop (n+1):=by
   rw[List.drop_eq_getElem_cons om]
   unfold qX
   simp[List.getD,show n<l.length by omega]
  rw[hd]at hr
  unfold yq at hr
  split at hr
  ·cases hr
  ·rename_i r1 hr1
   have hp:=hok n om
   rcases Jt hs om (qX l n) (n:Nat)with⟨h1,_⟩ | ⟨p,r',tk',h1,h2,h3⟩
   ·rw[hp]at h1;cases h1
   ·rw[hp]at h1
    cases h1
    rw[hr1]at h2
    cases h2
    obtain⟨_,hT,_⟩:=YQ hok hl n om
    have hz:=h.step hs hT om hp hr1 h3
    rw[<-hok.at (by omega:n<l.length)]at hz
    have hs':=h3.sr
    rw[<-hok.at (by omega:n<l.length)]at hs'
    have e16:(16*((n+1:Nat):Int))=16*(n:Int)+16:=by omega
    exact qfi hok hl m (n+1) r1 r tk' om (by rw[e16];exact hs') hz (by rw[show((n+1:Nat):Int)=(n:Int)+1 by omega];exact hr)
def YV(L:List vH)(t:Int):Bool:=L.any fun o=>o.th==t
def Jy(L:List vH)(x:Int):Bool:=L.any fun o=>o.obj==x&&jG o
def VA(r:RR):Nat->Int
 | 0=>0
 | n+1=>VA r n+if(decide (n > 0)&&zb r.begun n)||(decide (n=0)&&YV r.L 0)then 1 else 0
def JB(r:RR):Nat->Int
 | 0=>0
 | n+1=>JB r n+if Jy r.L n then 1 else 0
def JI(r:RR):Int:=VA r 8+JB r r.objs.length
theorem SZ.thr{T:Th}{r:RR}(h:SZ T r)(h8:T.clocks.length=8):∀ n,n<=8->nzs (T.clocks.take n)=VA r n
 | 0,_=>rfl
 | n+1,hn=>by
  rw[List.take_succ_eq_append_getElem om,qcB,h.thr h8 n om,VA]
  congr 1
  have hc:=h.cl n om om
  have hg:getC T.clocks n=T.clocks[n]:=by
   unfold getC
   simp[List.getD,show n<T.clocks.length by omega]
  rw[hg]at hc
  unfold nz
  have hb:((decide (n > 0)&&zb r.begun n)||(decide (n=0)&&YV r.L 0))=true↔T.clocks[n]≠qW:=by
   rw[hc]
   unfold YV
   simp
  by_cases hz:T.clocks[n]=qW
  ·rw[if_pos hz,if_neg (fun hh=>hb.1 hh hz)]
  ·rw[if_neg hz,if_pos (hb.2 hz)]
theorem qAP{L:List vH}{x:Int}:Jy L x=true↔∃ o∈L,jG o=true/\o.obj=x:=by
 unfold Jy
 rw[List.any_eq_true]
 simp only[Bool.and_eq_true,beq_iff_eq]
 exact⟨fun⟨o,h1,h2,h3⟩=>⟨o,h1,h3,h2⟩,fun⟨o,h1,h2,h3⟩=>⟨o,h1,h3,h2⟩⟩
theorem qkL{r:RR}(hn:r.objs.Nodup):∀ n,n<=r.objs.length->JB r n=((r.objs.take n).filter fun k=>Jy r.L (zL r.objs k:Nat)).length
 | 0,_=>rfl
 | n+1,h=>by
  have hx:zL r.objs r.objs[n]=n:=hn.idxOf_getElem n om
  rw[JB,qkL hn n om,List.take_succ_eq_append_getElem om,List.filter_append,List.length_append]
  have:(List.filter (fun k=>Jy r.L (zL r.objs k:Nat)) [r.objs[n]]).length=if Jy r.L n then 1 else 0:=by
   simp only[List.filter_cons,List.filter_nil]
   rw[hx]
   split<;>rfl
  rw[this]
  split<;>simp
theorem SZ.obj{T:Th}{r:RR}(h:SZ T r)(hn:r.objs.Nodup):(T.objs.length:Int)=JB r r.objs.length:=by
 rw[qkL hn _ (Nat.le_refl _),List.take_length]
 have hp:(T.objs.map (·.1)).Perm (r.objs.filter fun k=>Jy r.L (zL r.objs k:Nat)):=by
  rw[List.perm_ext_iff_of_nodup h.nd (hn.filter _)]
  intro k
  have:=h.ro.2 k
  dsimp only at this
  rw[this,List.mem_filter,qAP]
 have:=hp.length_eq
 rw[List.length_map]at this
 omega
theorem qoP{l:List Ev}{r:RR}{d:VO}(hok:Ok l l.length)(hl:l.length<=20000)(hr:QA l=.inl r)(hd:d.th=Zh l l.length):Go.Fx.Tryz.clocksOf d=JI r:=by
 have hr':yq l 0 rr0=some r:=by
  unfold QA at hr
  rw[if_neg om]at hr
  split at hr
  ·cases hr
  ·rename_i r' hh
   cases hr
   exact hh
 obtain⟨hz,hnd⟩:=qfi hok hl l.length 0 rr0 r [] om SR0 SZ.zero (by rw[List.drop_zero];exact hr')
 obtain⟨⟨r2,tk,hs⟩,_,_⟩:=YQ hok hl l.length (Nat.le_refl _)
 have h8:=hs.cl8
 rw[<-hd]at hz h8
 unfold Go.Fx.Tryz.clocksOf JI
 have h1:=hz.thr h8 8 (Nat.le_refl 8)
 rw[List.take_of_length_le om]at h1
 rw[h1,hz.obj hnd]
 omega
end Go.Fx.Mo
