/- A part of the proof. -/
import Derived.Test.YtamciedmojpjaaaKeXh
import Derived.Test.YtamciedmojpjaaaKaXh
import Derived.KernelRfl
import Derived.Test.YtamciedmojpjaaaKcXh
import Derived.Test.YtamciedmojpjaaaRows
import Derived.Deep.Slices
import Derived.ProofKit
import Derived.OpenShut
import Derived.JoinedOf
import Derived.Carry
namespace Go.Fx.Mo
def pStep (ps:List Prt) (e:Ev):List Prt:=if acs e=true then
  merged (merged ps (w64 e.a,if 4294967296 < w64 (w64 e.a+e.n) then 4294967296 else w64 (w64 e.a+e.n))) (0,w64 (w64 (w64 e.a+e.n) - 4294967296)) else ps
def pFold:List Ev→List Prt→List Prt
 | [],ps=>ps
 | e::t,ps=>pFold t (pStep ps e)
def parts (l:List Ev):List Prt:=pFold l []
theorem pStep_len (ps:List Prt) (e:Ev):(pStep ps e).length≤ps.length+2:=by
 unfold pStep
 split
 ·have h1:=merged_len ps (w64 e.a,if 4294967296 < w64 (w64 e.a+e.n) then 4294967296 else w64 (w64 e.a+e.n))
  have h2:=merged_len (merged ps (w64 e.a,if 4294967296 < w64 (w64 e.a+e.n) then 4294967296 else w64 (w64 e.a+e.n))) (0,w64 (w64 (w64 e.a+e.n) - 4294967296))
  omega
 ·omega
def mny:List Prt→Int→Int
 | [],n=>n
 | p::t,n=>mny t (w64 (n+w64 (p.2 - p.1)))
def rangeB (p:Prt):List Int:=(List.range (p.2 - p.1).toNat).map fun k:Nat=>w32 (p.1+k)
def bytesOfP (ps:List Prt):List Int:=ps.flatMap rangeB
structure PartsOk (ps:List Prt):Prop where
 each:∀ p∈ps,0≤p.1∧p.1≤p.2∧p.2≤4294967296
 many:mny ps 0=((bytesOfP ps).length:Int)
def refBytes (l:List Ev):List Int ⊕ Int:=match rord l with
 | .inr x=>.inr x
 | .inl _=>if mny (parts l) 0 > 20000 then .inr 2 else .inl (bytesOfP (parts l))
end Go.Fx.Mo
namespace Go.Fx.Try
open Go Go.Fx Go.Fx.Mo
open Go.Proofs
variable {w0 w:World} {H Y:List (Nat × Obj)} {K:Value→World→Prop}
set_option maxRecDepth 20000
theorem rowcc {size:Nat} {ov:Value} {n:Nat} {xs:List Value} (h:Row w size ov n xs) {i j:Nat} (hi:i < n) (hj:j < size):∃ a c,ov=.slice (some a) n c∧w.cell? ((a.add (i * size)).add j)=xs[i * size+j]?:=by
 rcases h.2 with ⟨_,h0⟩ | ⟨a,c,h1,h2⟩
 ·omega
 ·refine ⟨a,c,h1,?_⟩
  have hle:i * size+size≤n * size:=by rw [← Nat.succ_mul]; exact Nat.mul_le_mul_right _ hi
  rw [add_add',h2 _ (by omega)]
theorem flat_cell {α:Type} {l:List α} {f:α→List Value} {n:Nat} (h:∀ x∈l,(f x).length=n) {i j:Nat} (hi:i < l.length) (hj:j < n):((l.map f).flatten)[i * n+j]?=(f l[i])[j]?:=by
 have h1:=flat_slice h hi
 rw [← h1,List.getElem?_take,if_pos hj,List.getElem?_drop]
theorem parts_ok {l:List Ev} {ov:Value} (h:St w0 w H) (hrow:∀ w',St w0 w' H→Row w' 6 ov l.length (evsCs l)) (hl:l.length≤20000)
  (hK:∀ w' a c Lo,SlO 2 173 (.slice a (parts l).length c) (parts l).length (prsCs (parts l)) Lo→New w0 Lo→(parts l).length≤40000→St w0 w' (Lo++H)→K (.slice a (parts l).length c) w'):CallL P 86 [ov] w K:=by
 obtain ⟨sa,sc,hov⟩:=(hrow w h).form
 rw [hov]
 refine f86_ok _ _ _ _ _ ?_
 rw [f86_eq,f86_s0_eq,f86_s1_eq]
 refine ⟨_,_,_,_,bs169 w,?_⟩
 have h2:=h.alloc (.cells #[] 173 (0,0))
 have hn:=h.le
 generalize w.heap.size=n at h2 hn
 have h2:St w0 (w.alloc (.cells #[] 173 (0,0))) ([(n,Cs [] 173)]++H):=h2
 rw [f86_s2_eq,f86_s3_eq]
 refine ⟨fun m ee w=>∃ (i:Nat) (ps:List Prt) (oa:Option Addr) (oc:Nat) (Lo:List (Nat × Obj)),i≤l.length∧m=l.length - i∧ee=Env.mk 44 [(4,I64 (i:Nat)),(3,.slice oa ps.length oc),(0,.slice sa l.length sc),(2,nilS)] []∧
   pFold (l.drop i) ps=parts l∧ps.length≤2 * i∧SlO 2 173 (.slice oa ps.length oc) ps.length (prsCs ps) Lo∧New w0 Lo∧St w0 w (Lo++H),
  ⟨l.length,0,[],_,_,_,by omega,rfl,rfl,rfl,by simp,slO_nil0 2 173 n,by simpa [New] using hn,h2⟩,?_⟩
 rintro m ee w4 ⟨i,ps,oa,oc,Lo,hi,rfl,rfl,hfin,hob,hS,hN,hw⟩
 show f86_lb4 _ _ _ _ _ _ _ _ _ _ _ _ _
 rw [f86_lb4_eq]
 refine ⟨l.length,fun wq _=>run_len_22 wq,?_⟩
 rw [BIf_iff]
 constructor
 ·intro hlt
  have hlt:i < l.length:=by simpa using hlt
  rw [f86_s5_eq]
  have hdrop:l.drop i=l[i]::l.drop (i+1):=List.drop_eq_getElem_cons hlt
  rw [hdrop,pFold] at hfin
  obtain ⟨a,c,hac,hld⟩:=(hrow w4 (hw.sub hN)).ldA hlt
  rw [hov] at hac
  obtain ⟨hsa,-⟩:sa=some a∧sc=c:=by simpa using hac
  subst hsa
  refine ⟨by omega,by omega,hld _ ?_⟩
  rw [evs_at hlt]
  have next:∀ w5 ps' oa oc Lo,pStep ps l[i]=ps'→SlO 2 173 (.slice oa ps'.length oc) ps'.length (prsCs ps') Lo→New w0 Lo→St w0 w5 (Lo++H)→
    f86_s6 oa ps'.length oc (some a) l.length sc none 0 0 (i:Nat) w5 K (fun e' w'=>∃ m,m < l.length - i∧∃ (i:Nat) (ps:List Prt) (oa:Option Addr) (oc:Nat) (Lo:List (Nat × Obj)),i≤l.length∧m=l.length - i∧e'=Env.mk 44 [(4,I64 (i:Nat)),(3,.slice oa ps.length oc),(0,.slice (some a) l.length sc),(2,nilS)] []∧
     pFold (l.drop i) ps=parts l∧ps.length≤2 * i∧SlO 2 173 (.slice oa ps.length oc) ps.length (prsCs ps) Lo∧New w0 Lo∧St w0 w' (Lo++H)):=by
   intro w5 ps' oa oc Lo hp hS' hN' h5
   rw [f86_s6_eq]
   refine ⟨l.length - (i+1),by omega,i+1,ps',oa,oc,Lo,by omega,rfl,?_,by rw [← hp]; exact hfin,?_,hS',hN',h5⟩
   ·rw [wrap_i64 (by omega) (by omega)]; rfl
   ·have:=pStep_len ps l[i]
    rw [hp] at this; omega
  refine acs_ok hw l[i] fun w5 h5=>⟨_,rfl,?_⟩
  cases ha:acs l[i]
  ·rw [BIf_false]
   exact next w5 ps oa oc Lo (by unfold pStep; rw [ha]; simp) hS hN h5
  ·rw [BIf_true]
   have rd:∀ {w':World} (j:Nat),St w0 w' (Lo++H)→j < 6→w'.cell? ((a.add (Int.toNat (i:Int) * 6)).add j)=(Evcs l[i])[j]?:=fun {w'} j h' hj=>by
    obtain ⟨a',c',hac',hc⟩:=rowcc (hrow w' (h'.sub hN)) hlt hj
    rw [hov] at hac'
    obtain ⟨rfl,-⟩:a=a'∧sc=c':=by simpa using hac'
    rw [Int.toNat_natCast,hc]
    exact flat_cell (f:=Evcs) (fun _ _=>rfl) hlt hj
   refine ⟨by omega,by omega,l[i].a,rd 3 h5 (by omega),by omega,by omega,l[i].n,rd 5 h5 (by omega),_,w5,run_min _ _ _,_,fun wq=>build173 _ _ wq,?_⟩
   refine merged_ok h5 hS hN (by omega) fun w6 a2 c2 L2 hS2 hN2 h6=>⟨a2,_,c2,rfl,_,fun wq=>build173 _ _ wq,?_⟩
   refine merged_ok h6 hS2 hN2 ?_ fun w7 a3 c3 L3 hS3 hN3 h7=>⟨a3,_,c3,rfl,?_⟩
   ·have:=merged_len ps (IntKind.wrap .i64 l[i].a,if (4294967296:Int) < IntKind.wrap .i64 (IntKind.wrap .i64 l[i].a+l[i].n) then 4294967296 else IntKind.wrap .i64 (IntKind.wrap .i64 l[i].a+l[i].n))
    omega
   ·exact next w7 _ a3 c3 L3 (by unfold pStep; rw [ha,if_pos rfl]; rfl) hS3 hN3 h7
 ·intro hge
  have hge:l.length≤i:=by simpa using hge
  have:i=l.length:=by omega
  subst this
  rw [List.drop_length,pFold] at hfin
  rw [f86_s7_eq]
  subst hfin
  exact hK w4 oa oc Lo hS hN (by omega) hw
theorem many_ok {ps:List Prt} {ov:Value} (h:St w0 w H) (hrow:∀ w',St w0 w' H→Row w' 2 ov ps.length (prsCs ps)) (hl:ps.length≤40000) (hK:∀ w',St w0 w' H→K (I64 (mny ps 0)) w'):CallL P 87 [ov] w K:=by
 obtain ⟨sa,sc,hov⟩:=(hrow w h).form
 rw [hov]
 refine f87_ok _ _ _ _ _ ?_
 rw [f87_eq]
 refine ⟨fun m ee w=>∃ (i:Nat) (s:Int),i≤ps.length∧m=ps.length - i∧ee=Env.mk 25 [(4,I64 (i:Nat)),(0,.slice sa ps.length sc),(3,I64 s),(2,I64 0)] []∧mny (ps.drop i) s=mny ps 0∧St w0 w H,
  ⟨ps.length,0,0,by omega,rfl,rfl,rfl,h⟩,?_⟩
 rintro m ee w4 ⟨i,s,hi,rfl,rfl,hfin,hw⟩
 show f87_lb0 _ _ _ _ _ _ _ _ _
 rw [f87_lb0_eq]
 refine ⟨ps.length,fun wq _=>run_len_169 wq,?_⟩
 rw [BIf_iff]
 constructor
 ·intro hlt
  have hlt:i < ps.length:=by simpa using hlt
  rw [f87_s1_eq]
  have hdrop:ps.drop i=ps[i]::ps.drop (i+1):=List.drop_eq_getElem_cons hlt
  rw [hdrop,mny] at hfin
  have hd:=hw.drew
  obtain ⟨a,c,hac,hc1⟩:=rowcc (hrow _ hd) hlt (j:=1) (by omega)
  rw [hov] at hac
  obtain ⟨hsa,-⟩:sa=some a∧sc=c:=by simpa using hac
  subst hsa
  obtain ⟨a',c',hac',hc0⟩:=rowcc (hrow _ hd) hlt (j:=0) (by omega)
  rw [hov] at hac'
  obtain ⟨rfl,-⟩:a=a'∧sc=c':=by simpa using hac'
  have e1:=flat_cell (l:=ps) (f:=Prcs) (n:=2) (fun _ _=>rfl) hlt (j:=1) (by omega)
  have e0:=flat_cell (l:=ps) (f:=Prcs) (n:=2) (fun _ _=>rfl) hlt (j:=0) (by omega)
  rw [show prsCs ps=(ps.map Prcs).flatten from rfl,e1] at hc1
  rw [show prsCs ps=(ps.map Prcs).flatten from rfl,e0,add_add',Nat.add_zero] at hc0
  refine ⟨by omega,by omega,by omega,by omega,ps[i].2,by rw [Int.toNat_natCast]; exact hc1,ps[i].1,by rw [Int.toNat_natCast]; exact hc0,?_⟩
  rw [f87_s2_eq]
  refine ⟨ps.length - (i+1),by omega,i+1,_,by omega,rfl,?_,hfin,hd⟩
  rw [wrap_i64 (by omega) (by omega)]; rfl
 ·intro hge
  have hge:ps.length≤i:=by simpa using hge
  have:i=ps.length:=by omega
  subst this
  rw [List.drop_length,mny] at hfin
  rw [f87_s3_eq,hfin]
  exact hK w4 hw
end Go.Fx.Try
namespace Go.Fx.Mo
def PVal (p:Prt):Prop:=0≤p.1∧p.1 < p.2∧p.2≤4294967296
structure PA (ps:List Prt):Prop where
 val:∀ p∈ps,PVal p
 ord:ps.Pairwise fun p q=>p.2 < q.1
def inP (ps:List Prt) (b:Int):Prop:=∃ p∈ps,p.1≤b∧b < p.2
theorem inP_app (ps qs:List Prt) (b:Int):inP (ps++qs) b↔inP ps b∨inP qs b:=by
 unfold inP
 constructor
 ·rintro ⟨p,hp,h⟩
  rcases List.mem_append.1 hp with hp | hp
  ·exact .inl ⟨p,hp,h⟩
  ·exact .inr ⟨p,hp,h⟩
 ·rintro (⟨p,hp,h⟩ | ⟨p,hp,h⟩)
  ·exact ⟨p,List.mem_append_left _ hp,h⟩
  ·exact ⟨p,List.mem_append_right _ hp,h⟩
theorem inP_cons (p:Prt) (qs:List Prt) (b:Int):inP (p::qs) b↔(p.1≤b∧b < p.2)∨inP qs b:=by
 have:=inP_app [p] qs b
 rw [List.singleton_append] at this
 rw [this]
 unfold inP
 simp
theorem inP_nil (b:Int):¬ inP [] b:=by rintro ⟨p,hp,_⟩; cases hp
theorem PA.app {ps qs:List Prt}:PA (ps++qs)↔PA ps∧PA qs∧∀ p∈ps,∀ q∈qs,p.2 < q.1:=by
 constructor
 ·rintro ⟨h1,h2⟩
  obtain ⟨a,b,c⟩:=List.pairwise_append.1 h2
  exact ⟨⟨fun p hp=>h1 p (List.mem_append_left _ hp),a⟩,⟨fun p hp=>h1 p (List.mem_append_right _ hp),b⟩,c⟩
 ·rintro ⟨⟨h1,h2⟩,⟨h3,h4⟩,h5⟩
  refine ⟨fun p hp=>?_,List.pairwise_append.2 ⟨h2,h4,h5⟩⟩
  rcases List.mem_append.1 hp with hp | hp
  ·exact h1 p hp
  ·exact h3 p hp
theorem PA.one {p:Prt} (h:PVal p):PA [p]:=⟨by simpa using h,by simp⟩
theorem PA.cons {p:Prt} {qs:List Prt}:PA (p::qs)↔PVal p∧PA qs∧∀ q∈qs,p.2 < q.1:=by
 have:=PA.app (ps:=[p]) (qs:=qs)
 rw [List.singleton_append] at this
 rw [this]
 constructor
 ·rintro ⟨h1,h2,h3⟩
  exact ⟨h1.val p (by simp),h2,fun q hq=>h3 p (by simp) q hq⟩
 ·rintro ⟨h1,h2,h3⟩
  refine ⟨PA.one h1,h2,fun r hr q hq=>?_⟩
  have:r=p:=by simpa using hr
  rw [this]
  exact h3 q hq
theorem mFold_done:∀ (l o:List Prt) (x:Prt),PVal x→(∀ q∈l,x.2 < q.1)→(∀ q∈l,PVal q)→mFold l (o,true,x)=(o++l,true,x)
 | [],o,x,_,_,_=>by simp [mFold]
 | p::t,o,x,hx,h1,h2=>by
  have hp:=h1 p (by simp)
  have hv:=h2 p (by simp)
  unfold PVal at hx hv
  have:mStep (o,true,x) p=(o++[p],true,x):=by
   unfold mStep
   dsimp only
   rw [if_neg (by omega),if_pos (by omega)]
   rfl
  unfold mFold
  rw [this,mFold_done t _ x hx (fun q hq=>h1 q (by simp [hq])) (fun q hq=>h2 q (by simp [hq]))]
  simp
def mEnd (s:List Prt × Bool × Prt):List Prt:=if s.2.1 then s.1 else s.1++[s.2.2]
theorem mFold_ok:∀ (l o:List Prt) (x:Prt),PA (o++l)→PVal x→(∀ p∈o,p.2 < x.1)→PA (mEnd (mFold l (o,false,x)))∧∀ b,inP (mEnd (mFold l (o,false,x))) b↔inP (o++l) b∨(x.1≤b∧b < x.2)
 | [],o,x,h,hx,ho=>by
  have e:mEnd (mFold [] (o,false,x))=o++[x]:=rfl
  rw [e,List.append_nil]
  rw [List.append_nil] at h
  refine ⟨PA.app.2 ⟨h,PA.one hx,fun p hp q hq=>?_⟩,fun b=>?_⟩
  ·have:q=x:=by simpa using hq
   rw [this]
   exact ho p hp
  ·rw [inP_app,inP_cons]
   have:=inP_nil b
   simp [this]
 | p::t,o,x,h,hx,ho=>by
  obtain ⟨a1,a2,a3⟩:=PA.app.1 h
  obtain ⟨c1,c2,c3⟩:=PA.cons.1 a2
  have hx':=hx
  have c1':=c1
  unfold PVal at hx' c1'
  by_cases h1:p.2 < x.1
  ·have e:mFold (p::t) (o,false,x)=mFold t (o++[p],false,x):=by
    show mFold t (mStep (o,false,x) p)=_
    unfold mStep
    rw [if_pos h1]
   have e2:o++p::t=(o++[p])++t:=by simp
   rw [e,e2]
   rw [e2] at h
   refine mFold_ok t (o++[p]) x h hx fun q hq=>?_
   rcases List.mem_append.1 hq with hq | hq
   ·exact ho q hq
   ·have:q=p:=by simpa using hq
    rw [this]; exact h1
  ·by_cases h2:p.1 > x.2
   ·have e:mFold (p::t) (o,false,x)=mFold t (o++[x]++[p],true,x):=by
     show mFold t (mStep (o,false,x) p)=_
     unfold mStep
     rw [if_neg h1,if_pos h2]
     rfl
    have e2:mEnd (mFold (p::t) (o,false,x))=o++(x::p::t):=by
     rw [e,mFold_done t _ x hx (fun q hq=>by have:=c3 q hq; omega) c2.val]
     unfold mEnd
     simp
    rw [e2]
    refine ⟨PA.app.2 ⟨a1,PA.cons.2 ⟨hx,a2,fun q hq=>?_⟩,fun r hr q hq=>?_⟩,fun b=>?_⟩
    ·rcases List.mem_cons.1 hq with rfl | hq
     ·omega
     ·have:=c3 q hq; omega
    ·rcases List.mem_cons.1 hq with rfl | hq
     ·exact ho r hr
     ·exact a3 r hr q hq
    ·rw [inP_app,inP_app,inP_cons x (p::t)]
     constructor
     ·rintro (hq | hq | hq)
      ·exact .inl (.inl hq)
      ·exact .inr hq
      ·exact .inl (.inr hq)
     ·rintro ((hq | hq) | hq)
      ·exact .inl hq
      ·exact .inr (.inr hq)
      ·exact .inr (.inl hq)
   ·have e:mFold (p::t) (o,false,x)=mFold t (o,false,(if p.1 < x.1 then p.1 else x.1,if x.2 < p.2 then p.2 else x.2)):=by
     show mFold t (mStep (o,false,x) p)=_
     unfold mStep
     rw [if_neg h1,if_neg h2]
    rw [e]
    have hnew:PVal (if p.1 < x.1 then p.1 else x.1,if x.2 < p.2 then p.2 else x.2):=by
     unfold PVal
     dsimp only
     split <;> split <;> omega
    obtain ⟨k1,k2⟩:=mFold_ok t o _ (PA.app.2 ⟨a1,c2,fun r hr q hq=>a3 r hr q (by simp [hq])⟩) hnew fun q hq=>by
     have q1:=ho q hq
     have q2:=a3 q hq p (by simp)
     dsimp only
     split <;> omega
    refine ⟨k1,fun b=>?_⟩
    rw [k2 b,inP_app,inP_app,inP_cons]
    have hb:((if p.1 < x.1 then p.1 else x.1)≤b∧b < (if x.2 < p.2 then p.2 else x.2))↔(p.1≤b∧b < p.2)∨(x.1≤b∧b < x.2):=by
     split <;> split <;> omega
    dsimp only
    rw [hb]
    constructor
    ·rintro ((hq | hq) | hq | hq)
     ·exact .inl (.inl hq)
     ·exact .inl (.inr (.inr hq))
     ·exact .inl (.inr (.inl hq))
     ·exact .inr hq
    ·rintro ((hq | hq | hq) | hq)
     ·exact .inl (.inl hq)
     ·exact .inr (.inl hq)
     ·exact .inl (.inr hq)
     ·exact .inr (.inr hq)
theorem merged_PA {ps:List Prt} {x:Prt} (h:PA ps) (h0:0≤x.1) (h1:x.2≤4294967296):PA (merged ps x)∧∀ b,inP (merged ps x) b↔inP ps b∨(x.1≤b∧b < x.2):=by
 unfold merged
 by_cases hx:x.1≥x.2
 ·rw [if_pos hx]
  refine ⟨h,fun b=>?_⟩
  constructor
  ·exact fun hq=>.inl hq
  ·rintro (hq | hq)
   ·exact hq
   ·omega
 ·rw [if_neg hx]
  have:=mFold_ok ps [] x h ⟨h0,by omega,h1⟩ (by simp)
  rw [List.nil_append] at this
  exact this
theorem pStep_PA {ps:List Prt} {e:Ev} (h:PA ps) (ha:0≤e.a∧e.a < 4294967296) (hn:acs e=true→0≤e.n∧e.n≤65536):PA (pStep ps e)∧∀ b,inP (pStep ps e) b↔inP ps b∨(0≤b∧b < 4294967296∧has e b=true):=by
 unfold pStep
 by_cases hac:acs e=true
 ·rw [if_pos hac]
  have hn:=hn hac
  rw [w64_small (x:=e.a) (by omega) (by omega),w64_small (x:=e.a+e.n) (by omega) (by omega),w64_small (x:=e.a+e.n - 4294967296) (by omega) (by omega)]
  obtain ⟨k1,k2⟩:=merged_PA (x:=(e.a,if 4294967296 < e.a+e.n then 4294967296 else e.a+e.n)) h ha.1 (by dsimp only; split <;> omega)
  obtain ⟨k3,k4⟩:=merged_PA (x:=(0,e.a+e.n - 4294967296)) k1 (Int.le_refl 0) (by dsimp only; omega)
  refine ⟨k3,fun b=>?_⟩
  rw [k4 b,k2 b,or_assoc]
  refine or_congr_right ?_
  dsimp only
  unfold has
  rw [hac,Bool.true_and,decide_eq_true_iff]
  have hr:0≤w32 (b - e.a)∧w32 (b - e.a) < 4294967296:=by rw [w32_is]; omega
  rw [w64_small (by omega) (by omega),w32_is]
  split <;> omega
 ·rw [if_neg hac]
  refine ⟨h,fun b=>?_⟩
  have:has e b=false:=by unfold has; simp [hac]
  rw [this]
  simp
theorem pFold_PA:∀ (l:List Ev) (ps:List Prt),PA ps→(∀ e∈l,0≤e.a∧e.a < 4294967296)→(∀ e∈l,acs e=true→0≤e.n∧e.n≤65536)→PA (pFold l ps)∧∀ b,inP (pFold l ps) b↔inP ps b∨(0≤b∧b < 4294967296∧∃ e∈l,has e b=true)
 | [],ps,h,_,_=>⟨h,fun b=>by simp [pFold]⟩
 | e::t,ps,h,ha,hn=>by
  obtain ⟨k1,k2⟩:=pStep_PA h (ha e (by simp)) (hn e (by simp))
  obtain ⟨k3,k4⟩:=pFold_PA t (pStep ps e) k1 (fun x hx=>ha x (by simp [hx])) (fun x hx=>hn x (by simp [hx]))
  refine ⟨k3,fun b=>?_⟩
  show inP (pFold t (pStep ps e)) b↔_
  rw [k4 b,k2 b]
  constructor
  ·rintro ((hq | ⟨h0,h1,hq⟩) | ⟨h0,h1,x,hx,hq⟩)
   ·exact .inl hq
   ·exact .inr ⟨h0,h1,e,by simp,hq⟩
   ·exact .inr ⟨h0,h1,x,by simp [hx],hq⟩
  ·rintro (hq | ⟨h0,h1,x,hx,hq⟩)
   ·exact .inl (.inl hq)
   ·rcases List.mem_cons.1 hx with rfl | hx
    ·exact .inl (.inr ⟨h0,h1,hq⟩)
    ·exact .inr ⟨h0,h1,x,hx,hq⟩
theorem mem_rangeB {p:Prt} (h:PVal p) (b:Int):b∈rangeB p↔p.1≤b∧b < p.2:=by
 unfold PVal at h
 unfold rangeB
 rw [List.mem_map]
 constructor
 ·rintro ⟨k,hk,rfl⟩
  have hk:k < (p.2 - p.1).toNat:=by simpa using hk
  rw [w32_is]
  omega
 ·intro hb
  refine ⟨(b - p.1).toNat,by simp; omega,?_⟩
  rw [w32_is]
  omega
theorem rangeB_sorted {p:Prt} (h:PVal p):(rangeB p).Pairwise (· < ·):=by
 unfold PVal at h
 unfold rangeB
 rw [List.pairwise_map]
 refine List.Pairwise.imp_of_mem ?_ List.pairwise_lt_range
 intro i j hi hj hij
 have hi:i < (p.2 - p.1).toNat:=by simpa using hi
 have hj:j < (p.2 - p.1).toNat:=by simpa using hj
 rw [w32_is,w32_is]
 omega
theorem bytesOfP_mem {ps:List Prt} (h:PA ps) (b:Int):b∈bytesOfP ps↔inP ps b:=by
 unfold bytesOfP inP
 rw [List.mem_flatMap]
 constructor
 ·rintro ⟨p,hp,hb⟩
  exact ⟨p,hp,(mem_rangeB (h.val p hp) b).1 hb⟩
 ·rintro ⟨p,hp,hb⟩
  exact ⟨p,hp,(mem_rangeB (h.val p hp) b).2 hb⟩
theorem bytesOfP_sorted {ps:List Prt} (h:PA ps):(bytesOfP ps).Pairwise (· < ·):=by
 unfold bytesOfP
 rw [List.pairwise_flatMap]
 refine ⟨fun p hp=>rangeB_sorted (h.val p hp),?_⟩
 refine List.Pairwise.imp_of_mem ?_ h.ord
 intro p q hp hq hpq x hx y hy
 have h1:=(mem_rangeB (h.val p hp) x).1 hx
 have h2:=(mem_rangeB (h.val q hq) y).1 hy
 omega
theorem mny_is:∀ (ps:List Prt) (n:Int),PA ps→0≤n→(∀ p∈ps,n≤p.1)→n≤4294967296→mny ps n=n+((bytesOfP ps).length:Int)
 | [],n,_,_,_,_=>by simp [mny,bytesOfP]
 | p::t,n,h,h0,h1,h2=>by
  obtain ⟨c1,c2,c3⟩:=PA.cons.1 h
  have hp:=h1 p (by simp)
  have c1':=c1
  unfold PVal at c1'
  unfold mny
  rw [w64_small (x:=p.2 - p.1) (by omega) (by omega),w64_small (by omega) (by omega),mny_is t _ c2 (by omega) (fun q hq=>by have:=c3 q hq; omega) (by omega)]
  have:(bytesOfP (p::t)).length=(p.2 - p.1).toNat+(bytesOfP t).length:=by simp [bytesOfP,rangeB]
  rw [this]
  omega
theorem parts_law {l:List Ev} (hok:Ok l l.length) (ha:∀ e∈l,0≤e.a∧e.a < 4294967296) :
  PA (parts l)∧PartsOk (parts l)∧(bytesOfP (parts l)).Pairwise (· < ·)∧∀ b,b∈bytesOfP (parts l)↔0≤b∧b < 4294967296∧∃ k,k < l.length∧has (evN l k) b=true:=by
 have hev:∀ e∈l,∃ k,k < l.length∧evN l k=e:=by
  intro e he
  obtain ⟨k,hk,rfl⟩:=List.getElem_of_mem he
  exact ⟨k,hk,by unfold evN; simp [List.getD,hk]⟩
 obtain ⟨k1,k2⟩:=pFold_PA l [] ⟨by simp,by simp⟩ ha (fun e he hac=>by
  obtain ⟨k,hk,rfl⟩:=hev e he
  exact bsN_n hok hk hac)
 have k1:PA (parts l):=k1
 refine ⟨k1,⟨fun p hp=>?_,?_⟩,bytesOfP_sorted k1,fun b=>?_⟩
 ·have:=k1.val p hp
  unfold PVal at this
  omega
 ·have:=mny_is (parts l) 0 k1 (Int.le_refl 0) (fun p hp=>(k1.val p hp).1) (by omega)
  omega
 ·rw [bytesOfP_mem k1]
  show inP (pFold l []) b↔_
  rw [k2 b]
  have:=inP_nil b
  simp only [this,false_or]
  refine and_congr_right fun _=>and_congr_right fun _=>?_
  constructor
  ·rintro ⟨e,he,hb⟩
   obtain ⟨k,hk,rfl⟩:=hev e he
   exact ⟨k,hk,hb⟩
  ·rintro ⟨k,hk,hb⟩
   refine ⟨evN l k,?_,hb⟩
   unfold evN
   simp only [List.getD,List.getElem?_eq_getElem hk]
   exact List.getElem_mem _
end Go.Fx.Mo
namespace Go.Fx.Try
open Go Go.Fx Go.Fx.Mo
open Go.Proofs
variable {w0 w:World} {H Y:List (Nat × Obj)} {K:Value→World→Prop}
set_option maxRecDepth 20000
theorem bs101 (w:World):(Instr.buildSlice 101 0 ([]:List (Nat × Value)).toArray).run P w=.ok (.slice (some ⟨w.heap.size,0,none⟩) 0 0) (w.alloc (.cells #[] 33 (0,0))):=by kernel_rfl
theorem info33:P.info? 33=some Try.t33:=by kernel_rfl
theorem rangeB_len (p:Prt):(rangeB p).length=(p.2 - p.1).toNat:=by simp [rangeB]
theorem rangeB_at {p:Prt} {k:Nat} (hk:k < (rangeB p).length):(rangeB p)[k]=w32 (p.1+k):=by simp [rangeB]
theorem bytesOfP_le {ps:List Prt} {i:Nat} (hi:i≤ps.length):(bytesOfP (ps.take i)).length≤(bytesOfP ps).length:=by
 have:bytesOfP ps=bytesOfP (ps.take i)++bytesOfP (ps.drop i):=by
  unfold bytesOfP
  rw [← List.flatMap_append,List.take_append_drop]
 rw [this]; simp
theorem bytesOfP_snoc {ps:List Prt} {i:Nat} (hi:i < ps.length):bytesOfP (ps.take (i+1))=bytesOfP (ps.take i)++rangeB ps[i]:=by
 rw [take_succ' _ hi]
 unfold bytesOfP
 rw [List.flatMap_append]
 simp
theorem bytesRef_ok {l:List Ev} {ov:Value} (h:St w0 w H) (hrow:∀ w',St w0 w' H→Row w' 6 ov l.length (evsCs l)) (hp:∀ r,rord l=.inl r→PartsOk (parts l))
  (herr:∀ x,refBytes l=.inr x→x≠0→∀ w',St w0 w' H→K (.tuple [nilS,I64 x].toArray) w')
  (hok:∀ o,refBytes l=.inl o→o.length≤20000→∀ w' a c Lo,SlO 1 33 (.slice a o.length c) o.length (o.map (.int .u32 ·)) Lo→New w0 Lo→St w0 w' (Lo++H)→K (.tuple [.slice a o.length c,I64 0].toArray) w') :
  CallL P 55 [ov] w K:=by
 obtain ⟨sa,sc,hov⟩:=(hrow w h).form
 rw [hov]
 refine f55_ok _ _ _ _ _ ?_
 rw [f55_eq,f55_s0_eq,f55_s1_eq,← hov]
 refine order_ok' h hrow (fun x hx hx0 w1 h1=>⟨_,rfl,x,by simp [errCs],?_⟩) fun r hr hl20 hbd w1 cs g1=>⟨_,rfl,0,?_,?_⟩
 ·rw [show (x != 0)=true by simpa using hx0,BIf_true]
  exact herr x (by unfold refBytes; rw [hx]) hx0 w1 h1
 ·obtain ⟨lv,vv,xv,LL,LO,LX,rfl,hri,hs⟩:=g1
  have:(runCs r 0 lv vv xv)[19]?=some (I64 0):=by
   show (flagCs r 0)[16]?=_
   unfold flagCs
   rw [List.getElem?_append_right (by simp [hri.bl]),List.getElem?_append_right (by simp [hri.bl,hri.el])]
   simp [hri.bl,hri.el]
  simpa using this
 ·rw [show ((0:Int) != 0)=false by decide,BIf_false,f55_s2_eq]
  try rw [← hov]
  have hpo:=hp r hr
  refine parts_ok g1.base hrow hl20 fun w2 pa pc Lp hS hN hpl h2=>⟨pa,_,pc,rfl,?_⟩
  rw [f55_s3_eq]
  refine many_ok h2 (fun w' h'=>hS.row fun y hy=>h'.has _ _ (by simp [hy])) hpl fun w3 h3=>⟨_,rfl,?_⟩
  rw [BIf_iff]
  constructor
  ·intro hgt
   have hgt:mny (parts l) 0 > 20000:=by simpa using hgt
   exact herr 2 (by unfold refBytes; rw [hr]; simp only [if_pos hgt]) (by decide) w3 (h3.sub hN)
  ·intro hle
   have hle:¬ mny (parts l) 0 > 20000:=by simpa using hle
   have hrb:refBytes l=.inl (bytesOfP (parts l)):=by unfold refBytes; rw [hr]; simp only [if_neg hle]
   have htot:(bytesOfP (parts l)).length≤20000:=by have:=hpo.many; omega
   rw [f55_s4_eq]
   refine ⟨_,_,_,_,bs101 w3,?_⟩
   have h4:=h3.alloc (.cells #[] 33 (0,0))
   have hn:=h3.le
   generalize w3.heap.size=n at h4 hn
   have h4:St w0 (w3.alloc (.cells #[] 33 (0,0))) ([(n,Cs [] 33)]++(Lp++H)):=h4
   rw [f55_s5_eq,f55_s6_eq]
   generalize hpe:parts l=ps at *
   refine ⟨fun m ee w=>∃ (i:Nat) (oa:Option Addr) (oc:Nat) (Lo:List (Nat × Obj)),i≤ps.length∧m=ps.length - i∧ee=Env.mk 47 [(6,.slice oa (bytesOfP (ps.take i)).length oc),(2,nilS),(3,I64 0),(7,I64 (i:Nat)),(5,.slice pa ps.length pc)] []∧
     SlO 1 33 (.slice oa (bytesOfP (ps.take i)).length oc) (bytesOfP (ps.take i)).length ((bytesOfP (ps.take i)).map (.int .u32 ·)) Lo∧New w0 Lo∧St w0 w (Lo++(Lp++H)),
    ⟨ps.length,0,_,_,_,by omega,rfl,rfl,slO_nil0 1 33 n,by simpa [New] using hn,h4⟩,?_⟩
   rintro m ee w4 ⟨i,oa,oc,Lo,hi,rfl,rfl,hS2,hN2,hw⟩
   show f55_lb7 _ _ _ _ _ _ _ _ _ _ _ _ _ _
   rw [f55_lb7_eq]
   refine ⟨ps.length,fun wq _=>run_len_169 wq,?_⟩
   rw [BIf_iff]
   constructor
   ·intro hlt
    have hlt:i < ps.length:=by simpa using hlt
    rw [f55_s8_eq]
    obtain ⟨hp0,hp1,hp2⟩:=hpo.each ps[i] (List.getElem_mem hlt)
    have hpr:∀ {w':World} {Z:List (Nat × Obj)},St w0 w' (Z++(Lp++H))→∀ j,j < 2→∃ a,pa=some a∧w'.cell? ((a.add (i * 2)).add j)=(Prcs ps[i])[j]?:=fun {w' Z} h' j hj=>by
     obtain ⟨a,c,hac,hc⟩:=rowcc (hS.row (w:=w') fun y hy=>h'.has _ _ (by simp [hy])) hlt hj
     obtain ⟨hsa,-⟩:pa=some a∧pc=c:=by simpa using hac
     refine ⟨a,hsa,?_⟩
     rw [hc]
     exact flat_cell (f:=Prcs) (fun _ _=>rfl) hlt hj
    obtain ⟨a,ha,hc0⟩:=hpr hw 0 (by omega)
    subst ha
    refine ⟨by omega,by omega,ps[i].1,?_,?_⟩
    ·rw [add_add',Nat.add_zero] at hc0
     rw [Int.toNat_natCast]; exact hc0
    rw [f55_s9_eq]
    generalize hY:(fun e' w'=>∃ m,m < ps.length - i∧∃ (i:Nat) (oa:Option Addr) (oc:Nat) (Lo:List (Nat × Obj)),i≤ps.length∧m=ps.length - i∧e'=Env.mk 47 [(6,.slice oa (bytesOfP (ps.take i)).length oc),(2,nilS),(3,I64 0),(7,I64 (i:Nat)),(5,.slice (some a) ps.length pc)] []∧
     SlO 1 33 (.slice oa (bytesOfP (ps.take i)).length oc) (bytesOfP (ps.take i)).length ((bytesOfP (ps.take i)).map (.int .u32 ·)) Lo∧New w0 Lo∧St w0 w' (Lo++(Lp++H)))=Y
    have hsn:=bytesOfP_snoc hlt
    have hle1:=bytesOfP_le (ps:=ps) (i:=i+1) (by omega)
    rw [hsn,List.length_append] at hle1
    refine ⟨fun m ee w=>∃ (k:Nat) (o:List Int) (oa:Option Addr) (oc:Nat) (Lo:List (Nat × Obj)),k≤(rangeB ps[i]).length∧m=(rangeB ps[i]).length - k∧o=bytesOfP (ps.take i)++(rangeB ps[i]).take k∧ee=Env.mk 47 [(8,I64 (ps[i].1+k)),(6,.slice oa o.length oc),(2,nilS),(3,I64 0),(5,.slice (some a) ps.length pc),(7,I64 (i:Nat))] []∧
      SlO 1 33 (.slice oa o.length oc) o.length (o.map (.int .u32 ·)) Lo∧New w0 Lo∧St w0 w (Lo++(Lp++H)),
     ⟨(rangeB ps[i]).length,0,bytesOfP (ps.take i),oa,oc,Lo,by omega,rfl,by simp,by simp,hS2,hN2,hw⟩,?_⟩
    rintro m ee w5 ⟨k,o,oa,oc,Lo,hk,rfl,ho,rfl,hS3,hN3,hw5⟩
    show f55_lb10 _ _ _ _ _ _ _ _ _ _ _ _ _ _ _ _
    rw [f55_lb10_eq]
    obtain ⟨a2,ha2,hc1⟩:=hpr hw5 1 (by omega)
    obtain rfl:a=a2:=by simpa using ha2
    have hrl:=rangeB_len ps[i]
    refine ⟨by omega,by omega,ps[i].2,by rw [Int.toNat_natCast]; exact hc1,?_⟩
    have hol:o.length=(bytesOfP (ps.take i)).length+k:=by rw [ho,List.length_append,List.length_take]; omega
    rw [BIf_iff]
    constructor
    ·intro hltk
     have hltk:ps[i].1+(k:Int) < ps[i].2:=by simpa using hltk
     have hk2:k < (rangeB ps[i]).length:=by omega
     rw [f55_s11_eq]
     refine ⟨⟨rfl,trivial⟩,?_⟩
     refine hw5.newC fun n85 w6 hn85 h6=>?_
     have h6:St w0 w6 ([(n85,Cs [.int .u32 (w32 (ps[i].1+k))] 33)]++(Lo++(Lp++H))):=h6
     obtain ⟨g,cap,w7,L',hru,hS',g7,hN'⟩:=St.append (P:=P) 101 101 33 Try.t33 (.int .u32 0) 1 4 Try.underlying101 info33 rfl rfl rfl rfl (by omega) h6 hS3 hN3 (j:=0) rfl rfl (by simp [Value.oneCell']) (by simp [maxLen]; omega) (by omega)
     refine ⟨_,_,_,w7,hru,?_⟩
     rw [f55_s12_eq]
     have e1:o.length+1=(o++[w32 (ps[i].1+k)]).length:=by simp
     rw [e1] at hS' ⊢
     refine ⟨(rangeB ps[i]).length - (k+1),by omega,k+1,o++[w32 (ps[i].1+k)],some ⟨g,0,none⟩,cap,L',by omega,rfl,?_,?_,?_,hN',St.tail (b:=n85) g7 hn85⟩
     ·rw [ho,List.append_assoc]
      congr 1
      rw [take_succ' _ hk2,rangeB_at]
     ·rw [wrap_i64 (by omega) (by omega)]
      rw [show ps[i].1+(k:Int)+1=ps[i].1+((k+1:Nat):Int) by omega]
     ·rw [List.map_append]
      exact hS'
    ·intro hge
     have hge:ps[i].2≤ps[i].1+(k:Int):=by simpa using hge
     have hkk:k=(rangeB ps[i]).length:=by omega
     rw [hkk,List.take_length,← hsn] at ho
     rw [f55_s13_eq,← hY]
     subst ho
     refine ⟨ps.length - (i+1),by omega,i+1,oa,oc,Lo,by omega,rfl,?_,hS3,hN3,hw5⟩
     rw [wrap_i64 (by omega) (by omega)]; rfl
   ·intro hge
    have hge:ps.length≤i:=by simpa using hge
    have:i=ps.length:=by omega
    subst this
    rw [List.take_length] at hS2 ⊢
    rw [f55_s14_eq]
    refine hok _ hrb htot w4 oa oc Lo hS2 hN2 ?_
    have h9:=hw.perm (H':=Lp++(Lo++H)) (perm_by fun f=>by simp only [List.map_append,List.sum_append]; omega)
    exact h9.sub hN
end Go.Fx.Try
namespace Go.Fx.Mo
def fF (l:List Ev) (t:Tab):List Int→List Race→List Race
 | [],o=>o
 | b::r,o=>fF l t r (o++(racing l t b).head?.toList)
def fBy (j:Int):List Race→List Race→List Race
 | [],o=>o
 | r::t,o=>fBy j t (if r.second.ev=j then o++[r] else o)
def fJ (f:List Race):Nat→Nat→List Race→List Race
 | 0,_,o=>o
 | m+1,j,o=>fJ f m (j+1) (fBy (j:Nat) f o)
def refRaces (l:List Ev):List Race ⊕ Int:=match refBytes l with
 | .inr x=>.inr x
 | .inl bs=>match rord l with
  | .inr x=>.inr x
  | .inl r=>if (fF l (tabOf r l.length) bs []).length > 1000 then .inr 2 else .inl (fJ (fF l (tabOf r l.length) bs []) l.length 0 [])
end Go.Fx.Mo
namespace Go.Fx.Try
open Go Go.Fx Go.Fx.Mo
open Go.Proofs
variable {w0 w:World} {H Y:List (Nat × Obj)} {K:Value→World→Prop}
set_option maxRecDepth 20000
theorem app_race {A Lo:List (Nat × Obj)} {oa:Option Addr} {oc nb:Nat} {out:List Mo.Race} {p:Mo.Race} {t:TypeId} (h:St w0 w (A++(Lo++H))) (hS:SlO 11 47 (.slice oa out.length oc) out.length (racesCs out) Lo) (hN:New w0 Lo) {j:Nat} (hj:A[j]?=some (nb,Cs (Racecs p) t)) (hb:out.length < 1000000000) :
  ∃ g cap w' L',(Builtin.append_ #[25,25] 25 [.slice oa out.length oc,.slice (some ⟨nb,0,none⟩) 1 1].toArray).run P w=.ok (.slice (some ⟨g,0,none⟩) (out++[p]).length cap) w'∧
   SlO 11 47 (.slice (some ⟨g,0,none⟩) (out++[p]).length cap) (out++[p]).length (racesCs (out++[p])) L'∧St w0 w' (A++(L'++H))∧New w0 L':=by
 rw [show (out++[p]).length=out.length+1 by simp,show racesCs (out++[p])=racesCs out++Racecs p by simp [racesCs]]
 exact St.append (P:=P) 25 25 47 Try.t47 (.agg #[.int .u32 0,I64 0,I64 0,.int .u32 0,.bool false,.bool false,I64 0,I64 0,.int .u32 0,.bool false,.bool false]) 11 56 Try.underlying25 info47 rfl rfl rfl rfl (by omega) h hS hN hj (Racecs_len _) (by simpa using Racecs_one p) (by simp [maxLen]; omega) (by omega)
theorem run_len_101' {p:Option Addr} {l c:Nat} (wq:World):(Builtin.len_ #[101] 3 [Value.slice p l c].toArray).run P wq=.ok (.int .i64 l) wq:=run_len_slice p l c Try.underlying101 3
theorem box_race (p:Mo.Race):(([Value.agg (Racecs p).toArray].map fun (v:Value)=>v.cells.toList).flatten)=Racecs p:=by simp [Value.cells]
theorem races_s11 {l:List Ev} {first:List Mo.Race} {fa la:Option Addr} {fc lc:Nat} {Lf:List (Nat × Obj)} (h:St w0 w (Lf++H)) (hF:SlO 11 47 (.slice fa first.length fc) first.length (racesCs first) Lf) (hFN:New w0 Lf) (hf:first.length≤1000) (hl:l.length≤20000)
  (hK:∀ w' a c Lo,SlO 11 47 (.slice a (fJ first l.length 0 []).length c) (fJ first l.length 0 []).length (racesCs (fJ first l.length 0 [])) Lo→New w0 Lo→(fJ first l.length 0 []).length≤20000000→St w0 w' (Lo++H)→K (.tuple [.slice a (fJ first l.length 0 []).length c,I64 0].toArray) w') :
  f31_s11 fa first.length fc none 0 0 0 la l.length lc w K:=by
 rw [f31_s11_eq]
 refine ⟨_,_,_,_,bs25' w,?_⟩
 have h2:=h.alloc (.cells #[] 47 (0,0))
 have hn:=h.le
 generalize w.heap.size=n at h2 hn
 have h2:St w0 (w.alloc (.cells #[] 47 (0,0))) ([(n,Cs [] 47)]++(Lf++H)):=h2
 rw [f31_s12_eq,f31_s13_eq]
 refine ⟨fun m ee w=>∃ (j:Nat) (o:List Mo.Race) (oa:Option Addr) (oc:Nat) (Lo:List (Nat × Obj)),j≤l.length∧m=l.length - j∧ee=Env.mk 78 [(7,.slice fa first.length fc),(10,.slice oa o.length oc),(11,I64 (j:Nat)),(2,nilS),(3,I64 0),(0,.slice la l.length lc)] []∧
   fJ first (l.length - j) j o=fJ first l.length 0 []∧o.length≤1000 * j∧SlO 11 47 (.slice oa o.length oc) o.length (racesCs o) Lo∧New w0 Lo∧St w0 w (Lo++(Lf++H)),
  ⟨l.length,0,[],_,_,_,by omega,rfl,rfl,rfl,by simp,slO_nil0 11 47 n,by simpa [New] using hn,h2⟩,?_⟩
 rintro m ee w4 ⟨j,o,oa,oc,Lo,hj,rfl,rfl,hfin,hob,hS,hN,hw⟩
 show f31_lb14 _ _ _ _ _ _ _ _ _ _ _ _ _ _ _ _ _
 rw [f31_lb14_eq]
 refine ⟨l.length,fun wq _=>run_len_22 wq,?_⟩
 rw [BIf_iff]
 constructor
 ·intro hlt
  have hlt:j < l.length:=by simpa using hlt
  rw [f31_s15_eq,f31_s16_eq]
  rw [show l.length - j=(l.length - (j+1))+1 by omega,fJ] at hfin
  generalize hY:(fun e' w'=>∃ m,m < l.length - j∧∃ (j:Nat) (o:List Mo.Race) (oa:Option Addr) (oc:Nat) (Lo:List (Nat × Obj)),j≤l.length∧m=l.length - j∧e'=Env.mk 78 [(7,.slice fa first.length fc),(10,.slice oa o.length oc),(11,I64 (j:Nat)),(2,nilS),(3,I64 0),(0,.slice la l.length lc)] []∧
   fJ first (l.length - j) j o=fJ first l.length 0 []∧o.length≤1000 * j∧SlO 11 47 (.slice oa o.length oc) o.length (racesCs o) Lo∧New w0 Lo∧St w0 w' (Lo++(Lf++H)))=Y
  refine ⟨fun m ee w=>∃ (i:Nat) (o':List Mo.Race) (oa:Option Addr) (oc:Nat) (Lo:List (Nat × Obj)),i≤first.length∧m=first.length - i∧ee=Env.mk 78 [(12,I64 (i:Nat)),(7,.slice fa first.length fc),(10,.slice oa o'.length oc),(11,I64 (j:Nat)),(2,nilS),(3,I64 0),(0,.slice la l.length lc)] []∧
    fBy (j:Nat) (first.drop i) o'=fBy (j:Nat) first o∧o'.length≤1000 * j+i∧SlO 11 47 (.slice oa o'.length oc) o'.length (racesCs o') Lo∧New w0 Lo∧St w0 w (Lo++(Lf++H)),
   ⟨first.length,0,o,oa,oc,Lo,by omega,rfl,rfl,rfl,hob,hS,hN,hw⟩,?_⟩
  rintro m ee w5 ⟨i,o',oa,oc,Lo,hi,rfl,rfl,hin,hob,hS,hN,hw⟩
  show f31_lb17 _ _ _ _ _ _ _ _ _ _ _ _ _ _ _ _ _ _ _
  rw [f31_lb17_eq]
  refine ⟨first.length,fun wq _=>run_len_25 wq,?_⟩
  rw [BIf_iff]
  constructor
  ·intro hil
   have hil:i < first.length:=by simpa using hil
   rw [f31_s18_eq]
   have hdrop:first.drop i=first[i]::first.drop (i+1):=List.drop_eq_getElem_cons hil
   rw [hdrop,fBy] at hin
   have hrw:∀ {w':World} {Z:List (Nat × Obj)},St w0 w' (Z++(Lf++H))→Row w' 11 (.slice fa first.length fc) first.length (racesCs first):=fun h'=>hF.row fun y hy=>h'.has _ _ (by simp [hy])
   obtain ⟨a,c,hac,hc⟩:=rowcc (hrw hw) hil (j:=6) (by omega)
   obtain ⟨hsa,-⟩:fa=some a∧fc=c:=by simpa using hac
   subst hsa
   have e6:(racesCs first)[i * 11+6]?=some (I64 first[i].second.ev):=by
    have:=flat_cell (f:=Racecs) (n:=11) (fun x _=>Racecs_len x) hil (j:=6) (by omega)
    rw [show racesCs first=(first.map Racecs).flatten from rfl,this]
    rfl
   rw [e6] at hc
   refine ⟨by omega,by omega,first[i].second.ev,by rw [Int.toNat_natCast]; exact hc,?_⟩
   have wr:IntKind.wrap .i64 ((i:Int)+1)=((i+1:Nat):Int):=by rw [wrap_i64 (by omega) (by omega)]; rfl
   rw [BIf_iff]
   constructor
   ·intro heq
    have heq:first[i].second.ev=(j:Int):=by simpa using heq
    rw [if_pos heq] at hin
    refine ⟨by omega,by omega,?_⟩
    obtain ⟨a',c',hac',hld⟩:=(hrw hw).ldA hil
    obtain ⟨rfl,-⟩:a=a'∧fc=c':=by simpa using hac'
    refine hld _ ?_
    rw [races_at hil]
    refine ⟨⟨rfl,trivial⟩,?_⟩
    refine hw.newC fun n166 w6 hn166 h6=>?_
    rw [box_race] at h6
    have h6:St w0 w6 ([(n166,Cs (Racecs first[i]) 47)]++(Lo++(Lf++H))):=h6
    obtain ⟨g,cap,w7,L',hru,hS',g7,hN'⟩:=app_race h6 hS hN (j:=0) rfl (by omega)
    refine ⟨_,_,_,w7,hru,?_⟩
    rw [f31_s19_eq,wr]
    exact ⟨first.length - (i+1),by omega,i+1,o'++[first[i]],some ⟨g,0,none⟩,cap,L',by omega,rfl,rfl,hin,by simp; omega,hS',hN',St.tail (b:=n166) g7 hn166⟩
   ·intro hne
    have hne:¬ first[i].second.ev=(j:Int):=by simpa using hne
    rw [if_neg hne] at hin
    rw [f31_s19_eq,wr]
    exact ⟨first.length - (i+1),by omega,i+1,o',oa,oc,Lo,by omega,rfl,rfl,hin,by omega,hS,hN,hw⟩
  ·intro hge
   have hge:first.length≤i:=by simpa using hge
   have:i=first.length:=by omega
   subst this
   rw [List.drop_length,fBy] at hin
   rw [f31_s20_eq,← hY]
   refine ⟨l.length - (j+1),by omega,j+1,o',oa,oc,Lo,by omega,rfl,?_,by rw [hin]; exact hfin,by omega,hS,hN,hw⟩
   rw [wrap_i64 (by omega) (by omega)]; rfl
 ·intro hge
  have hge:l.length≤j:=by simpa using hge
  have:j=l.length:=by omega
  subst this
  rw [Nat.sub_self,fJ] at hfin
  rw [f31_s21_eq]
  subst hfin
  have h9:=hw.perm (H':=Lf++(Lo++H)) (perm_by fun f=>by simp only [List.map_append,List.sum_append]; omega)
  exact hK w4 oa oc Lo hS hN (by omega) (h9.sub hFN)
theorem refRaces_ok {l:List Ev} {ov:Value} (h:St w0 w H) (hrow:∀ w',St w0 w' H→Row w' 6 ov l.length (evsCs l)) (hp:∀ r,rord l=.inl r→PartsOk (parts l))
  (herr:∀ x,refRaces l=.inr x→x≠0→∀ w',St w0 w' H→K (.tuple [nilS,I64 x].toArray) w')
  (hok:∀ o,refRaces l=.inl o→o.length≤20000000→∀ w' a c Lo,SlO 11 47 (.slice a o.length c) o.length (racesCs o) Lo→New w0 Lo→St w0 w' (Lo++H)→K (.tuple [.slice a o.length c,I64 0].toArray) w') :
  CallL P 31 [ov] w K:=by
 obtain ⟨sa,sc,hov⟩:=(hrow w h).form
 rw [hov]
 refine f31_ok _ _ _ _ _ ?_
 rw [f31_eq,f31_s0_eq,f31_s1_eq,← hov]
 refine bytesRef_ok h hrow hp (fun x hx hx0 w1 h1=>⟨none,0,0,x,rfl,?_⟩) fun bs hbs hbl w1 ba bc Lb hB hBN h1=>⟨ba,_,bc,0,rfl,?_⟩
 ·rw [f31_s2_eq,show (x != 0)=true by simpa using hx0,BIf_true]
  exact herr x (by unfold refRaces; rw [hx]) hx0 w1 h1
 ·rw [f31_s2_eq,show ((0:Int) != 0)=false by decide,BIf_false,f31_s3_eq]
  try rw [← hov]
  cases hr:rord l with
  | inr x=>
   exfalso
   unfold refBytes at hbs
   rw [hr] at hbs
   cases hbs
  | inl r=>
   have hl20:l.length≤20000:=by
    unfold rord at hr
    split at hr
    ·cases hr
    ·omega
   have hbsr:refRaces l=if (fF l (tabOf r l.length) bs []).length > 1000 then .inr 2 else .inl (fJ (fF l (tabOf r l.length) bs []) l.length 0 []):=by
    unfold refRaces
    rw [hbs]
    dsimp only
    rw [hr]
   refine table_ok h1 (fun w' h'=>hrow w' (h'.sub hBN)) hr fun w2 ta tc Lt hTN hT h2=>⟨ta,_,tc,rfl,?_⟩
   rw [f31_s4_eq]
   refine ⟨_,_,_,_,bs25' w2,?_⟩
   have h3:=h2.alloc (.cells #[] 47 (0,0))
   have hn:=h2.le
   generalize w2.heap.size=n at h3 hn
   have h3:St w0 (w2.alloc (.cells #[] 47 (0,0))) ([(n,Cs [] 47)]++(Lt++(Lb++H))):=h3
   rw [f31_s5_eq,f31_s6_eq]
   refine ⟨fun m ee w=>∃ (i:Nat) (o:List Mo.Race) (oa:Option Addr) (oc:Nat) (Lo:List (Nat × Obj)),i≤bs.length∧m=bs.length - i∧ee=Env.mk 78 [(8,I64 (i:Nat)),(7,.slice oa o.length oc),(4,.slice ba bs.length bc),(6,.slice ta l.length tc),(0,.slice sa l.length sc),(2,nilS),(3,I64 0)] []∧
     fF l (tabOf r l.length) (bs.drop i) o=fF l (tabOf r l.length) bs []∧o.length≤i∧SlO 11 47 (.slice oa o.length oc) o.length (racesCs o) Lo∧New w0 Lo∧St w0 w (Lo++(Lt++(Lb++H))),
    ⟨bs.length,0,[],_,_,_,by omega,rfl,rfl,rfl,by simp,slO_nil0 11 47 n,by simpa [New] using hn,h3⟩,?_⟩
   rintro m ee w4 ⟨i,o,oa,oc,Lo,hi,rfl,rfl,hfin,hob,hS,hN,hw⟩
   show f31_lb7 _ _ _ _ _ _ _ _ _ _ _ _ _ _ _ _ _ _ _ _
   rw [f31_lb7_eq]
   refine ⟨bs.length,fun wq _=>run_len_101' wq,?_⟩
   rw [BIf_iff]
   constructor
   ·intro hlt
    have hlt:i < bs.length:=by simpa using hlt
    rw [f31_s8_eq]
    have hdrop:bs.drop i=bs[i]::bs.drop (i+1):=List.drop_eq_getElem_cons hlt
    rw [hdrop,fF] at hfin
    obtain ⟨a,c,hac,hc⟩:=rowc (hB.row (w:=w4) fun y hy=>hw.has _ _ (by simp [hy])) hlt
    obtain ⟨hsa,-⟩:ba=some a∧bc=c:=by simpa using hac
    subst hsa
    refine ⟨by omega,by omega,bs[i],by rw [Int.toNat_natCast,hc]; simp [hlt],?_⟩
    rw [← hov]
    refine racing_ok (t:=tabOf r l.length) hw (fun w' h'=>hrow w' (((h'.sub hN).sub hTN).sub hBN)) (fun w' h'=>hT w' fun x hx=>h'.has _ _ (by simp [hx])) hl20 fun w5 xa xc Lx hX hXN hxl h5=>⟨xa,_,xc,rfl,_,fun wq _=>run_len_25 wq,?_⟩
    have wr:IntKind.wrap .i64 ((i:Int)+1)=((i+1:Nat):Int):=by rw [wrap_i64 (by omega) (by omega)]; rfl
    rw [BIf_iff]
    constructor
    ·intro hpos
     have hpos:0 < (racing l (tabOf r l.length) bs[i]).length:=by simpa using hpos
     obtain ⟨g,cc,hg,hld⟩:=slO_ldA hX (w:=w5) (i:=0) (fun y hy=>h5.has _ _ (by simp [hy])) hpos
     obtain ⟨hsa,-⟩:xa=some ⟨g,0,none⟩∧xc=cc:=by simpa using hg
     subst hsa
     refine ⟨by omega,by omega,hld _ ?_⟩
     rw [races_at hpos]
     refine ⟨⟨rfl,trivial⟩,?_⟩
     refine h5.newC fun n86 w6 hn86 h6=>?_
     rw [box_race] at h6
     have h6:St w0 w6 ([(n86,Cs (Racecs (racing l (tabOf r l.length) bs[i])[0]) 47)]++(Lo++(Lx++(Lt++(Lb++H))))):=h6.perm (perm_by fun f=>by
      simp only [List.map_append,List.map_cons,List.map_nil,List.sum_append,List.sum_cons,List.sum_nil]; omega)
     obtain ⟨g2,cap,w7,L',hru,hS',g7,hN'⟩:=app_race h6 hS hN (j:=0) rfl (by omega)
     refine ⟨_,_,_,w7,hru,?_⟩
     rw [f31_s9_eq,wr,hov]
     have hh:(racing l (tabOf r l.length) bs[i]).head?.toList=[(racing l (tabOf r l.length) bs[i])[0]]:=by
      rw [List.head?_eq_getElem?,List.getElem?_eq_getElem hpos]; rfl
     rw [hh] at hfin
     have g8:St w0 w7 (Lx++(L'++(Lt++(Lb++H)))):=(St.tail (b:=n86) g7 hn86).perm (perm_by fun f=>by simp only [List.append_eq,List.nil_append,List.map_append,List.sum_append]; omega)
     exact ⟨bs.length - (i+1),by omega,i+1,o++[(racing l (tabOf r l.length) bs[i])[0]],some ⟨g2,0,none⟩,cap,L',by omega,rfl,rfl,hfin,by simp; omega,hS',hN',g8.sub hXN⟩
    ·intro hz
     have hz:(racing l (tabOf r l.length) bs[i]).length=0:=by simp at hz; simp [hz]
     have hh:(racing l (tabOf r l.length) bs[i]).head?.toList=[]:=by
      rw [List.eq_nil_of_length_eq_zero hz]; rfl
     rw [hh,List.append_nil] at hfin
     rw [f31_s9_eq,wr,hov]
     exact ⟨bs.length - (i+1),by omega,i+1,o,oa,oc,Lo,by omega,rfl,rfl,hfin,by omega,hS,hN,h5.sub hXN⟩
   ·intro hge
    have hge:bs.length≤i:=by simpa using hge
    have:i=bs.length:=by omega
    subst this
    rw [List.drop_length,fF] at hfin
    rw [f31_s10_eq]
    refine ⟨_,fun wq _=>run_len_25 wq,?_⟩
    have h8:St w0 w4 (Lo++H):=by
     have h9:=hw.perm (H':=Lt++(Lb++(Lo++H))) (perm_by fun f=>by simp only [List.map_append,List.sum_append]; omega)
     exact (h9.sub hTN).sub hBN
    rw [← hfin] at hbsr
    rw [BIf_iff]
    constructor
    ·intro hgt
     have hgt:o.length > 1000:=by simp at hgt; omega
     rw [if_pos hgt] at hbsr
     exact herr 2 hbsr (by decide) w4 (h8.sub hN)
    ·intro hle
     have hle:¬ o.length > 1000:=by simp at hle; omega
     rw [if_neg hle] at hbsr
     exact races_s11 h8 hS hN (by omega) hl20 fun w5 a c L hS' hN' hlen h5=>hok _ hbsr hlen w5 a c L hS' hN' h5
end Go.Fx.Try
namespace Go.Fx.Mo
theorem fF_is {l:List Ev} {h:Hist} {r:RR} (hr:run l=.inl h) (hrr:rord l=.inl r):∀ (bs:List Int) (o:List Race),fF l (tabOf r l.length) bs o=o++bs.filterMap fun b=>(racR l b l.length).head?
 | [],o=>by simp [fF]
 | b::t,o=>by
  unfold fF
  rw [fF_is hr hrr t,racing_is hr hrr b,List.filterMap_cons]
  cases (racR l b l.length).head? <;> simp
theorem fBy_is (j:Int):∀ (f o:List Race),fBy j f o=o++f.filter fun r=>decide (r.second.ev=j)
 | [],o=>by simp [fBy]
 | r::t,o=>by
  unfold fBy
  rw [fBy_is j t,List.filter_cons]
  by_cases h:r.second.ev=j
  ·rw [if_pos h,decide_eq_true h]; simp
  ·rw [if_neg h,decide_eq_false h]; simp
theorem fJ_is (f:List Race):∀ (m j:Nat) (o:List Race),fJ f m j o=o++(List.range' j m).flatMap fun j:Nat=>f.filter fun r=>decide (r.second.ev=(j:Int))
 | 0,j,o=>by simp [fJ]
 | m+1,j,o=>by
  unfold fJ
  rw [fJ_is f m (j+1),fBy_is,List.range'_succ,List.flatMap_cons]
  simp
def raceLt (a b:Race):Prop:=a.second.ev < b.second.ev∨a.second.ev=b.second.ev∧a.byte < b.byte
theorem totN_len (l:List Ev):∀ n,((List.range n).flatMap fun k=>bsN (evN l k)).length=totN l n
 | 0=>rfl
 | n+1=>by
  rw [List.range_succ,List.flatMap_append,List.length_append,totN_len l n,totN]
  simp [bsN_len]
theorem racR_mem {l:List Ev} {b:Int} {n:Nat} {r:Race} (h:r∈racR l b n):∃ i j,i < j∧j < n∧Rc l b i j∧r=⟨b,accO (evN l i) i,accO (evN l j) j⟩:=by
 unfold racR at h
 obtain ⟨j,hj,hr⟩:=List.mem_flatMap.1 h
 obtain ⟨i,hi,hrc,he⟩:=rowR_mem hr
 exact ⟨i,j,hi,by simpa using hj,hrc,he⟩
theorem bytes_few {l:List Ev} (hok:Ok l l.length) (ha:∀ e∈l,0≤e.a∧e.a < 4294967296):(bytesOfP (parts l)).length≤totN l l.length:=by
 obtain ⟨_,_,h3,h4⟩:=parts_law hok ha
 rw [← totN_len]
 refine List.Nodup.length_le_of_subset ?_ ?_
 ·exact h3.imp fun hh=>by omega
 ·intro b hb
  obtain ⟨h0,h1,k,hk,hh⟩:=(h4 b).1 hb
  exact List.mem_flatMap.2 ⟨k,by simpa using hk,(mem_bsN hok hk h0 h1).2 hh⟩
theorem races_ref {l:List Ev} (ha:∀ e∈l,0≤e.a∧e.a < 4294967296) (htot:run l=.inr 300∨totN l l.length≤1000):races l=refRaces l:=by
 unfold races refRaces refBytes
 rcases run_rord l with ⟨x,h1,h2,_⟩ | ⟨h,r,tk,h1,h2,_⟩
 ·rw [h1,h2]
 ·have htot:totN l l.length≤1000:=by
   rcases htot with h3 | h3
   ·rw [h1] at h3; cases h3
   ·exact h3
  rw [h1,h2]
  simp only
  obtain ⟨hok,hl,_⟩:=run_Ok h1
  obtain ⟨p1,p2,p3,p4⟩:=parts_law hok ha
  have hfew:=bytes_few hok ha
  have hmany:=p2.many
  rw [if_neg (by omega)]
  simp only
  rw [fF_is h1 h2,List.nil_append]
  obtain ⟨out,hf,ho⟩:=feeds_DI hok hl htot l.length 0 det0 [] (by omega) (DI.zero l) (fun r=>by simp [racR])
  rw [List.drop_zero] at hf
  rw [hf]
  simp only
  generalize hfe:(bytesOfP (parts l)).filterMap (fun b=>(racR l b l.length).head?)=first
  have hfl:first.length≤(bytesOfP (parts l)).length:=by rw [← hfe]; exact List.length_filterMap_le _ _
  rw [if_neg (by omega),fJ_is,List.nil_append,← List.range_eq_range']
  have hnb:=feeds_nodup hf
  have hmem1:∀ q,q∈first↔∃ b,0≤b∧b < 4294967296∧(racR l b l.length).head?=some q:=by
   intro q
   rw [← hfe,List.mem_filterMap]
   constructor
   ·rintro ⟨b,hb,hq⟩
    have:=(p4 b).1 hb
    exact ⟨b,this.1,this.2.1,hq⟩
   ·rintro ⟨b,h0,h1,hq⟩
    refine ⟨b,(p4 b).2 ⟨h0,h1,?_⟩,hq⟩
    obtain ⟨i,j,hij,hj,hrc,_⟩:=racR_mem (List.mem_of_mem_head? hq)
    exact ⟨i,by omega,hrc.1⟩
  have hbyte:∀ (b:Int) (q:Race),(racR l b l.length).head?=some q→q.byte=b∧∃ j:Nat,j < l.length∧q.second.ev=(j:Int):=by
   intro b q hq
   obtain ⟨i,j,hij,hj,hrc,rfl⟩:=racR_mem (List.mem_of_mem_head? hq)
   exact ⟨rfl,j,hj,rfl⟩
  have hsort:first.Pairwise fun a b=>a.byte < b.byte:=by
   rw [← hfe]
   refine List.Pairwise.filterMap _ (fun b b' hbb q hq q' hq'=>?_) p3
   rw [(hbyte b q hq).1,(hbyte b' q' hq').1]
   exact hbb
  have hlt:((List.range l.length).flatMap fun j:Nat=>first.filter fun r=>decide (r.second.ev=(j:Int))).Pairwise raceLt:=by
   rw [List.pairwise_flatMap]
   refine ⟨fun j _=>?_,?_⟩
   ·have:=hsort.filter (p:=fun r=>decide (r.second.ev=(j:Int)))
    refine List.Pairwise.imp_of_mem ?_ this
    intro a b ha hb hab
    have h1:=(List.mem_filter.1 ha).2
    have h2:=(List.mem_filter.1 hb).2
    simp only [decide_eq_true_eq] at h1 h2
    exact .inr ⟨by rw [h1,h2],hab⟩
   ·refine List.Pairwise.imp ?_ List.pairwise_lt_range
    intro j j' hjj x hx y hy
    have h1:=(List.mem_filter.1 hx).2
    have h2:=(List.mem_filter.1 hy).2
    simp only [decide_eq_true_eq] at h1 h2
    left
    omega
  refine congrArg Sum.inl (Eq.symm ?_)
  refine sort_is hnb ?_ ?_
  ·rw [List.perm_ext_iff_of_nodup]
   ·intro q
    rw [List.mem_flatMap,ho q]
    constructor
    ·rintro ⟨j,hj,hq⟩
     obtain ⟨b,h0,h1,hh⟩:=(hmem1 q).1 (List.mem_filter.1 hq).1
     have:=(hbyte b q hh).1
     rw [this]
     exact ⟨h0,h1,hh⟩
    ·rintro ⟨h0,h1,hh⟩
     obtain ⟨_,j,hj,hqj⟩:=hbyte _ q hh
     refine ⟨j,by simpa using hj,List.mem_filter.2 ⟨(hmem1 q).2 ⟨q.byte,h0,h1,hh⟩,by simpa using hqj⟩⟩
   ·exact hlt.imp fun {a b} hab he=>by
     subst he
     unfold raceLt at hab
     omega
   ·rw [List.nodup_iff_pairwise_ne]
    rw [List.nodup_iff_pairwise_ne,List.pairwise_map] at hnb
    exact hnb.imp fun hab he=>hab (by rw [he])
  ·refine hlt.imp fun {a b} hab=>?_
   rw [raceLe_iff]
   unfold raceLt at hab
   omega
end Go.Fx.Mo
namespace Go.Fx.Try
set_option maxRecDepth 100000
open Go Go.Fx
end Go.Fx.Try
namespace Go.Fx.Mo
def bsum1 (e:Ev):Int:=if (e.kind=2∨e.kind=3∨e.kind=4∨e.kind=22∨e.kind=23)∧e.n > 0 then (if 1048576 < e.n then 1048576 else e.n) else 0
def bsum:List Ev→Int
 | []=>0
 | e::r=>bsum1 e+bsum r
theorem bsum1_range (e:Ev):0≤bsum1 e∧bsum1 e≤1048576:=by
 unfold bsum1; split
 ·split <;> omega
 ·omega
theorem bsum_nonneg:∀ l,0≤bsum l
 | []=>Int.le_refl _
 | e::r=>by have:=bsum_nonneg r; have:=bsum1_range e; unfold bsum; omega
theorem touched_bsum (e:Ev) (h:bsum1 e≤2000):(touched e:Int)≤bsum1 e:=by
 have h0:=(bsum1_range e).1
 unfold touched
 split
 ·rename_i hi
  have hk:e.kind=2∨e.kind=3∨e.kind=4∨e.kind=22∨e.kind=23:=by
   unfold accesses at hi
   split at hi
   ·omega
   ·split at hi
    ·omega
    ·split at hi
     ·omega
     ·cases hi
  unfold bsum1 at h ⊢
  by_cases hn:e.n > 0
  ·rw [if_pos ⟨hk,hn⟩] at h ⊢
   split at h
   ·omega
   ·rename_i hh; rw [if_neg hh]; omega
  ·rw [if_neg (fun hh=>hn hh.2)]; omega
 ·simpa using h0
end Go.Fx.Mo
namespace Go.Fx.Try
open Go Go.Fx Go.Fx.Mo
open Go.Proofs
variable {w0 w:World} {H:List (Nat × Obj)} {K:Value→World→Prop}
set_option maxRecDepth 20000
def BInv (w0:World) (H:List (Nat × Obj)) (l:List Ev) (sa:Option Addr) (sc:Nat) (m:Nat) (ee:Env) (w:World):Prop:=
 ∃ (i:Nat) (s:Int),i≤l.length∧m=l.length - i∧ee=Env.mk 30 [(8,(Value.int .i64 i)),(3,(Value.int .i64 s)),(6,(Value.slice sa l.length sc)),(2,(Value.int .i64 0)),(7,(Value.int .i64 l.length))] []∧
  s+bsum (l.drop i)=bsum l∧0≤s∧s≤(i:Int) * 1048576∧St w0 w H
theorem bytesSum_ok {l:List Ev} {ov:Value} (h:St w0 w H) (hrow:∀ w',St w0 w' H→Row w' 6 ov l.length (evsCs l)) (hl:l.length≤1000) (hK:∀ w',St w0 w' H→K (.int .i64 (bsum l)) w'):CallL P 14 [ov] w K:=by
 obtain ⟨sa,sc,hov⟩:=(hrow w h).form
 rw [hov]
 refine f14_ok _ _ _ _ _ ?_
 rw [f14_eq]
 refine ⟨l.length,fun wq _=>run_len_22 wq,?_⟩
 refine ⟨BInv w0 H l sa sc,⟨l.length,0,0,by omega,rfl,rfl,by simp,by omega,by omega,h⟩,?_⟩
 rintro m ee w ⟨i,s,hi,rfl,rfl,hs,hs0,hs1,hw⟩
 show f14_lb0 _ _ _ _ _ _ _ _ _ _
 rw [f14_lb0_eq,BIf_iff]
 constructor
 ·intro hlt
  have hlt:i < l.length:=by simpa using hlt
  rw [f14_s1_eq]
  obtain ⟨a,c,hac,hld⟩:=(hrow w hw).ldA hlt
  rw [hov] at hac
  obtain ⟨hsa,-⟩:sa=some a∧sc=c:=by simpa using hac
  subst hsa
  refine ⟨by omega,by omega,hld _ ?_⟩
  rw [evs_at hlt]
  obtain ⟨ze,hze,hzel⟩:=z35
  rw [hze]
  refine hw.newC fun n14 w6 hn14 h6=>h6.stA (k:=0) rfl (by simp [Evcs_len]) (by simp [hzel]) (Evcs_one _) fun w7 h7=>?_
  have h7:St w0 w7 ((n14,Cs (splice ze 0 (Evcs l[i])) 35)::H):=h7
  rw [splice_whole (by rw [Evcs_len,hzel])] at h7
  rw [List.drop_eq_getElem_cons hlt] at hs
  generalize hx:l[i]=x at h7 hs ⊢
  rw [show bsum (x::l.drop (i+1))=bsum1 x+bsum (l.drop (i+1)) from rfl] at hs
  have hr:=bsum1_range x
  have fin:∀ v,v=s+bsum1 x→f14_s3 v (some a) l.length sc 0 l.length i w7 K (fun e' w'=>∃ m,m < l.length - i∧BInv w0 H l (some a) sc m e' w'):=fun v hv=>by
   rw [f14_s3_eq]
   refine ⟨l.length - (i+1),by omega,i+1,v,by omega,rfl,?_,by omega,by omega,by omega,h7.tail hn14⟩
   rw [wrap_i64 (by omega) (by omega)]; rfl
  have s2:∀ b,(b=true↔(x.kind=2∨x.kind=3∨x.kind=4∨x.kind=22∨x.kind=23))→f14_s2 b (some a) l.length sc 0 l.length i (Addr.mk n14 0 none) s w7 K (fun e' w'=>∃ m,m < l.length - i∧BInv w0 H l (some a) sc m e' w'):=by
   intro b hb
   have c5:w7.cell? ((Addr.mk n14 0 none).add 5)=some (I64 x.n):=by rw [add_lit',h7.cell (k:=0) rfl]; rfl
   rw [f14_s2_eq,BIf_iff]
   refine ⟨fun hbt=>⟨_,c5,?_⟩,fun hbf=>fin _ ?_⟩
   ·rw [BIf_iff]
    refine ⟨fun hn=>⟨_,c5,_,w7,run_min _ _ _,fin _ ?_⟩,fun hn=>fin _ ?_⟩
    ·have hn:x.n > 0:=by simpa using hn
     have e1:bsum1 x=if 1048576 < x.n then 1048576 else x.n:=by unfold bsum1; rw [if_pos ⟨hb.1 hbt,hn⟩]
     rw [e1] at hr ⊢
     rw [wrap_i64 (by omega) (by omega)]
    ·have hn:¬ x.n > 0:=by simpa using hn
     have:bsum1 x=0:=by unfold bsum1; rw [if_neg (fun hh=>hn hh.2)]
     omega
   ·have:bsum1 x=0:=by unfold bsum1; rw [if_neg (fun hh=>by rw [hb.2 hh.1] at hbf; cases hbf)]
    omega
  refine ⟨x.kind,by rw [h7.cell (k:=0) rfl]; rfl,?_⟩
  have no:∀ m:Int,(x.kind == m)=false→x.kind≠m:=fun m hm=>by simpa using hm
  have ye:∀ m:Int,(x.kind == m)=true→x.kind=m:=fun m hm=>by simpa using hm
  rw [BIf_iff]
  refine ⟨fun h1=>s2 true ⟨fun _=>by have:=ye _ h1; omega,fun _=>rfl⟩,fun h1=>?_⟩
  rw [BIf_iff]
  refine ⟨fun h2=>s2 true ⟨fun _=>by have:=ye _ h2; omega,fun _=>rfl⟩,fun h2=>?_⟩
  rw [BIf_iff]
  refine ⟨fun h3=>s2 true ⟨fun _=>by have:=ye _ h3; omega,fun _=>rfl⟩,fun h3=>?_⟩
  rw [BIf_iff]
  refine ⟨fun h4=>s2 true ⟨fun _=>by have:=ye _ h4; omega,fun _=>rfl⟩,fun h4=>s2 _ ⟨fun h5=>by have:=ye _ h5; omega,fun hh=>?_⟩⟩
  have:=no _ h1; have:=no _ h2; have:=no _ h3; have:=no _ h4
  have:x.kind=23:=by omega
  simpa using this
 ·intro hge
  have:i=l.length:=by simp at hge; omega
  subst this
  rw [List.drop_length] at hs
  have:s=bsum l:=by rw [show bsum []=0 from rfl] at hs; omega
  rw [f14_s4_eq,this]
  exact hK w hw
end Go.Fx.Try
namespace Go.Fx.Try
set_option maxRecDepth 100000
open Go Go.Fx
noncomputable def c32:Code:=match Go.Proofs.Try.f32.body with
 | some c=>c
 | none=>.skip
noncomputable def rs32:List ResultVar:=Go.Proofs.Try.f32.results.toList
abbrev f32_kb (K:KT):Exit→YT:=bodyK P rs32 K
def f32 (a:Option Addr) (b c:Nat) (d:Int) (w:World) (K:KT):Prop:=CS P c32 none [4,5] [4,5] (f32_kb K) (env0 72 [(VS a b c),(Value.int .u32 d)]) w
def f32_s0 (a:Option Addr) (b c:Nat) (d f:Int) (g:Option Addr) (h i:Nat) (j:Addr) (w:World) (K:KT):Prop:=Join (fun e w=>CS P (cA c32 15) none [4,5] [4,5] (f32_kb K) e w) (Env.mk 72 [(4,(VS a b c)),(5,(VI d)),(1,(Value.int .u32 f)),(0,(VS g h i)),(6,(VP (some j)))] []) w
abbrev f32_k7 (K:KT):Exit→YT:=kseq P (cA c32 126) (cA c32 127) none [4,5] [4,5] (f32_kb K)
abbrev f32_k9 (K:KT):Exit→YT:=kblock 0 (f32_k7 K)
def f32_lp1 (K:KT) (Y1:YT) (e:Env) (w:World):Prop:=Join (fun e w=>CS P (cA c32 1012) none [4,5,9,25,8,1,0,6,24] [4,5,9] (kloop [4,5,9,25,8,1,0,6,24] Y1 (f32_k9 K)) e w) e w
abbrev f32_kl1 (K:KT) (Y1:YT):Exit→YT:=kloop [4,5,9,25,8,1,0,6,24] Y1 (f32_k9 K)
def f32_lb1 (a:Option Addr) (b c:Nat) (d:Int) (f:Option Addr) (g h:Nat) (i:Int) (j:Option Addr) (k l:Nat) (m:Int) (n:Option Addr) (o p:Nat) (q:Addr) (r:Int) (w:World) (K:KT) (Y1:YT):Prop:=Join (fun e w=>CS P (cA c32 1012) none [4,5,9,25,8,1,0,6,24] [4,5,9] (f32_kl1 K Y1) e w) (Env.mk 72 [(4,(VS a b c)),(5,(VI d)),(9,(VS f g h)),(25,(VI i)),(8,(VS j k l)),(1,(Value.int .u32 m)),(0,(VS n o p)),(6,(VP (some q))),(24,(VI r))] []) w
def f32_s2 (a:Option Addr) (b c:Nat) (d:Int) (f:Option Addr) (g h:Nat) (i:Option Addr) (j k:Nat) (l:Int) (m:Option Addr) (n o:Nat) (p:Addr) (q r:Int) (w:World) (K:KT) (Y1:YT):Prop:=Join (fun e w=>CS P (cA c32 4051) none [4,5,9,25,8,1,0,6,24] [4,5,9] (f32_kl1 K Y1) e w) (Env.mk 72 [(4,(VS a b c)),(5,(VI d)),(9,(VS f g h)),(8,(VS i j k)),(1,(Value.int .u32 l)),(0,(VS m n o)),(6,(VP (some p))),(24,(VI q)),(25,(VI r))] []) w
abbrev f32_k12 (K:KT) (Y1:YT):Exit→YT:=kseq P (cA c32 8102) (cA c32 8103) none [4,5,9,25,8,1,0,6,24] [4,5,9] (f32_kl1 K Y1)
abbrev f32_k13 (K:KT) (Y1:YT):Exit→YT:=kblock 1 (f32_k12 K Y1)
def f32_s3 (a:Option Addr) (b c:Nat) (d:Int) (f:Option Addr) (g h:Nat) (i:Option Addr) (j k:Nat) (l:Int) (m:Option Addr) (n o:Nat) (p:Addr) (q r:Int) (w:World) (K:KT) (Y1:YT):Prop:=Join (fun e w=>CS P (cA c32 8103) none [4,5,9,25,8,1,0,6,24] [4,5,9] (f32_kl1 K Y1) e w) (Env.mk 72 [(4,(VS a b c)),(5,(VI d)),(9,(VS f g h)),(8,(VS i j k)),(1,(Value.int .u32 l)),(0,(VS m n o)),(6,(VP (some p))),(24,(VI q)),(25,(VI r))] []) w
theorem f32_s3_eq (a:Option Addr) (b c:Nat) (d:Int) (e:Option Addr) (f g:Nat) (h:Option Addr) (i j:Nat) (k:Int) (l:Option Addr) (m n:Nat) (o:Addr) (p q:Int) (w:World) (K:KT) (Y1:YT):f32_s3 a b c d e f g h i j k l m n o p q w K Y1=(Y1 (Env.mk 72 [(4,(Value.slice a b c)),(5,(Value.int .i64 d)),(9,(Value.slice e f g)),(25,(Value.int .i64 (IntKind.wrap .i64 ((q:Int)+1)))),(8,(Value.slice h i j)),(1,(Value.int .u32 k)),(0,(Value.slice l m n)),(6,(Value.pointer (some o))),(24,(Value.int .i64 p))] []) w):=by kernel_rfl
def f32_s4 (a:Option Addr) (b c:Nat) (d:Int) (f:Option Addr) (g h:Nat) (i:Option Addr) (j k:Nat) (l:Int) (m:Option Addr) (n o:Nat) (p:Addr) (q r:Int) (s:Addr) (t:Int) (w:World) (K:KT) (Y1:YT):Prop:=Join (fun e w=>CS P (cA c32 129639) none [4,5,9,8,1,0,6,24,25] [4,5,9,8,1,0,6,24,25] (f32_k13 K Y1) e w) (Env.mk 72 [(4,(VS a b c)),(5,(VI d)),(9,(VS f g h)),(8,(VS i j k)),(1,(Value.int .u32 l)),(0,(VS m n o)),(6,(VP (some p))),(24,(VI q)),(25,(VI r)),(11,(VP (some s))),(10,(VI t))] []) w
abbrev f32_k18 (K:KT) (Y1:YT):Exit→YT:=kseq P (cA c32 259278) (cA c32 259279) none [4,5,9,8,1,0,6,24,25] [4,5,9,8,1,0,6,24,25] (f32_k13 K Y1)
abbrev f32_k20 (K:KT) (Y1:YT):Exit→YT:=kblock 2 (f32_k18 K Y1)
def f32_lp5 (K:KT) (Y1 Y5:YT) (e:Env) (w:World):Prop:=Join (fun e w=>CS P (cA c32 2074228) none [4,5,9,8,1,0,6,24,25,11,39,10,37,38] [4,5,9,8,1,0,6,24,25,11] (kloop [4,5,9,8,1,0,6,24,25,11,39,10,37,38] Y5 (f32_k20 K Y1)) e w) e w
abbrev f32_kl5 (K:KT) (Y1 Y5:YT):Exit→YT:=kloop [4,5,9,8,1,0,6,24,25,11,39,10,37,38] Y5 (f32_k20 K Y1)
def f32_lb5 (a:Option Addr) (b c:Nat) (d:Int) (f:Option Addr) (g h:Nat) (i:Option Addr) (j k:Nat) (l:Int) (m:Option Addr) (n o:Nat) (p:Addr) (q r:Int) (s:Addr) (t u:Int) (v:Option Addr) (x y:Nat) (z:Int) (w:World) (K:KT) (Y1 Y5:YT):Prop:=Join (fun e w=>CS P (cA c32 2074228) none [4,5,9,8,1,0,6,24,25,11,39,10,37,38] [4,5,9,8,1,0,6,24,25,11] (f32_kl5 K Y1 Y5) e w) (Env.mk 72 [(4,(VS a b c)),(5,(VI d)),(9,(VS f g h)),(8,(VS i j k)),(1,(Value.int .u32 l)),(0,(VS m n o)),(6,(VP (some p))),(24,(VI q)),(25,(VI r)),(11,(VP (some s))),(39,(VI t)),(10,(VI u)),(37,(VS v x y)),(38,(VI z))] []) w
def f32_s6 (a:Option Addr) (b c:Nat) (d:Int) (f:Option Addr) (g h:Nat) (i:Option Addr) (j k:Nat) (l:Int) (m:Option Addr) (n o:Nat) (p:Addr) (q r:Int) (s:Addr) (t:Int) (u:Option Addr) (v x:Nat) (y z:Int) (w:World) (K:KT) (Y1 Y5:YT):Prop:=Join (fun e w=>CS P (cA c32 8296915) none [4,5,9,8,1,0,6,24,25,11,39,10,37,38] [4,5,9,8,1,0,6,24,25,11] (f32_kl5 K Y1 Y5) e w) (Env.mk 72 [(4,(VS a b c)),(5,(VI d)),(9,(VS f g h)),(8,(VS i j k)),(1,(Value.int .u32 l)),(0,(VS m n o)),(6,(VP (some p))),(24,(VI q)),(25,(VI r)),(11,(VP (some s))),(10,(VI t)),(37,(VS u v x)),(38,(VI y)),(39,(VI z))] []) w
abbrev f32_k23 (K:KT) (Y1 Y5:YT):Exit→YT:=kseq P (cA c32 16593830) (cA c32 16593831) none [4,5,9,8,1,0,6,24,25,11,39,10,37,38] [4,5,9,8,1,0,6,24,25,11] (f32_kl5 K Y1 Y5)
abbrev f32_k24 (K:KT) (Y1 Y5:YT):Exit→YT:=kblock 3 (f32_k23 K Y1 Y5)
abbrev f32_k26 (K:KT) (Y1 Y5:YT):Exit→YT:=kseq P (cA c32 132750642) (cA c32 132750643) none [4,5,9,8,1,0,6,24,25,11,10,37,38,39] [4,5,9,8,1,0,6,24,25,11,10,37,38,39] (f32_k24 K Y1 Y5)
def f32_s7 (a:Bool) (b:Option Addr) (c d:Nat) (f:Int) (g:Option Addr) (h i:Nat) (j:Option Addr) (k l:Nat) (m:Int) (n:Option Addr) (o p:Nat) (q:Addr) (r s:Int) (t:Addr) (u:Int) (v:Option Addr) (x y:Nat) (z a0:Int) (b0:Addr) (w:World) (K:KT) (Y1 Y5:YT):Prop:=Join (fun e w=>CS P (cA c32 265501285) none [9,8,1,0,6,24,25,11,10,37,38,39,4,5,14] [4,5,9,8,1,0,6,24,25,11,10,37,38,39] (f32_k26 K Y1 Y5) e w) (Env.mk 72 [(54,(VB a)),(4,(VS b c d)),(5,(VI f)),(9,(VS g h i)),(8,(VS j k l)),(1,(Value.int .u32 m)),(0,(VS n o p)),(6,(VP (some q))),(24,(VI r)),(25,(VI s)),(11,(VP (some t))),(10,(VI u)),(37,(VS v x y)),(38,(VI z)),(39,(VI a0)),(14,(VP (some b0)))] []) w
def f32_s8 (a:Option Addr) (b c:Nat) (d:Int) (f:Option Addr) (g h:Nat) (i:Option Addr) (j k:Nat) (l:Int) (m:Option Addr) (n o:Nat) (p:Addr) (q r:Int) (s:Addr) (t:Int) (u:Option Addr) (v x:Nat) (y z:Int) (w:World) (K:KT) (Y1 Y5:YT):Prop:=Join (fun e w=>CS P (cA c32 16593831) none [4,5,9,8,1,0,6,24,25,11,39,10,37,38] [4,5,9,8,1,0,6,24,25,11] (f32_kl5 K Y1 Y5) e w) (Env.mk 72 [(4,(VS a b c)),(5,(VI d)),(9,(VS f g h)),(8,(VS i j k)),(1,(Value.int .u32 l)),(0,(VS m n o)),(6,(VP (some p))),(24,(VI q)),(25,(VI r)),(11,(VP (some s))),(10,(VI t)),(37,(VS u v x)),(38,(VI y)),(39,(VI z))] []) w
theorem f32_s8_eq (a:Option Addr) (b c:Nat) (d:Int) (e:Option Addr) (f g:Nat) (h:Option Addr) (i j:Nat) (k:Int) (l:Option Addr) (m n:Nat) (o:Addr) (p q:Int) (r:Addr) (s:Int) (t:Option Addr) (u v:Nat) (x y:Int) (w:World) (K:KT) (Y1 Y5:YT):f32_s8 a b c d e f g h i j k l m n o p q r s t u v x y w K Y1 Y5=(Y5 (Env.mk 72 [(4,(Value.slice a b c)),(5,(Value.int .i64 d)),(9,(Value.slice e f g)),(8,(Value.slice h i j)),(1,(Value.int .u32 k)),(0,(Value.slice l m n)),(6,(Value.pointer (some o))),(24,(Value.int .i64 p)),(25,(Value.int .i64 q)),(11,(Value.pointer (some r))),(39,(Value.int .i64 (IntKind.wrap .i64 ((y:Int)+1)))),(10,(Value.int .i64 s)),(37,(Value.slice t u v)),(38,(Value.int .i64 x))] []) w):=by kernel_rfl
def f32_s9 (a:Option Addr) (b c:Nat) (d:Option Addr) (f g:Nat) (h:Int) (i:Option Addr) (j k:Nat) (l:Addr) (m n:Int) (o:Addr) (p:Int) (q:Option Addr) (r s:Nat) (t u:Int) (v:Option Addr) (x y:Nat) (z:Int) (a0:Addr) (w:World) (K:KT) (Y1 Y5:YT):Prop:=Join (fun e w=>CS P (cA c32 132750643) none [4,5,9,8,1,0,6,24,25,11,10,37,38,39] [4,5,9,8,1,0,6,24,25,11,10,37,38,39] (f32_k24 K Y1 Y5) e w) (Env.mk 72 [(9,(VS a b c)),(8,(VS d f g)),(1,(Value.int .u32 h)),(0,(VS i j k)),(6,(VP (some l))),(24,(VI m)),(25,(VI n)),(11,(VP (some o))),(10,(VI p)),(37,(VS q r s)),(38,(VI t)),(39,(VI u)),(4,(VS v x y)),(5,(VI z)),(14,(VP (some a0)))] []) w
def f32_s10 (a:Option Addr) (b c:Nat) (d:Int) (f:Option Addr) (g h:Nat) (i:Int) (j:Option Addr) (k l:Nat) (m:Addr) (n o:Int) (p:Addr) (q:Int) (r:Option Addr) (s t:Nat) (u v:Int) (x:Addr) (y:Option Addr) (z a0:Nat) (w:World) (K:KT) (Y1 Y5:YT):Prop:=Join (fun e w=>CS P (cA c32 265501287) none [4,5,9,8,1,0,6,24,25,11,10,37,38,39] [4,5,9,8,1,0,6,24,25,11,10,37,38,39] (f32_k24 K Y1 Y5) e w) (Env.mk 72 [(4,(VS a b c)),(5,(VI d)),(8,(VS f g h)),(1,(Value.int .u32 i)),(0,(VS j k l)),(6,(VP (some m))),(24,(VI n)),(25,(VI o)),(11,(VP (some p))),(10,(VI q)),(37,(VS r s t)),(38,(VI u)),(39,(VI v)),(14,(VP (some x))),(9,(VS y z a0))] []) w
theorem f32_s10_eq (d:Option Addr) (e f:Nat) (g:Int) (h:Option Addr) (i j:Nat) (a:Int) (k:Option Addr) (l m:Nat) (n:Addr) (o p:Int) (b:Addr) (q:Int) (r:Option Addr) (s t:Nat) (u x:Int) (y:Addr) (z:Option Addr) (a0 b0:Nat) (w:World) (K:KT) (Y1 Y5:YT):f32_s10 d e f g h i j a k l m n o p b q r s t u x y z a0 b0 w K Y1 Y5=(LdA 5 y w (fun g0=>LdA 5 b w (fun h0=>∃ c:Array Value,(∀ wq,(Instr.build 47 [(0,(Value.int .u32 a)),(1,(Value.agg g0)),(2,(Value.agg h0))].toArray).run P wq=.ok (Value.agg c) wq)∧sizesAre 11 [(Value.agg c)]∧NewC (([(Value.agg c)].map fun (v:Value)=>v.cells.toList).flatten.toArray) 47 w (fun i0 j0=>∃ (c0:Option Addr) (d0 e0:Nat),∃ f0:World,(Builtin.append_ #[25,25] 25 [(Value.slice z a0 b0),(Value.slice (some (Addr.mk i0 0 none)) 1 1)].toArray).run P j0=.ok (Value.slice c0 d0 e0) f0∧f32_s8 d e f g c0 d0 e0 h i j a k l m n o p b q r s t u x f0 K Y1 Y5)))):=by kernel_rfl
theorem f32_s9_eq (a:Option Addr) (b c:Nat) (d:Option Addr) (e f:Nat) (g:Int) (h:Option Addr) (i j:Nat) (k:Addr) (l m:Int) (n:Addr) (o:Int) (p:Option Addr) (q r:Nat) (s t:Int) (u:Option Addr) (v x:Nat) (y:Int) (z:Addr) (w:World) (K:KT) (Y1 Y5:YT):f32_s9 a b c d e f g h i j k l m n o p q r s t u v x y z w K Y1 Y5=(∃ a0:Int,(∀ wq,Ext w wq→(Builtin.len_ #[25] 3 [(Value.slice a b c)].toArray).run P wq=.ok (Value.int .i64 a0) wq)∧BIf ((a0:Int) == 1000) (K (Value.tuple [(Value.slice none 0 0),(Value.int .i64 2)].toArray) w) (f32_s10 u v x y d e f g h i j k l m n o p q r s t z a b c w K Y1 Y5)):=by kernel_rfl
theorem f32_s7_eq (z:Bool) (a:Option Addr) (b c:Nat) (d:Int) (e:Option Addr) (f g:Nat) (h:Option Addr) (i j:Nat) (k:Int) (l:Option Addr) (m n:Nat) (o:Addr) (p q:Int) (r:Addr) (s:Int) (t:Option Addr) (u v:Nat) (x y:Int) (a0:Addr) (w:World) (K:KT) (Y1 Y5:YT):f32_s7 z a b c d e f g h i j k l m n o p q r s t u v x y a0 w K Y1 Y5=(BIf z (f32_s8 a b c d e f g h i j k l m n o p q r s t u v x y w K Y1 Y5) (f32_s9 e f g h i j k l m n o p q r s t u v x y a b c d a0 w K Y1 Y5)):=by kernel_rfl
theorem f32_s6_eq (l:Option Addr) (m n:Nat) (o:Int) (p:Option Addr) (q r:Nat) (s:Option Addr) (t u:Nat) (v:Int) (c:Option Addr) (d e:Nat) (f:Addr) (x y:Int) (g:Addr) (h:Int) (i:Option Addr) (j z:Nat) (a0 a:Int) (w:World) (K:KT) (Y1 Y5:YT):f32_s6 l m n o p q r s t u v c d e f x y g h i j z a0 a w K Y1 Y5=(optS i (fun f0=>0≤(a:Int)∧(a:Int) < (j:Nat)∧LdA 5 (f0.add (Int.toNat a * 5)) w (fun g0=>NewC (zcells P 45) 45 w (fun b h0=>StA 5 (Addr.mk b 0 none) g0 h0 (fun b0=>LdA 5 (Addr.mk b 0 none) b0 (fun i0=>LdA 5 g b0 (fun j0=>CallL P 59 [(Value.agg i0),(Value.agg j0)] b0 (fun l0 k=>∃ c0:Bool,l0=(Value.bool c0)∧BIf (!c0) (f32_s7 true l m n o p q r s t u v c d e f x y g h i j z a0 a (Addr.mk b 0 none) k K Y1 Y5) (LdA 3 f k (fun m0=>∃ d0:Int,k.cell? (Addr.mk b 0 none)=some (Value.int .i64 d0)∧CallL P 54 [(Value.agg m0),(Value.slice c d e),(Value.int .i64 d0),(Value.int .i64 h)] k (fun n0 o0=>∃ e0:Bool,n0=(Value.bool e0)∧f32_s7 e0 l m n o p q r s t u v c d e f x y g h i j z a0 a (Addr.mk b 0 none) o0 K Y1 Y5))))))))))):=by kernel_rfl
def f32_s11 (a:Option Addr) (b c:Nat) (d:Int) (f:Option Addr) (g h:Nat) (i:Int) (j:Option Addr) (k l:Nat) (m:Addr) (n o:Int) (p:Addr) (q:Option Addr) (r s:Nat) (w:World) (K:KT) (Y1:YT):Prop:=Join (fun e w=>CS P (cA c32 259279) none [4,5,9,8,1,0,6,24,25] [4,5,9,8,1,0,6,24,25] (f32_k13 K Y1) e w) (Env.mk 72 [(4,(VS a b c)),(5,(VI d)),(9,(VS f g h)),(1,(Value.int .u32 i)),(0,(VS j k l)),(6,(VP (some m))),(24,(VI n)),(25,(VI o)),(11,(VP (some p))),(8,(VS q r s))] []) w
theorem f32_s11_eq (a:Option Addr) (b c:Nat) (d:Int) (e:Option Addr) (f g:Nat) (h:Int) (i:Option Addr) (j k:Nat) (l:Addr) (m n:Int) (o:Addr) (p:Option Addr) (q r:Nat) (w:World) (K:KT) (Y1:YT):f32_s11 a b c d e f g h i j k l m n o p q r w K Y1=(LdA 5 o w (fun s=>sizesAre 5 [(Value.agg s)]∧NewC (([(Value.agg s)].map fun (v:Value)=>v.cells.toList).flatten.toArray) 45 w (fun z a0=>∃ (t:Option Addr) (u x:Nat),∃ y:World,(Builtin.append_ #[106,106] 106 [(Value.slice p q r),(Value.slice (some (Addr.mk z 0 none)) 1 1)].toArray).run P a0=.ok (Value.slice t u x) y∧f32_s3 a b c d e f g t u x h i j k l m n y K Y1))):=by kernel_rfl
theorem f32_lb5_eq (a:Option Addr) (b c:Nat) (d:Int) (e:Option Addr) (f g:Nat) (h:Option Addr) (i j:Nat) (k:Int) (l:Option Addr) (m n:Nat) (o:Addr) (p q:Int) (r:Addr) (s u:Int) (v:Option Addr) (x y:Nat) (t:Int) (w:World) (K:KT) (Y1 Y5:YT):f32_lb5 a b c d e f g h i j k l m n o p q r s u v x y t w K Y1 Y5=(BIf (decide ((s:Int) < t)) (f32_s6 a b c d e f g h i j k l m n o p q r u v x y t s w K Y1 Y5) (f32_s11 a b c d e f g k l m n o p q r h i j w K Y1)):=by kernel_rfl
theorem f32_s4_eq (d:Option Addr) (e f:Nat) (g:Int) (h:Option Addr) (i j:Nat) (a:Option Addr) (b c:Nat) (k:Int) (l:Option Addr) (m n:Nat) (o:Addr) (p q:Int) (r:Addr) (s:Int) (w:World) (K:KT) (Y1:YT):f32_s4 d e f g h i j a b c k l m n o p q r s w K Y1=(∃ t:Int,(∀ wq,Ext w wq→(Builtin.len_ #[106] 3 [(Value.slice a b c)].toArray).run P wq=.ok (Value.int .i64 t) wq)∧LoopE (f32_lp5 K Y1) (Env.mk 72 [(4,(Value.slice d e f)),(5,(Value.int .i64 g)),(9,(Value.slice h i j)),(8,(Value.slice a b c)),(1,(Value.int .u32 k)),(0,(Value.slice l m n)),(6,(Value.pointer (some o))),(24,(Value.int .i64 p)),(25,(Value.int .i64 q)),(11,(Value.pointer (some r))),(39,(Value.int .i64 0)),(10,(Value.int .i64 s)),(37,(Value.slice a b c)),(38,(Value.int .i64 t))] []) w):=by kernel_rfl
theorem f32_s2_eq (f:Option Addr) (g h:Nat) (i:Int) (j:Option Addr) (k l:Nat) (m:Option Addr) (n o:Nat) (b:Int) (c:Option Addr) (d e:Nat) (p:Addr) (q a:Int) (w:World) (K:KT) (Y1:YT):f32_s2 f g h i j k l m n o b c d e p q a w K Y1=(CallL P 58 [(Value.slice c d e),(Value.int .i64 a),(Value.int .u32 b)] w (fun v x=>∃ r:Array Value,∃ s:Bool,v=(Value.tuple [(Value.agg r),(Value.bool s)].toArray)∧NewC (zcells P 45) 45 x (fun t y=>StA 5 (Addr.mk t 0 none) r y (fun u=>BIf (!s) (f32_s3 f g h i j k l m n o b c d e p q a u K Y1) (f32_s4 f g h i j k l m n o b c d e p q a (Addr.mk t 0 none) a u K Y1))))):=by kernel_rfl
def f32_s12 (a:Option Addr) (b c:Nat) (w:World) (K:KT):Prop:=Join (fun e w=>CS P (cA c32 127) none [4,5] [4,5] (f32_kb K) e w) (Env.mk 72 [(9,(VS a b c))] []) w
theorem f32_s12_eq (a:Option Addr) (b c:Nat) (w:World) (K:KT):f32_s12 a b c w K=(K (Value.tuple [(Value.slice a b c),(Value.int .i64 0)].toArray) w):=by kernel_rfl
theorem f32_lb1_eq (f:Option Addr) (g h:Nat) (i:Int) (a:Option Addr) (b c:Nat) (d:Int) (j:Option Addr) (k l:Nat) (m:Int) (n:Option Addr) (o p:Nat) (q:Addr) (e:Int) (w:World) (K:KT) (Y1:YT):f32_lb1 f g h i a b c d j k l m n o p q e w K Y1=(BIf (decide ((d:Int) < e)) (f32_s2 f g h i a b c j k l m n o p q e d w K Y1) (f32_s12 a b c w K)):=by kernel_rfl
theorem f32_s0_eq (d:Option Addr) (e f:Nat) (g h:Int) (a:Option Addr) (b c:Nat) (i:Addr) (w:World) (K:KT):f32_s0 d e f g h a b c i w K=(∃ j:Int,(∀ wq,Ext w wq→(Builtin.len_ #[22] 3 [(Value.slice a b c)].toArray).run P wq=.ok (Value.int .i64 j) wq)∧LoopE (f32_lp1 K) (Env.mk 72 [(4,(Value.slice d e f)),(5,(Value.int .i64 g)),(9,(Value.slice none 0 0)),(25,(Value.int .i64 0)),(8,(Value.slice none 0 0)),(1,(Value.int .u32 h)),(0,(Value.slice a b c)),(6,(Value.pointer (some i))),(24,(Value.int .i64 j))] []) w):=by kernel_rfl
theorem f32_eq (a:Option Addr) (b c:Nat) (e:Int) (w:World) (K:KT):f32 a b c e w K=(CallL P 47 [(Value.slice a b c)] w (fun i j=>∃ f:Array Value,∃ d:Int,i=(Value.tuple [(Value.agg f),(Value.int .i64 d)].toArray)∧NewC (zcells P 89) 89 j (fun g k=>StA 3 (Addr.mk g 0 none) f k (fun h=>BIf ((d:Int) != 0) (K (Value.tuple [(Value.slice none 0 0),(Value.int .i64 d)].toArray) h) (f32_s0 none 0 0 0 e a b c (Addr.mk g 0 none) h K))))):=by kernel_rfl
theorem c32_eq:Go.Proofs.Try.f32.body=some c32:=by kernel_rfl
theorem f32_un (a:Option Addr) (b c:Nat) (d:Int) (w:World) (K:KT):f32 a b c d w K=CS P c32 none (resT Go.Proofs.Try.f32.results.toList) (resT Go.Proofs.Try.f32.results.toList) (bodyK P Go.Proofs.Try.f32.results.toList K) (env0 Go.Proofs.Try.f32.ntmps [(Value.slice a b c),(Value.int .u32 d)]) w:=by kernel_rfl
theorem f32_ok (a:Option Addr) (b c:Nat) (d:Int) (w:World) (K:KT) (h:f32 a b c d w K):CallL P 32 [(Value.slice a b c),(Value.int .u32 d)] w K:=calls_of_CS Go.Proofs.Try.func32 c32_eq (Eq.mp (f32_un a b c d w K) h)
noncomputable def c54:Code:=match Go.Proofs.Try.f54.body with
 | some c=>c
 | none=>.skip
noncomputable def rs54:List ResultVar:=Go.Proofs.Try.f54.results.toList
abbrev f54_kb (K:KT):Exit→YT:=bodyK P rs54 K
def f54 (a:Array Value) (b:Option Addr) (c d:Nat) (e f:Int) (w:World) (K:KT):Prop:=CS P c54 none [8] [8] (f54_kb K) (env0 28 [(Value.agg a),(VS b c d),(VI e),(VI f)]) w
theorem f54_eq (e:Array Value) (f:Option Addr) (g o:Nat) (a c:Int) (w:World) (K:KT):f54 e f g o a c w K=(NewC e 89 w (fun h b=>optS f (fun p=>0≤(a:Int)∧(a:Int) < (g:Nat)∧∃ (i:Option Addr) (j q:Nat),b.drew.cell? ((Addr.mk h 0 none).add 2)=some (Value.slice i j q)∧optS i (fun r=>0≤(c:Int)∧(c:Int) < (j:Nat)∧∃ d:Int,b.drew.cell? ((p.add (Int.toNat a * 6)).add 1)=some (Value.int .i64 d)∧0≤(d:Int)∧(d:Int) < (8:Nat)∧∃ k:Int,b.drew.cell? (((r.add (Int.toNat c * 9)).add 1).add (Int.toNat d * 1))=some (Value.int .i64 k)∧∃ (l:Option Addr) (m s:Nat),b.drew.cell? ((Addr.mk h 0 none).add 2)=some (Value.slice l m s)∧optS l (fun t=>0≤(a:Int)∧(a:Int) < (m:Nat)∧∃ n:Int,b.drew.cell? (t.add (Int.toNat a * 9))=some (Value.int .i64 n)∧K (Value.bool (decide ((k:Int)≥n))) b.drew))))):=by kernel_rfl
theorem c54_eq:Go.Proofs.Try.f54.body=some c54:=by kernel_rfl
theorem f54_un (a:Array Value) (b:Option Addr) (c d:Nat) (e f:Int) (w:World) (K:KT):f54 a b c d e f w K=CS P c54 none (resT Go.Proofs.Try.f54.results.toList) (resT Go.Proofs.Try.f54.results.toList) (bodyK P Go.Proofs.Try.f54.results.toList K) (env0 Go.Proofs.Try.f54.ntmps [(Value.agg a),(Value.slice b c d),(Value.int .i64 e),(Value.int .i64 f)]) w:=by kernel_rfl
theorem f54_ok (a:Array Value) (b:Option Addr) (c d:Nat) (e f:Int) (w:World) (K:KT) (h:f54 a b c d e f w K):CallL P 54 [(Value.agg a),(Value.slice b c d),(Value.int .i64 e),(Value.int .i64 f)] w K:=calls_of_CS Go.Proofs.Try.func54 c54_eq (Eq.mp (f54_un a b c d e f w K) h)
end Go.Fx.Try
namespace Go.Fx.Try
open Go Go.Fx Go.Fx.Mo
open Go.Proofs
variable {w0 w:World} {H:List (Nat × Obj)} {K:Value→World→Prop}
set_option maxRecDepth 20000
def zacc:List Value:=[I64 0,I64 0,.int .u32 0,.bool false,.bool false]
def accV (x:Option Mo.Acc):Value:=match x with
 | some a=>.tuple [.agg (Acccs a).toArray,.bool true].toArray
 | none=>.tuple [.agg zacc.toArray,.bool false].toArray
theorem Row.cell {size:Nat} {ov:Value} {n:Nat} {xs:List Value} (h:Row w size ov n xs) {i j:Nat} (hi:i < n) (hj:j < size):∃ a c,ov=.slice (some a) n c∧w.cell? ((a.add (i * size)).add j)=xs[i * size+j]?:=by
 rcases h.2 with ⟨_,h0⟩ | ⟨a,c,h1,h2⟩
 ·omega
 ·have hle:i * size+size≤n * size:=by rw [← Nat.succ_mul]; exact Nat.mul_le_mul_right _ hi
  exact ⟨a,c,h1,by rw [add_add',h2 _ (by omega)]⟩
theorem evs_cell' (l:List Ev) {i j:Nat} (hi:i < l.length) (hj:j < 6):(evsCs l)[i * 6+j]?=(Evcs l[i])[j]?:=by
 have:=congrArg (fun l=>l[j]?) (evs_at hi)
 simp only [List.getElem?_take,hj,if_true,List.getElem?_drop] at this
 exact this
theorem access_ok {l:List Ev} {ov:Value} (h:St w0 w H) (hrow:∀ w',St w0 w' H→Row w' 6 ov l.length (evsCs l)) {i:Nat} (hi:i < l.length) (b:Int) (hK:∀ w',St w0 w' H→K (accV (accessAt l[i] i b)) w'):CallL P 58 [ov,.int .i64 i,.int .u32 b] w K:=by
 obtain ⟨sa,sc,hov⟩:=(hrow w h).form
 rw [hov]
 refine f58_ok _ _ _ _ _ _ _ ?_
 rw [f58_eq,z45]
 refine h.newC fun n3 w1 hn3 h1=>?_
 obtain ⟨a,c,hac,hld⟩:=(hrow w1 (h1.tail hn3)).ldA hi
 rw [hov] at hac
 obtain ⟨hsa,-⟩:sa=some a∧sc=c:=by simpa using hac
 subst hsa
 have cl:∀ {w':World} (j:Nat),j < 6→St w0 w' ((n3,Cs zacc 45)::H)→w'.cell? ((a.add (Int.toNat (i:Int) * 6)).add j)=(Evcs l[i])[j]?:=fun j hj h'=>by
  obtain ⟨a',c',hac',hcell⟩:=Row.cell (hrow _ (h'.tail hn3)) hi hj
  rw [hov] at hac'
  obtain ⟨rfl,-⟩:a=a'∧sc=c':=by simpa using hac'
  rw [Int.toNat_natCast,hcell,evs_cell' l hi hj]
 refine ⟨by omega,by omega,hld _ ?_⟩
 rw [evs_at hi]
 refine accesses_ok h1 l[i] fun w2 h2=>⟨_,_,_,rfl,?_⟩
 have h2d:St w0 w2.drew ((n3,Cs zacc 45)::H):=h2.drew
 have s0:∀ b',accessAt l[i] i b=(if b'=true then none else some ⟨i,l[i].th,l[i].pc,(accesses l[i]).1,(accesses l[i]).2.1⟩)→f58_s0 b' (Addr.mk n3 0 none) (accesses l[i]).2.1 (accesses l[i]).1 i (some a) l.length sc w2.drew K:=by
  intro b' hb
  rw [f58_s0_eq,BIf_iff]
  constructor
  ·rintro rfl
   refine ⟨_,build45z,h2d.stA (k:=0) rfl rfl (by simp [zacc]) (by simp [Value.oneCell']) fun w3 h3=>?_⟩
   refine h3.ldA (k:=0) (i:=0) rfl (by simp [splice_length,zacc]) ?_
   have:=hK w3 (h3.tail hn3)
   rw [hb] at this
   exact this
  ·rintro rfl
   rw [f58_s1_eq]
   have h3d:=h2d.drew
   refine ⟨by omega,by omega,by omega,by omega,_,cl 1 (by omega) h3d,_,cl 2 (by omega) h3d,_,build45 _ _ _ _ _,?_⟩
   refine h3d.stA (k:=0) rfl rfl (by simp [zacc]) (Acccs_one _) fun w3 h3=>?_
   rw [f58_s2_eq]
   refine h3.ldA (k:=0) (i:=0) rfl (by simp [splice_length,zacc]) ?_
   have:=hK w3 (h3.tail hn3)
   rw [hb] at this
   exact this
 rw [BIf_iff]
 constructor
 ·intro hb
  refine s0 true ?_
  simp [accessAt,hb]
 ·intro hb
  have hb:(accesses l[i]).2.2=true:=by simpa using hb
  refine ⟨by omega,by omega,by omega,by omega,_,cl 3 (by omega) h2d,_,cl 5 (by omega) h2d,?_⟩
  refine s0 _ ?_
  simp only [accessAt,hb,Bool.not_true,Bool.false_or]
  rfl
theorem mades_cell {l:List Made} (he:∀ m∈l,m.last.length=8) {i j:Nat} (hi:i < l.length) (hj:j < 9):(mades l)[i * 9+j]?=(madeCs l[i])[j]?:=by
 have h:=flat_slice (f:=madeCs) (n:=9) (l:=l) (fun x hx=>by simp [madeCs,he x hx]) hi
 have:=congrArg (fun l=>l[j]?) h
 simp only [List.getElem?_take,hj,if_true,List.getElem?_drop] at this
 exact this
theorem before_ok {l:List Ev} {ov v1 v2 v3:Value} {hh:Hist} {L1 L2 L3:List (Nat × Obj)} (h:St w0 w H) (hrow:∀ w',St w0 w' H→Row w' 6 ov l.length (evsCs l)) (hho:HistOk w0 hh v1 v2 v3 L1 L2 L3) (hL3:∀ y∈L3,y∈H)
  (hlen:hh.events.length=l.length) {x:Mo.Acc} {i j:Nat} (hi:i < l.length) (hj:j < l.length) (hx:x.ev=i) (hth:x.th=l[i].th) (ht:0≤x.th∧x.th < 8) (hK:∀ w',St w0 w' H→K (.bool (before hh x j)) w') :
  CallL P 54 [.agg #[v1,v2,v3],ov,.int .i64 x.ev,.int .i64 j] w K:=by
 obtain ⟨sa,sc,hov⟩:=(hrow w h).form
 obtain ⟨ea,ec,hv3⟩:=hho.s3.form
 rw [hov,hx]
 refine f54_ok _ _ _ _ _ _ _ _ ?_
 rw [f54_eq]
 refine h.newC fun n4 w1 hn4 h1=>?_
 have hd:=h1.drew
 obtain ⟨a,c,hac,hcell⟩:=Row.cell (hrow _ (hd.tail hn4)) hi (j:=1) (by omega)
 rw [hov] at hac
 obtain ⟨hsa,-⟩:sa=some a∧sc=c:=by simpa using hac
 subst hsa
 have hr3:Row w1.drew 9 v3 hh.events.length (mades hh.events):=hho.s3.row fun y hy=>hd.has _ _ (.tail _ (hL3 y hy))
 obtain ⟨t,hte,ht8⟩:∃ t:Nat,x.th=t∧t < 8:=⟨x.th.toNat,by omega,by omega⟩
 obtain ⟨e1,k1,he1,hc1⟩:=Row.cell hr3 (i:=j) (j:=1+t) (by omega) (by omega)
 obtain ⟨e2,k2,he2,hc2⟩:=Row.cell hr3 (i:=i) (j:=0) (by omega) (by omega)
 rw [hv3] at he1 he2
 obtain ⟨hea,-⟩:ea=some e1∧ec=k1:=by simpa using he1
 subst hea
 obtain ⟨hea2,-⟩:e1=e2∧ec=k2:=by simpa using he2
 subst hea2
 have hj':j < hh.events.length:=by omega
 have hi':i < hh.events.length:=by omega
 have c3:w1.drew.cell? ((Addr.mk n4 0 none).add 2)=some (.slice (some e1) hh.events.length ec):=by rw [add_lit',hd.cell (k:=0) rfl,← hv3]; rfl
 refine ⟨by omega,by omega,some e1,_,ec,c3,by omega,by omega,l[i].th,?_,?_⟩
 ·rw [Int.toNat_natCast,hcell,evs_cell' l hi (by omega)]; rfl
 rw [← hth]
 refine ⟨ht.1,by have:=ht.2; simpa using this,hh.events[j].last.getD t 0,?_,some e1,_,ec,c3,by omega,by omega,hh.events[i].first,?_,?_⟩
 ·rw [hte,Int.toNat_natCast,Int.toNat_natCast,Nat.mul_one,add_add',hc1,mades_cell hho.each hj' (by omega)]
  have:=hho.each _ (List.getElem_mem hj')
  simp [madeCs,Nat.add_comm 1 t,this,ht8]
 ·have e0:∀ a:Addr,a.add 0=a:=fun a=>by simp [Addr.add]
  rw [e0] at hc2
  rw [Int.toNat_natCast,hc2,mades_cell hho.each hi' (by omega)]
  rfl
 ·have hb:before hh x j=decide (hh.events[j].last.getD t 0≥hh.events[i].first):=by
   unfold before at0
   rw [hx,hte,Int.toNat_natCast,Int.toNat_natCast]
   have g1:hh.events.getD j ⟨0,[]⟩=hh.events[j]:=by rw [List.getD_eq_getElem?_getD,List.getElem?_eq_getElem hj']; rfl
   have g2:hh.events.getD i ⟨0,[]⟩=hh.events[i]:=by rw [List.getD_eq_getElem?_getD,List.getElem?_eq_getElem hi']; rfl
   rw [g1,g2]
  rw [← hb]
  exact hK _ (hd.tail hn4)
end Go.Fx.Try
namespace Go.Fx.Try
open Go Go.Fx Go.Fx.Mo
open Go.Proofs
variable {w0 w:World} {H:List (Nat × Obj)} {K:Value→World→Prop}
set_option maxRecDepth 20000
def accsCs (l:List Mo.Acc):List Value:=(l.map Acccs).flatten
theorem accs_at {l:List Mo.Acc} {i:Nat} (hi:i < l.length):((accsCs l).drop (i * 5)).take 5=Acccs l[i]:=flat_slice (f:=Acccs) (fun x _=>Acccs_len x) hi
theorem accsCs_snoc (l:List Mo.Acc) (a:Mo.Acc):accsCs (l++[a])=accsCs l++Acccs a:=by simp [accsCs]
theorem info45:P.info? 45=some Try.t45:=by kernel_rfl
theorem run_len_106 {p:Option Addr} {l c:Nat} (wq:World):(Builtin.len_ #[106] 3 [Value.slice p l c].toArray).run P wq=.ok (.int .i64 l) wq:=run_len_slice p l c Try.underlying106 3
def HadOk (l:List Ev) (had:List Mo.Acc):Prop:=∀ x∈had,∃ i,∃ hi:i < l.length,x.ev=(i:Int)∧x.th=l[i].th
section
variable {l:List Ev} {hh:Hist} {v1 v2 v3:Value} {L1 L2 L3:List (Nat × Obj)} {n6:Nat} {sa:Option Addr} {sc:Nat}
abbrev allY (n6:Nat) (v1 v2 v3:Value) (L1 L2 L3 H:List (Nat × Obj)):List (Nat × Obj):=(n6,Cs [v1,v2,v3] 89)::(L1++(L2++(L3++H)))
theorem all_s4 {n37 j:Nat} {y:Mo.Acc} {b:Int} {had:List Mo.Acc} {out:List Mo.Race} {oa ha:Option Addr} {oc hc:Nat} {Lo Lh:List (Nat × Obj)} {Y1:Env→World→Prop}
  (hrow:∀ w',St w0 w' H→Row w' 6 (.slice sa l.length sc) l.length (evsCs l)) (hho:HistOk w0 hh v1 v2 v3 L1 L2 L3) (hlen:hh.events.length=l.length) (hth:∀ e∈l,0≤e.th∧e.th < 8) (hl:l.length≤20000) (hn6:w0.heap.size≤n6) (hn37:w0.heap.size≤n37)
  (hj:j < l.length) (hhad:HadOk l had) (hhl:had.length≤j) (hol:out.length≤1000) (hy:∃ hj:j < l.length,y.ev=(j:Int)∧y.th=l[j].th)
  (hS:SlO 11 47 (.slice oa out.length oc) out.length (racesCs out) Lo) (hN:New w0 Lo) (hSh:SlO 5 45 (.slice ha had.length hc) had.length (accsCs had) Lh) (hNh:New w0 Lh)
  (h:St w0 w ((n37,Cs (Acccs y) 45)::(Lo++(Lh++allY n6 v1 v2 v3 L1 L2 L3 H))))
  (herr:allIn hh b y j had out=none→∀ w',St w0 w' H→K (.tuple [nilS,I64 2].toArray) w')
  (hnext:∀ out',allIn hh b y j had out=some out'→∀ w' oa' oc' Lo' ha' hc' Lh',SlO 11 47 (.slice oa' out'.length oc') out'.length (racesCs out') Lo'→New w0 Lo'→SlO 5 45 (.slice ha' (had.length+1) hc') (had.length+1) (accsCs (had++[y])) Lh'→New w0 Lh'→
   St w0 w' (Lo'++(Lh'++allY n6 v1 v2 v3 L1 L2 L3 H))→f32_s3 none 0 0 0 oa' out'.length oc' ha' (had.length+1) hc' b sa l.length sc (Addr.mk n6 0 none) l.length j w' K Y1) :
  f32_s4 none 0 0 0 oa out.length oc ha had.length hc b sa l.length sc (Addr.mk n6 0 none) l.length j (Addr.mk n37 0 none) j w K Y1:=by
 rw [f32_s4_eq]
 refine ⟨had.length,fun wq _=>run_len_106 wq,?_⟩
 have fix:∀ {w':World} {Lo:List (Nat × Obj)} {X:List (Nat × Obj)},New w0 X→New w0 Lo→St w0 w' (X++((n37,Cs (Acccs y) 45)::(Lo++(Lh++allY n6 v1 v2 v3 L1 L2 L3 H))))→St w0 w' H:=fun hX hLo h'=>by
  have h1:=(h'.sub hX).tail hn37
  exact (((((h1.sub hLo).sub hNh).tail hn6).sub hho.n1).sub hho.n2).sub hho.n3
 refine ⟨fun m ee w'=>∃ (k:Nat) (out':List Mo.Race) (oa':Option Addr) (oc':Nat) (Lo':List (Nat × Obj)),k≤had.length∧m=had.length - k∧
  ee=Env.mk 72 [(4,nilS),(5,(Value.int .i64 0)),(9,(Value.slice oa' out'.length oc')),(8,(Value.slice ha had.length hc)),(1,(Value.int .u32 b)),(0,(Value.slice sa l.length sc)),(6,(ptr n6)),(24,(Value.int .i64 l.length)),(25,(Value.int .i64 j)),(11,(ptr n37)),(39,(Value.int .i64 k)),(10,(Value.int .i64 j)),(37,(Value.slice ha had.length hc)),(38,(Value.int .i64 had.length))] []∧
  allIn hh b y j had out=allIn hh b y j (had.drop k) out'∧out'.length≤1000∧SlO 11 47 (.slice oa' out'.length oc') out'.length (racesCs out') Lo'∧New w0 Lo'∧St w0 w' ((n37,Cs (Acccs y) 45)::(Lo'++(Lh++allY n6 v1 v2 v3 L1 L2 L3 H))),
  ⟨had.length,0,out,oa,oc,Lo,by omega,rfl,rfl,rfl,hol,hS,hN,h⟩,?_⟩
 rintro m ee w1 ⟨k,out',oa',oc',Lo',hk,rfl,rfl,hin,hol',hS',hN',h1⟩
 show f32_lb5 _ _ _ _ _ _ _ _ _ _ _ _ _ _ _ _ _ _ _ _ _ _ _ _ _ _ _ _
 rw [f32_lb5_eq,BIf_iff]
 constructor
 ·intro hlt
  have hlt:k < had.length:=by simpa using hlt
  rw [f32_s6_eq]
  obtain ⟨g,cc,hg,hld⟩:=slO_ldA hSh (w:=w1) (i:=k) (fun y hy=>h1.has _ _ (by simp [hy])) hlt
  obtain ⟨hsa,-⟩:ha=some ⟨g,0,none⟩∧hc=cc:=by simpa using hg
  subst hsa
  refine ⟨by omega,by omega,hld _ ?_⟩
  rw [accs_at hlt,z45]
  refine h1.newC fun n91 w2 hn91 h2=>h2.stA (k:=0) rfl rfl (by simp) (Acccs_one _) fun w3 h3=>?_
  have h3:St w0 w3 ((n91,Cs (Acccs had[k]) 45)::(n37,Cs (Acccs y) 45)::(Lo'++(Lh++allY n6 v1 v2 v3 L1 L2 L3 H))):=h3
  refine h3.ldA (k:=0) (i:=0) rfl (by simp [Acccs_len]) (h3.ldA (k:=1) (i:=0) rfl (by simp [Acccs_len]) ?_)
  have hdrop:had.drop k=had[k]::had.drop (k+1):=List.drop_eq_getElem_cons hlt
  have s7:∀ b99 w4,St w0 w4 ((n91,Cs (Acccs had[k]) 45)::(n37,Cs (Acccs y) 45)::(Lo'++(Lh++allY n6 v1 v2 v3 L1 L2 L3 H)))→(!conflict had[k] y || before hh had[k] j)=b99→
    f32_s7 b99 none 0 0 0 oa' out'.length oc' (some ⟨g,0,none⟩) had.length hc b sa l.length sc (Addr.mk n6 0 none) l.length j (Addr.mk n37 0 none) j (some ⟨g,0,none⟩) had.length hc had.length k (Addr.mk n91 0 none) w4 K Y1
     (fun e' w'=>∃ m,m < had.length - k∧∃ (k:Nat) (out':List Mo.Race) (oa':Option Addr) (oc':Nat) (Lo':List (Nat × Obj)),k≤had.length∧m=had.length - k∧
      e'=Env.mk 72 [(4,nilS),(5,(Value.int .i64 0)),(9,(Value.slice oa' out'.length oc')),(8,(Value.slice (some ⟨g,0,none⟩) had.length hc)),(1,(Value.int .u32 b)),(0,(Value.slice sa l.length sc)),(6,(ptr n6)),(24,(Value.int .i64 l.length)),(25,(Value.int .i64 j)),(11,(ptr n37)),(39,(Value.int .i64 k)),(10,(Value.int .i64 j)),(37,(Value.slice (some ⟨g,0,none⟩) had.length hc)),(38,(Value.int .i64 had.length))] []∧
      allIn hh b y j had out=allIn hh b y j (had.drop k) out'∧out'.length≤1000∧SlO 11 47 (.slice oa' out'.length oc') out'.length (racesCs out') Lo'∧New w0 Lo'∧St w0 w' ((n37,Cs (Acccs y) 45)::(Lo'++(Lh++allY n6 v1 v2 v3 L1 L2 L3 H)))):=by
   intro b99 w4 h4 hb
   rw [f32_s7_eq,BIf_iff]
   constructor
   ·rintro rfl
    rw [f32_s8_eq]
    refine ⟨had.length - (k+1),by omega,k+1,out',oa',oc',Lo',by omega,rfl,?_,?_,hol',hS',hN',h4.tail hn91⟩
    ·rw [wrap_i64 (by omega) (by omega)]; rfl
    ·rw [hin,hdrop,allIn,if_pos hb]
   ·rintro rfl
    rw [f32_s9_eq]
    refine ⟨out'.length,fun wq _=>run_len_25 wq,?_⟩
    rw [BIf_iff]
    constructor
    ·intro h1000
     have h1000:out'.length=1000:=by simp at h1000; omega
     refine herr (by rw [hin,hdrop,allIn,if_neg (by rw [hb]; simp),if_pos h1000]) w4 (fix (X:=[(n91,Cs (Acccs had[k]) 45)]) (by simpa [New] using hn91) hN' h4)
    ·intro h1000
     have h1000:¬ out'.length=1000:=by simp at h1000; omega
     rw [f32_s10_eq]
     refine h4.ldA (k:=0) (i:=0) rfl (by simp [Acccs_len]) (h4.ldA (k:=1) (i:=0) rfl (by simp [Acccs_len]) ⟨_,build47 b had[k] y,⟨rfl,trivial⟩,?_⟩)
     refine h4.newC fun n166 w5 hn166 h5=>?_
     obtain ⟨g',cap,w6,Lo'',hr,hS'',hs6,hN''⟩:=St.append (P:=P) 25 25 47 Try.t47 (.agg #[.int .u32 0,I64 0,I64 0,.int .u32 0,.bool false,.bool false,I64 0,I64 0,.int .u32 0,.bool false,.bool false]) 11 56 Try.underlying25 info47 rfl rfl rfl rfl (by omega)
      (A:=[(n166,Cs (Racecs ⟨b,had[k],y⟩) 47),(n91,Cs (Acccs had[k]) 45),(n37,Cs (Acccs y) 45)]) (L:=Lo') (H:=Lh++allY n6 v1 v2 v3 L1 L2 L3 H) (by exact h5) hS' hN' (j:=0) rfl rfl (Racecs_one _) (by simp [maxLen]; omega) (by omega)
     refine ⟨_,_,_,w6,hr,?_⟩
     have hs6:St w0 w6 ((n166,Cs (Racecs ⟨b,had[k],y⟩) 47)::(n91,Cs (Acccs had[k]) 45)::(n37,Cs (Acccs y) 45)::(Lo''++(Lh++allY n6 v1 v2 v3 L1 L2 L3 H))):=hs6
     rw [f32_s8_eq]
     refine ⟨had.length - (k+1),by omega,k+1,out'++[⟨b,had[k],y⟩],some ⟨g',0,none⟩,cap,Lo'',by omega,rfl,?_,?_,by rw [List.length_append]; simp; omega,?_,hN'',(hs6.tail hn166).tail hn91⟩
     ·rw [wrap_i64 (by omega) (by omega),List.length_append]; rfl
     ·rw [hin,hdrop,allIn,if_neg (by rw [hb]; simp),if_neg h1000]
     ·rw [racesCs_snoc,List.length_append]; exact hS''
  refine conflict_ok h3 had[k] y fun w4 h4=>⟨_,rfl,?_⟩
  rw [BIf_iff]
  constructor
  ·intro hc'
   exact s7 true w4 h4 (by rw [hc']; rfl)
  ·intro hc'
   refine LdA_of (n:=3) (b:=n6) (cs:=[v1,v2,v3]) (t:=89) (i:=0) (h4.has n6 _ (by simp)) (by simp) ?_
   obtain ⟨i,hi,hxe,hxt⟩:=hhad had[k] (List.getElem_mem hlt)
   refine ⟨had[k].ev,by rw [h4.cell (k:=0) rfl]; rfl,?_⟩
   refine before_ok (l:=l) (hh:=hh) (i:=i) (j:=j) (x:=had[k]) h4 (fun w' h'=>hrow _ (fix (X:=[(n91,Cs (Acccs had[k]) 45)]) (by simpa [New] using hn91) hN' h')) hho (fun z hz=>by simp [hz]) hlen hi hj hxe hxt (by rw [hxt]; exact hth _ (List.getElem_mem hi)) fun w5 h5=>⟨_,rfl,s7 _ w5 h5 ?_⟩
   rw [hc',Bool.false_or]
 ·intro hge
  have:k=had.length:=by simp at hge; omega
  subst this
  rw [List.drop_length] at hin
  have hin:allIn hh b y j had out=some out':=hin
  rw [f32_s11_eq]
  refine h1.ldA (k:=0) (i:=0) rfl (by simp [Acccs_len]) ⟨⟨rfl,trivial⟩,?_⟩
  refine h1.newC fun n188 w2 hn188 h2=>?_
  obtain ⟨g',cap,w3,Lh',hr,hSh',hs3,hNh'⟩:=St.append (P:=P) 106 106 45 Try.t45 (.agg #[I64 0,I64 0,.int .u32 0,.bool false,.bool false]) 5 24 Try.underlying106 info45 rfl rfl rfl rfl (by omega)
   (A:=(n188,Cs (Acccs y) 45)::(n37,Cs (Acccs y) 45)::Lo') (L:=Lh) (H:=allY n6 v1 v2 v3 L1 L2 L3 H) (by exact h2) hSh hNh (j:=0) rfl rfl (by simpa using Acccs_one y) (by simp [maxLen]; omega) (by omega)
  refine ⟨_,_,_,w3,hr,?_⟩
  have hs3:St w0 w3 ((n188,Cs (Acccs y) 45)::(n37,Cs (Acccs y) 45)::(Lo'++(Lh'++allY n6 v1 v2 v3 L1 L2 L3 H))):=hs3
  exact hnext out' hin w3 oa' oc' Lo' (some ⟨g',0,none⟩) cap Lh' hS' hN' (by rw [accsCs_snoc]; exact hSh') hNh' ((hs3.tail hn188).tail hn37)
end
end Go.Fx.Try
namespace Go.Fx.Try
open Go Go.Fx Go.Fx.Mo
open Go.Proofs
variable {w0 w:World} {H:List (Nat × Obj)} {K:Value→World→Prop}
set_option maxRecDepth 20000
theorem HadOk.snoc {l:List Ev} {had:List Mo.Acc} (h:HadOk l had) {y:Mo.Acc} {j:Nat} (hj:j < l.length) (he:y.ev=(j:Int)) (ht:y.th=l[j].th):HadOk l (had++[y]):=by
 intro x hx
 rcases List.mem_append.1 hx with hx | hx
 ·exact h x hx
 ·simp at hx; subst hx; exact ⟨j,hj,he,ht⟩
theorem all_ok {l:List Ev} {ov:Value} (h:St w0 w H) (hrow:∀ w',St w0 w' H→Row w' 6 ov l.length (evsCs l)) (hl63:l.length < 9223372036854775808) (b:Int)
  (herr:∀ x,Mo.all l b=.inr x→x≠0→∀ w',St w0 w' H→K (.tuple [nilS,I64 x].toArray) w')
  (hok:∀ out,Mo.all l b=.inl out→out.length≤1000→∀ w' rv Lo,SlO 11 47 rv out.length (racesCs out) Lo→New w0 Lo→St w0 w' (Lo++H)→K (.tuple [rv,I64 0].toArray) w') :
  CallL P 32 [ov,.int .u32 b] w K:=by
 obtain ⟨sa,sc,hov⟩:=(hrow w h).form
 subst hov
 refine f32_ok _ _ _ _ _ _ ?_
 rw [f32_eq,z89]
 refine run_ok h hrow hl63 (fun x hx w1 h1=>⟨_,x,rfl,?_⟩) (fun hh hrun w1 v1 v2 v3 L1 L2 L3 hho h1=>⟨_,0,rfl,?_⟩)
 ·refine h1.newC fun n6 w2 hn6 h2=>h2.stA (k:=0) rfl rfl (by simp) (by simp [Value.oneCell']) fun w3 h3=>?_
  have hx0:x≠0:=by
   unfold Mo.run at hx
   split at hx
   ·cases hx; omega
   ·split at hx
    ·cases hx
    ·cases hx; omega
  rw [show (x != 0)=true by simpa using hx0,BIf_true]
  exact herr x (by unfold Mo.all; rw [hx]) hx0 w3 (h3.tail hn6)
 ·refine h1.newC fun n6 w2 hn6 h2=>h2.stA (k:=0) rfl rfl (by simp) (by
    obtain ⟨a1,c1,e1⟩:=hho.s1.form
    obtain ⟨a2,c2,e2⟩:=hho.s2.form
    obtain ⟨a3,c3,e3⟩:=hho.s3.form
    simp [e1,e2,e3,Value.oneCell']) fun w3 h3=>?_
  have h3:St w0 w3 (allY n6 v1 v2 v3 L1 L2 L3 H):=h3
  rw [show ((0:Int) != 0)=false by decide,BIf_false]
  obtain ⟨hlen,hth,hl⟩:=run_facts hrun
  have hall:Mo.all l b=match allL hh b l 0 [] [] with
   | none=>.inr 2
   | some out=>.inl out:=by
   unfold Mo.all
   rw [hrun]
   all_goals (simp only; cases allL hh b l 0 [] [] <;> rfl)
  have fix:∀ {w':World} {X:List (Nat × Obj)},New w0 X→St w0 w' (X++allY n6 v1 v2 v3 L1 L2 L3 H)→St w0 w' H:=fun hX h'=>((((h'.sub hX).tail hn6).sub hho.n1).sub hho.n2).sub hho.n3
  rw [f32_s0_eq]
  refine ⟨l.length,fun wq _=>run_len_22 wq,?_⟩
  refine ⟨fun m ee w=>∃ (j:Nat) (out:List Mo.Race) (had:List Mo.Acc) (oa ha:Option Addr) (oc hc:Nat) (Lo Lh:List (Nat × Obj)),j≤l.length∧m=l.length - j∧
   ee=Env.mk 72 [(4,nilS),(5,(Value.int .i64 0)),(9,(Value.slice oa out.length oc)),(25,(Value.int .i64 j)),(8,(Value.slice ha had.length hc)),(1,(Value.int .u32 b)),(0,(Value.slice sa l.length sc)),(6,(ptr n6)),(24,(Value.int .i64 l.length))] []∧
   allL hh b l 0 [] []=allL hh b (l.drop j) j had out∧HadOk l had∧had.length≤j∧out.length≤1000∧SlO 11 47 (.slice oa out.length oc) out.length (racesCs out) Lo∧New w0 Lo∧SlO 5 45 (.slice ha had.length hc) had.length (accsCs had) Lh∧New w0 Lh∧
   St w0 w (Lo++(Lh++allY n6 v1 v2 v3 L1 L2 L3 H)),
   ⟨l.length,0,[],[],none,none,0,0,[],[],by omega,rfl,rfl,rfl,fun x hx=>by simp at hx,by simp,by simp,SlO.nil 11 47,New.nil w0,SlO.nil 5 45,New.nil w0,h3⟩,?_⟩
  rintro m ee w4 ⟨j,out,had,oa,ha,oc,hc,Lo,Lh,hj,rfl,rfl,hL,hhad,hhl,hol,hS,hN,hSh,hNh,h4⟩
  show f32_lb1 _ _ _ _ _ _ _ _ _ _ _ _ _ _ _ _ _ _ _ _
  have hNL:New w0 (Lo++Lh):=fun x hx=>by
   rcases List.mem_append.1 hx with hx | hx
   ·exact hN x hx
   ·exact hNh x hx
  have fix4:∀ {w':World},St w0 w' (Lo++(Lh++allY n6 v1 v2 v3 L1 L2 L3 H))→St w0 w' H:=fun h'=>fix (X:=Lo++Lh) hNL (by rw [List.append_assoc]; exact h')
  rw [f32_lb1_eq,BIf_iff]
  constructor
  ·intro hlt
   have hlt:j < l.length:=by simpa using hlt
   rw [f32_s2_eq,z45]
   have hdrop:l.drop j=l[j]::l.drop (j+1):=List.drop_eq_getElem_cons hlt
   refine access_ok (l:=l) h4 (fun w' h'=>hrow _ (fix4 h')) hlt b fun w5 h5=>?_
   have s3:∀ w6 (out':List Mo.Race) (had':List Mo.Acc) oa' oc' Lo' ha' hc' Lh',allL hh b l 0 [] []=allL hh b (l.drop (j+1)) (j+1) had' out'→HadOk l had'→had'.length≤j+1→out'.length≤1000→SlO 11 47 (.slice oa' out'.length oc') out'.length (racesCs out') Lo'→New w0 Lo'→
     SlO 5 45 (.slice ha' had'.length hc') had'.length (accsCs had') Lh'→New w0 Lh'→St w0 w6 (Lo'++(Lh'++allY n6 v1 v2 v3 L1 L2 L3 H))→
     f32_s3 none 0 0 0 oa' out'.length oc' ha' had'.length hc' b sa l.length sc (Addr.mk n6 0 none) l.length j w6 K (fun e' w'=>∃ m,m < l.length - j∧∃ (j:Nat) (out:List Mo.Race) (had:List Mo.Acc) (oa ha:Option Addr) (oc hc:Nat) (Lo Lh:List (Nat × Obj)),j≤l.length∧m=l.length - j∧
      e'=Env.mk 72 [(4,nilS),(5,(Value.int .i64 0)),(9,(Value.slice oa out.length oc)),(25,(Value.int .i64 j)),(8,(Value.slice ha had.length hc)),(1,(Value.int .u32 b)),(0,(Value.slice sa l.length sc)),(6,(ptr n6)),(24,(Value.int .i64 l.length))] []∧
      allL hh b l 0 [] []=allL hh b (l.drop j) j had out∧HadOk l had∧had.length≤j∧out.length≤1000∧SlO 11 47 (.slice oa out.length oc) out.length (racesCs out) Lo∧New w0 Lo∧SlO 5 45 (.slice ha had.length hc) had.length (accsCs had) Lh∧New w0 Lh∧
      St w0 w' (Lo++(Lh++allY n6 v1 v2 v3 L1 L2 L3 H))):=by
    intro w6 out' had' oa' oc' Lo' ha' hc' Lh' k1 k2 k3 k4 k5 k6 k7 k8 k9
    rw [f32_s3_eq]
    refine ⟨l.length - (j+1),by omega,j+1,out',had',oa',ha',oc',hc',Lo',Lh',by omega,rfl,?_,k1,k2,k3,k4,k5,k6,k7,k8,k9⟩
    rw [wrap_i64 (by omega) (by omega)]; rfl
   cases hacc:accessAt l[j] j b with
   | none=>
    refine ⟨_,_,rfl,h5.newC fun n37 w6 hn37 h6=>h6.stA (k:=0) rfl rfl (by simp) (by simp [zacc,Value.oneCell']) fun w7 h7=>?_⟩
    rw [Bool.not_false,BIf_true]
    exact s3 w7 out had oa oc Lo ha hc Lh (by rw [hL,hdrop,allL,hacc]) hhad (by omega) hol hS hN hSh hNh (h7.tail hn37)
   | some y=>
    have hye:y.ev=(j:Int)∧y.th=l[j].th:=by
     unfold accessAt at hacc
     split at hacc
     ·cases hacc
     ·cases hacc; exact ⟨rfl,rfl⟩
    refine ⟨_,_,rfl,h5.newC fun n37 w6 hn37 h6=>h6.stA (k:=0) rfl rfl (by simp) (Acccs_one y) fun w7 h7=>?_⟩
    rw [Bool.not_true,BIf_false]
    have h7:St w0 w7 ((n37,Cs (Acccs y) 45)::(Lo++(Lh++allY n6 v1 v2 v3 L1 L2 L3 H))):=h7
    refine all_s4 hrow hho hlen hth hl hn6 hn37 hlt hhad hhl hol ⟨hlt,hye⟩ hS hN hSh hNh h7 (fun hn w8 h8=>?_) fun out' hin w8 oa' oc' Lo' ha' hc' Lh' k1 k2 k3 k4 k5=>?_
    ·exact herr 2 (by rw [hall,hL,hdrop,allL,hacc]; simp only; rw [hn]) (by omega) w8 h8
    ·have:=s3 w8 out' (had++[y]) oa' oc' Lo' ha' hc' Lh' (by rw [hL,hdrop,allL,hacc]; simp only; rw [hin]) (hhad.snoc hlt hye.1 hye.2) (by rw [List.length_append]; simp; omega) (allIn_len hol hin) k1 k2 (by rw [List.length_append]; exact k3) k4 k5
     rw [List.length_append] at this
     exact this
  ·intro hge
   have:j=l.length:=by simp at hge; omega
   subst this
   rw [List.drop_length] at hL
   have hL:allL hh b l 0 [] []=some out:=hL
   rw [f32_s12_eq]
   refine hok out (by rw [hall,hL]) hol w4 _ Lo hS hN ?_
   refine St.sub (L:=Lh++((n6,Cs [v1,v2,v3] 89)::(L1++(L2++L3)))) (h4.perm (perm_by fun c=>?_)) ?_
   ·simp only [List.map_append,List.map_cons,List.sum_append,List.sum_cons]; omega
   ·intro x hx
    simp only [List.mem_append,List.mem_cons] at hx
    rcases hx with hx | rfl | hx | hx | hx
    ·exact hNh x hx
    ·exact hn6
    ·exact hho.n1 x hx
    ·exact hho.n2 x hx
    ·exact hho.n3 x hx
end Go.Fx.Try
namespace Go.Fx.Mo
theorem totN_bsum {l:List Ev} (h:bsum l≤2000):∀ n,n≤l.length→(totN l n:Int)+bsum (l.drop n)≤bsum l
 | 0,_=>by simp [totN]
 | n+1,hn=>by
  have ih:=totN_bsum h n (by omega)
  have hd:l.drop n=evN l n::l.drop (n+1):=by
   rw [List.drop_eq_getElem_cons (by omega)]
   unfold evN
   simp [List.getD,show n < l.length by omega]
  rw [hd] at ih
  have h1:=bsum_nonneg (l.drop (n+1))
  have h2:=(bsum1_range (evN l n)).1
  have e1:bsum (evN l n::l.drop (n+1))=bsum1 (evN l n)+bsum (l.drop (n+1)):=rfl
  rw [e1] at ih
  have h3:=touched_bsum (evN l n) (by omega)
  unfold totN
  omega
theorem totN_few {l:List Ev} {k:Nat} (h:bsum l≤k) (hk:k≤2000):totN l l.length≤k:=by
 have:=totN_bsum (by omega:bsum l≤2000) l.length (Nat.le_refl _)
 have:=bsum_nonneg (l.drop l.length)
 omega
end Go.Fx.Mo
namespace Go.Fx.Try
open Go Go.Fx Go.Fx.Mo
open Go.Proofs
variable {w0 w:World} {H:List (Nat × Obj)} {K:Value→World→Prop}
set_option maxRecDepth 20000
theorem small_ok {l:List Ev} {ov:Value} (n:Int) (hn:n≤1000) (h:St w0 w H) (hrow:∀ w',St w0 w' H→Row w' 6 ov l.length (evsCs l)) (hK:∀ b w',(b=true→l.length≤n∧bsum l≤600)→St w0 w' H→K (.bool b) w'):CallL P 30 [ov,.int .i64 n] w K:=by
 obtain ⟨sa,sc,hov⟩:=(hrow w h).form
 rw [hov]
 refine f30_ok _ _ _ _ _ _ ?_
 rw [f30_eq]
 refine ⟨l.length,fun wq _=>run_len_22 wq,?_⟩
 rw [BIf_iff]
 constructor
 ·intro hle
  have hle:(l.length:Int)≤n:=by simpa using hle
  rw [← hov]
  refine bytesSum_ok h hrow (by omega) fun w1 h1=>⟨_,rfl,?_⟩
  rw [f30_s0_eq]
  exact hK _ w1 (fun hb=>⟨hle,by simpa using hb⟩) h1
 ·intro _
  rw [f30_s0_eq]
  exact hK false w (fun hb=>by cases hb) h
abbrev TwoR (Rest:Option Addr→Nat→Nat→Int→Option Addr→Nat→Nat→Int→World→Prop) (g:FuncId) (args:List Value) (s13a:Option Addr) (s13l s13c:Nat) (x14:Int) (w12:World):Prop:=
 CallL P g args w12 (fun r15 w16=>∃ (s17a:Option Addr) (s17l s17c:Nat),∃ x18:Int,r15=(Value.tuple [(Value.slice s17a s17l s17c),(Value.int .i64 x18)].toArray)∧Rest s13a s13l s13c x14 s17a s17l s17c x18 w16)
theorem nilRow (w':World):Row w' 11 nilS 0 (racesCs []):=⟨rfl,.inl ⟨rfl,rfl⟩⟩
theorem race_pair {l:List Ev} {ov:Value} {Rest:Option Addr→Nat→Nat→Int→Option Addr→Nat→Nat→Int→World→Prop} (href:races l=refRaces l) (hl:l.length≤1000) (hpk:∀ r,rord l=.inl r→PartsOk (parts l)) (h:St w0 w H) (hrow:∀ w',St w0 w' H→Row w' 6 ov l.length (evsCs l))
  (hK:∀ (e:Int) (w7:World) (aa ba:Option Addr) (ac bc:Nat) (o:List Mo.Race) (L:List (Nat × Obj)),o.length≤20000000→
   (∀ w',(∀ y∈L,w'.heap[y.1]?=some y.2)→Row w' 11 (.slice aa o.length ac) o.length (racesCs o)∧Row w' 11 (.slice ba o.length bc) o.length (racesCs o))→New w0 L→St w0 w7 (L++H)→Rest aa o.length ac e ba o.length bc e w7) :
  CallL P 16 [ov] w (fun r11 w12=>∃ (s13a:Option Addr) (s13l s13c:Nat),∃ x14:Int,r11=(Value.tuple [(Value.slice s13a s13l s13c),(Value.int .i64 x14)].toArray)∧TwoR Rest 31 [ov] s13a s13l s13c x14 w12):=by
 refine races_ok sort48 h hrow (by omega) (fun x hx hx0 w3 h3=>⟨none,0,0,x,rfl,?_⟩) (fun out hx hlen w3 rv Lo hS hN h3=>?_)
 ·rw [href] at hx
  refine refRaces_ok h3 hrow hpk (fun y hy hy0 w4 h4=>⟨none,0,0,y,rfl,?_⟩) (fun o hy hlen w4 a c L hS hN h4=>by rw [hx] at hy; cases hy)
  rw [hx] at hy
  cases hy
  exact hK x w4 none none 0 0 [] [] (by simp) (fun w' _=>⟨nilRow w',nilRow w'⟩) (New.nil w0) h4
 ·obtain ⟨ra,rc,hrv⟩:=hS.form
  subst hrv
  refine ⟨ra,_,rc,0,rfl,?_⟩
  rw [href] at hx
  refine refRaces_ok h3 (fun w' h'=>hrow w' (h'.sub hN)) hpk (fun y hy hy0 w4 h4=>by rw [hx] at hy; cases hy) (fun o hy hlen2 w4 a c L hS2 hN2 h4=>⟨a,_,c,0,rfl,?_⟩)
  rw [hx] at hy
  cases hy
  refine hK 0 w4 ra a rc c out (L++Lo) hlen2 (fun w' hw'=>⟨hS.row fun y hy=>hw' y (List.mem_append_right _ hy),hS2.row fun y hy=>hw' y (List.mem_append_left _ hy)⟩) (fun y hy=>?_) (by rw [List.append_assoc]; exact h4)
  rcases List.mem_append.1 hy with hy | hy
  ·exact hN2 y hy
  ·exact hN y hy
theorem all_pair {l:List Ev} {ov:Value} {Rest:Option Addr→Nat→Nat→Int→Option Addr→Nat→Nat→Int→World→Prop} (b:Int) (hl:l.length≤1000) (h:St w0 w H) (hrow:∀ w',St w0 w' H→Row w' 6 ov l.length (evsCs l))
  (hK:∀ (e:Int) (w7:World) (aa ba:Option Addr) (ac bc:Nat) (o:List Mo.Race) (L:List (Nat × Obj)),o.length≤1000→
   (∀ w',(∀ y∈L,w'.heap[y.1]?=some y.2)→Row w' 11 (.slice aa o.length ac) o.length (racesCs o)∧Row w' 11 (.slice ba o.length bc) o.length (racesCs o))→New w0 L→St w0 w7 (L++H)→Rest aa o.length ac e ba o.length bc e w7) :
  CallL P 32 [ov,.int .u32 b] w (fun r11 w12=>∃ (s13a:Option Addr) (s13l s13c:Nat),∃ x14:Int,r11=(Value.tuple [(Value.slice s13a s13l s13c),(Value.int .i64 x14)].toArray)∧TwoR Rest 33 [ov,.int .u32 b] s13a s13l s13c x14 w12):=by
 have href:=all_ref l b
 refine all_ok h hrow (by omega) b (fun x hx hx0 w3 h3=>⟨none,0,0,x,rfl,?_⟩) (fun out hx hlen w3 rv Lo hS hN h3=>?_)
 ·rw [href] at hx
  refine refAll_ok b h3 hrow (fun y hy hy0 w4 h4=>⟨none,0,0,y,rfl,?_⟩) (fun o hy hlen w4 a c L hS hN h4=>by rw [hx] at hy; cases hy)
  rw [hx] at hy
  cases hy
  exact hK x w4 none none 0 0 [] [] (by simp) (fun w' _=>⟨nilRow w',nilRow w'⟩) (New.nil w0) h4
 ·obtain ⟨ra,rc,hrv⟩:=hS.form
  subst hrv
  refine ⟨ra,_,rc,0,rfl,?_⟩
  rw [href] at hx
  refine refAll_ok b h3 (fun w' h'=>hrow w' (h'.sub hN)) (fun y hy hy0 w4 h4=>by rw [hx] at hy; cases hy) (fun o hy hlen2 w4 a c L hS2 hN2 h4=>⟨a,_,c,0,rfl,?_⟩)
  rw [hx] at hy
  cases hy
  refine hK 0 w4 ra a rc c out (L++Lo) hlen2 (fun w' hw'=>⟨hS.row fun y hy=>hw' y (List.mem_append_right _ hy),hS2.row fun y hy=>hw' y (List.mem_append_left _ hy)⟩) (fun y hy=>?_) (by rw [List.append_assoc]; exact h4)
  rcases List.mem_append.1 hy with hy | hy
  ·exact hN2 y hy
  ·exact hN y hy
theorem raceRaces_ok {l:List Ev} {ov:Value} (b:Int) (hla:∀ e∈l,0≤e.a∧e.a < 4294967296) (h:St w0 w H) (hrow:∀ w',St w0 w' H→Row w' 6 ov l.length (evsCs l)) (hK:∀ w',St w0 w' H→K (.bool true) w'):CallL P 8 [ov,.int .u32 b] w K:=by
 obtain ⟨sa,sc,hov⟩:=(hrow w h).form
 rw [hov]
 refine f8_ok _ _ _ _ _ _ ?_
 rw [f8_eq]
 refine sane_ok h fun w1 h1=>⟨true,rfl,?_⟩
 rw [← hov]
 refine small_ok 60 (by omega) h1 hrow fun v w2 hv h2=>⟨v,rfl,?_⟩
 rw [BIf_iff]
 constructor
 ·intro _
  exact hK w2 h2
 ·intro hvt
  obtain ⟨hl,hb⟩:=hv (by simpa using hvt)
  have htot:totN l l.length≤600:=totN_few (k:=600) hb (by omega)
  have href:=races_ref hla (.inr (by omega:totN l l.length≤1000))
  have hpk:∀ r,rord l=.inl r→PartsOk (parts l):=by
   intro r hr
   rcases run_rord l with ⟨x,_,h2,_⟩ | ⟨h,r',tk,h1,_⟩
   ·rw [hr] at h2; cases h2
   ·exact (parts_law (run_Ok h1).1 hla).2.1
  rw [f8_s0_eq,← hov]
  have fin:∀ w9,St w0 w9 H→f8_s1 true w9 K:=fun w9 h9=>by rw [f8_s1_eq]; exact hK w9 h9
  refine race_pair href (by omega) hpk h2 hrow ?_
  intro e w3 aa ba ac bc o1 L1 hl1 hr1 hN1 h3
  refine all_pair b (by omega) h3 (fun w' h'=>hrow w' (h'.sub hN1)) ?_
  intro e2 w7 ca da cc dc o2 L2 hl2 hr2 hN2 h7
  rw [show (e == e)=true by simp,show (e2 == e2)=true by simp,BIf_true,BIf_true]
  refine same_ok h7 (fun w' h'=>(hr1 w' fun y hy=>h'.has _ _ (by simp [hy])).1) (fun w' h'=>(hr1 w' fun y hy=>h'.has _ _ (by simp [hy])).2) (by omega) fun w8 h8=>⟨true,rfl,?_⟩
  rw [BIf_true]
  refine same_ok h8 (fun w' h'=>(hr2 w' fun y hy=>h'.has _ _ (by simp [hy])).1) (fun w' h'=>(hr2 w' fun y hy=>h'.has _ _ (by simp [hy])).2) (by omega) fun w9 h9=>⟨true,rfl,?_⟩
  rw [BIf_true]
  exact fin w9 ((h9.sub hN2).sub hN1)
end Go.Fx.Try
namespace Go.Fx
open Go
theorem St.below {w0 w:World} (h:St w0 w []):RowKit.Below w0.heap.size w0 w:=⟨h.kept.os,h.kept.tape,h.kept.output,h.le,fun k hk=>h.old k hk (by simp)⟩
namespace Try
open Go.Fx.Mo
open Go.Proofs
set_option maxRecDepth 20000
theorem cells35:P.cellsOf 35=6:=by kernel_rfl
theorem cells3:P.cellsOf 3=1:=by kernel_rfl
theorem cells33:P.cellsOf 33=1:=by kernel_rfl
variable {H:Type} {enc:TypeId × Value→H} {W:World}
theorem evs_cell (l:List Ev) {i j:Nat} (hi:i < l.length) (hj:j < 6):(evsCs l)[i * 6+j]?=(Evcs l[i])[j]?:=by
 have h:=evs_at hi
 have:=congrArg (fun l=>l[j]?) h
 simp only [List.getElem?_take,hj,if_true,List.getElem?_drop] at this
 exact this
theorem own:ownKnob P.godebug=none:=by kernel_rfl
theorem laidOut:laidOutB P=true:=by kernel_rfl
theorem readable22:P.readableRec 22=true:=by kernel_rfl
theorem types22:22 < P.types.size:=of_decide_eq_true (by kernel_rfl)
end Try
end Go.Fx
namespace Go.Fx.Try
open Go Go.Fx Go.Fx.Mo
open Go.Proofs
set_option maxRecDepth 20000
variable {H:Type} {enc:TypeId × Value→H} {W:World}
theorem wf_u32 {n:Int} (h:(Lit.int .u32 n).wf=true):0≤n∧n < 4294967296:=by
 simp [Lit.wf,IntKind.min,IntKind.max,IntKind.signed,IntKind.bits] at h
 omega
theorem open_event_in {base:Nat} {spare:Nat→Bool} {held:Bool} {fuel:Nat} {cs:List Value} {x:DataW H × List MemPlace} (h:DataW.trod enc P W base spare held fuel 35 cs=some x):∃ e:Ev,cs=Evcs e∧0≤e.a∧e.a < 4294967296:=by
 obtain ⟨xs,n,_,_,hl,hlen,hf⟩:=DataW.trod_struct Try.underlying35 h
 rw [cells35] at hl
 match cs,hl with
 | [c0,c1,c2,c3,c4,c5],_=>
 have hx:∀ i,i < 6→∃ y,xs[i]?=some y:=fun i hi=>⟨xs[i]'(by rw [hlen]; exact hi),List.getElem?_eq_getElem _⟩
 obtain ⟨y0,e0⟩:=hx 0 (by omega)
 obtain ⟨y1,e1⟩:=hx 1 (by omega)
 obtain ⟨y2,e2⟩:=hx 2 (by omega)
 obtain ⟨y3,e3⟩:=hx 3 (by omega)
 obtain ⟨y4,e4⟩:=hx 4 (by omega)
 obtain ⟨y5,e5⟩:=hx 5 (by omega)
 obtain ⟨k0,g0,_⟩:=DataW.trod_int Try.underlying3 ((hf 0 _ rfl).trans e0)
 obtain ⟨k1,g1,_⟩:=DataW.trod_int Try.underlying3 ((hf 1 _ rfl).trans e1)
 obtain ⟨k2,g2,_⟩:=DataW.trod_int Try.underlying33 ((hf 2 _ rfl).trans e2)
 obtain ⟨k3,g3,_,w3⟩:=DataW.trod_int Try.underlying33 ((hf 3 _ rfl).trans e3)
 obtain ⟨k4,g4,_⟩:=DataW.trod_int Try.underlying33 ((hf 4 _ rfl).trans e4)
 obtain ⟨k5,g5,_⟩:=DataW.trod_int Try.underlying3 ((hf 5 _ rfl).trans e5)
 simp [cells3,cells33] at g0 g1 g2 g3 g4 g5
 subst g0 g1 g2 g3 g4 g5
 exact ⟨⟨k0,k1,k2,k3,k4,k5⟩,rfl,wf_u32 w3⟩
theorem open_events_in {base:Nat} {spare:Nat→Bool} {held:Bool} {v:Value} {d:DataW H} {p:List MemPlace} (hv:∃ a len cap,v=.slice a len cap) (h:DataW.Trod enc P W base spare held 22 v d p) :
  ∃ l:List Ev,Row W 6 v l.length (evsCs l)∧∀ e∈l,0≤e.a∧e.a < 4294967296:=by
 obtain ⟨fuel,hf⟩:=h
 obtain ⟨a0,len0,cap0,rfl⟩:=hv
 rcases Deep.open_slice Try.underlying22 hf with ⟨hc,_⟩ | ⟨a,len,cap,m,n,D,Pl,hc,_,hle,hcm,hm,_,hall⟩
 ·have hv:Value.slice a0 len0 cap0=.slice none 0 0:=by simpa [Value.cells] using hc
  exact ⟨[],⟨rfl,.inl ⟨hv,rfl⟩⟩,by simp⟩
 ·have hv:Value.slice a0 len0 cap0=.slice (some a) len cap:=by simpa [Value.cells] using hc
  have hlm:len≤m:=by rw [hm]; split <;> omega
  obtain ⟨E,hE⟩:=Deep.choose_lt (α:=Ev) (n:=len) (p:=fun i e=>(0≤e.a∧e.a < 4294967296)∧∀ j,j < 6→W.cell? (a.add (i * 6+j))=(Evcs e)[j]?) (fun i hi=>by
   obtain ⟨cs',h1,h2⟩:=hall i (by omega)
   obtain ⟨e,rfl,he⟩:=open_event_in h2
   rw [cells35] at h1
   obtain ⟨_,_,h3⟩:=World.cells?_some h1
   exact ⟨e,he,fun j hj=>by rw [← h3 j hj,add_add']⟩)
  have hlen:((List.range len).map E).length=len:=by simp
  refine ⟨(List.range len).map E,⟨evsCs_len _,.inr ⟨a,cap,by rw [hlen]; exact hv,fun i hi=>?_⟩⟩,fun e he=>?_⟩
  ·rw [hlen] at hi
   have hq:i / 6 < ((List.range len).map E).length:=by rw [hlen]; omega
   have h1:=(hE (i / 6) (by omega)).2 (i % 6) (by omega)
   have h2:=evs_cell ((List.range len).map E) (i:=i / 6) (j:=i % 6) hq (by omega)
   have e:i / 6 * 6+i % 6=i:=by omega
   rw [e] at h1 h2
   rw [h1,h2]
   simp
  ·obtain ⟨k,hk,rfl⟩:=List.mem_map.1 he
   exact (hE k (List.mem_range.1 hk)).1
end Go.Fx.Try
