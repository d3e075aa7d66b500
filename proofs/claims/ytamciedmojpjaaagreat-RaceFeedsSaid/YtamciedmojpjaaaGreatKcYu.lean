/- A part of the proof. -/
import Derived.Test.YtamciedmojpjaaaGreatKbYu
import Derived.Sort.Grow
import Derived.Deep.Draws
import Derived.KernelRfl
import Derived.Test.YtamciedmojpjaaaGreatKaYu
import Derived.Shelf.SlSortCmp.WholeK
import Derived.Test.YtamciedmojpjaaaGreatProg
import Derived.Shelf.SlSortCmp.NoneTotal
set_option linter.unusedSectionVars false
set_option autoImplicit true
set_option relaxedAutoImplicit true
noncomputable section
namespace Go.Fx.Tryz
open Go Go.Fx Go.Fx.Mo
open Go.Proofs
variable {w0 w:World} {H:qP} {K:KT}
set_option maxRecDepth 20000
def zq(l:List Ev):List Value:=(l.map qE).flatten
theorem qu(e:Ev):(qE e).length=6:=rfl
theorem yr(e:Ev):∀ v∈(qE e).toArray.toList,v.oneCell'=true:=by simp[qE,Value.oneCell']
theorem QM{l:List Ev}{i:Nat}(hi:i<l.length):((zq l).drop (i*6)).take 6=qE l[i]:=yD (f:=qE) (fun x _=>qu x) hi
def yQ(m:q5D):List Value:=qj m.first::m.last.map qj
def qic(l:List q5D):List Value:=(l.map yQ).flatten
theorem qf5(l:List q5D)(m:q5D):qic (l++[m])=qic l++yQ m:=by simp[qic]
theorem z89:qn P 141=#[qy,qy,qy]:=kr
theorem z35:∃ cs:List Value,qn P 45=cs.toArray/\cs.length=6:=⟨_,rfl,by kernel_rfl⟩
theorem qzj(wq:World):(Instr.build 141 [].toArray).run P wq=.ok (.agg #[qy,qy,qy]) wq:=kr
theorem qwo(x:Int){c:vj}(hc:c.length=8)(wq:World):(Instr.build 173 [(0,(Value.int .i64 x)),(1,(Value.agg (c.map qj).toArray))].toArray).run P wq=.ok (.agg (yQ ⟨x,c⟩).toArray) wq:=by
 obtain⟨c0,c1,c2,c3,c4,c5,c6,c7,rfl⟩:=own8 hc
 kernel_rfl
theorem qC3:P.info? 173=some Tryz.t173:=kr
theorem qxi:P.info? 3=some Tryz.t3:=kr
theorem yb{p:Option Addr}{l c:Nat}(wq:World):(Builtin.len_ #[22] 3 [Value.slice p l c].toArray).run P wq=.ok (.int .i64 l) wq:=qZ p l c Tryz.underlying22 3
theorem vZ{p:Option Addr}{l c:Nat}(wq:World):(Builtin.len_ #[60] 3 [Value.slice p l c].toArray).run P wq=.ok (.int .i64 l) wq:=qZ p l c Tryz.underlying60 3
theorem qw1(l:List vH):∀ v∈Qh l,v.oneCell'=true:=by
 intro v hv
 obtain⟨x,hx,hv⟩:=List.mem_flatten.1 hv
 obtain⟨r,_,rfl⟩:=List.mem_map.1 hx
 simp[zu]at hv
 rcases hv with rfl | rfl | rfl | rfl<;>rfl
theorem qf6(T:Th)(e:Ev)(p:Pl):(act T e p).orders.length<=p.orders.length+(if e.kind=4 then e.n.toNat else 1):=by
 unfold act
 by_cases h4:e.kind=4
 ·rw[if_pos h4,if_pos h4]
  rw[<-q6E]
  exact q4d T e p _
 ·rw[if_neg h4,if_neg h4]
  have hn:∀ x,(number T p x).2.orders=p.orders:=fun x=>vT T p x
  split
  ·unfold jk
   split
   ·simp
   ·simp[tick]
  ·split
   ·unfold Mo.join
    split
    ·simp
    ·simp[tick]
   ·split
    ·simp[Mo.qzK,tick,acquire,hn]
    ·split
     ·simp[Mo.q7p,tick,release,hn]
     ·simp[Mo.step,tick]
theorem qda{T:Th}{e:Ev}{q:Pl}(h:plan T e=some q):q.orders.length<=16:=by
 obtain⟨k1,k2,t1,t2,hn16⟩:=QD (zO h)
 unfold plan at h
 split at h
 ·cases h
 ·split at h
  ·cases h
  ·cases h
   have:=qf6 T e (yL T e)
   have h0:(yL T e).orders.length=0:=rfl
   split at this
   ·rename_i h4;have:=hn16 h4;omega
   ·omega
structure q8f (w0:World) (h:q1M) (v1 v2 v3:Value) (L1 L2 L3:qP):Prop where
 s1:zC 4 72 v1 h.orders.length (Qh h.orders) L1
 s2:zC 1 3 v2 h.of.length (h.of.map qj) L2
 s3:zC 9 173 v3 h.events.length (qic h.events) L3
 n1:zr w0 L1
 n2:zr w0 L2
 n3:zr w0 L3
 each:∀ m∈h.events,m.last.length=8
abbrev QO(n3:Nat)(v1 v2 v3:Value)(L1 L2 L3 Y:qP):List (Nat × Obj):=(n3,Cs [v1,v2,v3] 141)::(L1++(L2++(L3++Y)))
theorem qd0{n3:Nat}{v1 v2 v3:Value}{L1 L2 L3 Y:qP}{y:Nat × Obj}(h:y∈Y):y∈QO n3 v1 v2 v3 L1 L2 L3 Y:=by simp[h]
theorem qF9{p:Pl}{h0:q1M}{n1 n3 n16 i len:Nat}{pbk:Nat}{sa:Option Addr}{sc:Nat}{v1 v2 v3 ov:Value}{L1 L2 L3 M Y:qP}{t:TypeId}{e:Ev}{ob nb:Nat}{Y1:YT}
  (hw:St w0 w (QO n3 v1 v2 v3 L1 L2 L3 Y)) (hh:q8f w0 h0 v1 v2 v3 L1 L2 L3) (hown:p.own.length=8) (hpl:(pbk,Cs (qM n16 e ov ob nb p) t)∈Y) (hov:zC 4 72 ov p.orders.length (Qh p.orders) M) (hM:∀ y∈M,y∈Y)
  (hb:h0.orders.length<=1000000/\h0.of.length<=1000000/\h0.events.length<=1000000/\p.orders.length<=1000/\i<1000000)
  (hK:∀ w' v1' v2' v3' L1' L2' L3',q8f w0 ⟨h0.orders++p.orders,h0.of++List.replicate p.orders.length (i:Int),h0.events++[⟨p.tk,p.own⟩]⟩ v1' v2' v3' L1' L2' L3'->St w0 w' (QO n3 v1' v2' v3' L1' L2' L3' Y)->
   Y1 (ql.mk 70 [(2,(ptr n1)),(4,(ptr n3)),(17,(Value.int .i64 (IntKind.wrap .i64 ((i:Int)+1)))),(3,(Value.int .i64 0)),(5,(ptr n16)),(15,(Value.slice sa len sc)),(16,(Value.int .i64 len))] []) w') :
  ∃ (s59a:Option Addr) (s59l s59c:Nat),w.cell? (Addr.mk n3 0 none)=some (Value.slice s59a s59l s59c)/\∃ (s60a:Option Addr) (s60l s60c:Nat),w.cell? ((Addr.mk pbk 0 none).add 7)=some (Value.slice s60a s60l s60c)/\∃ (s61a:Option Addr) (s61l s61c:Nat),∃ w62:World,
   (Builtin.append_ #[60,60] 60 [(Value.slice s59a s59l s59c),(Value.slice s60a s60l s60c)].toArray).run P w=.ok (Value.slice s61a s61l s61c) w62/\zG (Addr.mk n3 0 none) (Value.slice s61a s61l s61c) w62 (fun w63=>qg2 (Addr.mk n3 0 none) i (Addr.mk n1 0 none) 0 (Addr.mk n16 0 none) sa len sc len i (some (Addr.mk pbk 0 none)) w63 K Y1):=by
 obtain⟨o1,o2,ho⟩:=hov.form
 obtain⟨h1a,h1c,hv1⟩:=hh.s1.form
 have pl7:∀ {w':World} {v1 L1 v2 L2 v3 L3} {X:qP},St w0 w' (X++QO n3 v1 v2 v3 L1 L2 L3 Y)->w'.heap[pbk]?=some (Cs (qM n16 e ov ob nb p) t):=fun h'=>h'.has pbk _ (List.mem_append_right _ (qd0 hpl))
 refine⟨h1a,_,h1c,by rw[hw.cell (k:=0) rfl,<-hv1];rfl,o1,_,o2,by rw[qc,Nat.zero_add,qv (pl7 (X:=[]) hw),<-ho];rfl,?_⟩
 obtain⟨b1,b2,b3,b4,b5⟩:=hb
 obtain⟨v',w1,L1',hr,hS1,hs1,hN1⟩:=St.appendN (P:=P) 60 60 72 Tryz.t72 (.agg #[qj 0,qj 0,qj 0,qj 0]) 4 32 Tryz.underlying60 qh4 rfl rfl rfl rfl om
  (A:=[(n3,Cs [v1,v2,v3] 141)]) (L:=L1) (H:=L2++(L3++Y)) hw hh.s1 hh.n1 hov (fun y hy=>hw.has _ _ (qd0 (hM y hy))) (qw1 _) (by simp[maxLen];omega) om
 rw[hv1,ho]at hr
 obtain⟨q1,q2,hq⟩:=hS1.form
 subst hq
 refine⟨_,_,_,w1,hr,?_⟩
 have hs1:St w0 w1 (QO n3 v1 v2 v3 L1' L2 L3 Y):=hs1
 refine hs1.st1 (k:=0) rfl (by simp) rfl fun w2 h2=>?_
 have h2:St w0 w2 (QO n3 (.slice q1 (h0.orders.length+p.orders.length) q2) v2 v3 L1' L2 L3 Y):=h2
 rw[qms]
 refine⟨o1,_,o2,by rw[qc,Nat.zero_add,qv (pl7 (X:=[]) h2),<-ho];rfl,p.orders.length,fun wq _=>vZ wq,?_⟩
 refine⟨fun m ee w=>∃ (k:Nat) (v2':Value) (L2':qP),k<=p.orders.length/\m=p.orders.length-k/\
  ee=ql.mk 70 [(45,(Value.int .i64 k)),(4,(ptr n3)),(6,(Value.int .i64 i)),(2,(ptr n1)),(3,(Value.int .i64 0)),(5,(ptr n16)),(15,(Value.slice sa len sc)),(16,(Value.int .i64 len)),(17,(Value.int .i64 i)),(8,(ptr pbk)),(44,(Value.int .i64 p.orders.length))] []/\
  zC 1 3 v2' (h0.of.length+k) ((h0.of++List.replicate k (i:Int)).map qj) L2'/\zr w0 L2'/\St w0 w (QO n3 (.slice q1 (h0.orders.length+p.orders.length) q2) v2' v3 L1' L2' L3 Y),
  ⟨p.orders.length,0,v2,L2,by omega,rfl,rfl,by simpa using hh.s2,hh.n2,h2⟩,?_⟩
 rintro m ee w3 ⟨k,v2',L2',hk,rfl,rfl,hS2,hN2,h3⟩
 show qji ..
 rw[qgb,qg]
 constructor
 ·intro hlt
  have hlt:k<p.orders.length:=by simpa using hlt
  rw[qmr]
  obtain⟨r1,r2,hr2⟩:=hS2.form
  refine⟨r1,_,r2,by rw[qc,Nat.zero_add,h3.cell (k:=0) rfl,<-hr2];rfl,⟨rfl,trivial⟩,?_⟩
  refine h3.newC fun n102 w4 hn102 h4=>?_
  obtain⟨g,cap,w5,L2'',hr',hS2',hs5,hN2'⟩:=St.append (P:=P) 61 61 3 Tryz.t3 (qj 0) 1 8 Tryz.underlying61 qxi rfl rfl rfl rfl om
   (A:=(n102,Cs [qj i] 3)::(n3,Cs [.slice q1 (h0.orders.length+p.orders.length) q2,v2',v3] 141)::L1') (L:=L2') (H:=L3++Y) (by exact h4) hS2 hN2 (j:=0) rfl rfl (by simp[Value.oneCell']) (by simp[maxLen];omega) om
  rw[hr2]at hr'
  refine⟨_,_,_,w5,hr',?_⟩
  have hs5:St w0 w5 ((n102,Cs [qj i] 3)::QO n3 (.slice q1 (h0.orders.length+p.orders.length) q2) v2' v3 L1' L2'' L3 Y):=hs5
  simp only[qc,Nat.zero_add]
  refine hs5.st1 (k:=1) rfl (by simp) rfl fun w6 h6=>?_
  rw[qmb]
  refine⟨p.orders.length-(k+1),by omega,k+1,_,L2'',by omega,rfl,?_,?_,hN2',h6.tail hn102⟩
  ·rw[qk om om];rfl
  ·have e:(h0.of++List.replicate (k+1) (i:Int)).map qj=(h0.of++List.replicate k (i:Int)).map qj++[qj i]:=by
    rw[List.replicate_succ',<-List.append_assoc,List.map_append];rfl
   rw[e]
   exact hS2'
 ·intro hge
  have:k=p.orders.length:=by simp at hge;omega
  subst this
  rw[qoH]
  have hd:=h3.drew
  refine⟨p.tk,by rw[qc,Nat.zero_add,qv (pl7 (X:=[]) hd)];exact zR hown 0,?_⟩
  rw[qc,Nat.zero_add]
  have hown8:((qM n16 e ov ob nb p).drop 8).take 8=p.own.map qj:=by
   obtain⟨a,b,c,d,f,g,h,j,hl⟩:=own8 hown
   simp only[qM,qE,hl]
   rfl
  refine jU (pl7 (X:=[]) hd) (by rw[yf hown];omega) ?_
  rw[hown8]
  refine⟨_,qwo p.tk hown,?_⟩
  obtain⟨r1,r2,hr3⟩:=hh.s3.form
  have hml:(yQ ⟨p.tk,p.own⟩).length=9:=by simp[yQ,hown]
  have fin:∀ n134 w132,w0.heap.size<=n134->St w0 w132 ((n134,Cs (yQ ⟨p.tk,p.own⟩) 173)::QO n3 (.slice q1 (h0.orders.length+p.orders.length) q2) v2' v3 L1' L2' L3 Y)->
    ∃ g cap w136,(Builtin.append_ #[139,139] 139 [v3,.slice (some ⟨n134,0,none⟩) 1 1].toArray).run P w132=.ok (.slice (some ⟨g,0,none⟩) (h0.events.length+1) cap) w136/\
     zG (Addr.mk n3 2 none) (.slice (some ⟨g,0,none⟩) (h0.events.length+1) cap) w136 fun w137=>q7h (Addr.mk n1 0 none) (Addr.mk n3 0 none) 0 (Addr.mk n16 0 none) sa len sc len i w137 K Y1:=by
   intro n134 w132 hn134 h132
   obtain⟨g,cap,w5,L3',hr',hS3',hs5,hN3'⟩:=St.append (P:=P) 139 139 173 Tryz.t173 (.agg #[qj 0,qj 0,qj 0,qj 0,qj 0,qj 0,qj 0,qj 0,qj 0]) 9 72 Tryz.underlying139 qC3 rfl rfl rfl rfl om
    (A:=(n134,Cs (yQ ⟨p.tk,p.own⟩) 173)::(n3,Cs [.slice q1 (h0.orders.length+p.orders.length) q2,v2',v3] 141)::(L1'++L2')) (L:=L3) (H:=Y) (by
     have:(n134,Cs (yQ ⟨p.tk,p.own⟩) 173)::(n3,Cs [.slice q1 (h0.orders.length+p.orders.length) q2,v2',v3] 141)::(L1'++L2')++(L3++Y)=(n134,Cs (yQ ⟨p.tk,p.own⟩) 173)::QO n3 (.slice q1 (h0.orders.length+p.orders.length) q2) v2' v3 L1' L2' L3 Y:=by simp
     rw[this];exact h132) hh.s3 hh.n3 (j:=0) rfl hml (by
     intro u hu
     simp only[yQ,List.mem_cons,List.mem_map]at hu
     rcases hu with rfl | ⟨x,_,rfl⟩<;>rfl) (by simp[maxLen];omega) om
   refine⟨g,cap,w5,hr',?_⟩
   have hs5:St w0 w5 ((n134,Cs (yQ ⟨p.tk,p.own⟩) 173)::QO n3 (.slice q1 (h0.orders.length+p.orders.length) q2) v2' v3 L1' L2' L3' Y):=by
    have:(n134,Cs (yQ ⟨p.tk,p.own⟩) 173)::(n3,Cs [.slice q1 (h0.orders.length+p.orders.length) q2,v2',v3] 141)::(L1'++L2')++(L3'++Y)=(n134,Cs (yQ ⟨p.tk,p.own⟩) 173)::QO n3 (.slice q1 (h0.orders.length+p.orders.length) q2) v2' v3 L1' L2' L3' Y:=by simp
    rw[this]at hs5;exact hs5
   refine hs5.st1 (k:=1) rfl (by simp) rfl fun w6 h6=>?_
   rw[qok]
   refine hK w6 _ v2' _ L1' L2' L3' ⟨?_,?_,?_,hN1,hN2,hN3',fun m hm=>by
    rcases List.mem_append.1 hm with hm | hm
    ·exact hh.each m hm
    ·simp at hm;rw[hm];exact hown⟩ (h6.tail hn134)
   ·simp only[List.length_append]
    have:Qh (h0.orders++p.orders)=Qh h0.orders++Qh p.orders:=by simp[Qh]
    rw[this]
    exact hS1
   ·simp only[List.length_append,List.length_replicate]
    exact hS2
   ·simp only[List.length_append,List.length_singleton]
    rw[qf5]
    exact hS3'
  have rd:∀ {w':World} {X:qP},St w0 w' (X++QO n3 (.slice q1 (h0.orders.length+p.orders.length) q2) v2' v3 L1' L2' L3 Y)->w'.cell? ((Addr.mk n3 0 none).add 2)=some (Value.slice r1 h0.events.length r2):=fun h'=>by
   rw[qc,Nat.zero_add,qv (h'.has n3 (Cs [.slice q1 (h0.orders.length+p.orders.length) q2,v2',v3] 141) (by simp)),<-hr3];rfl
  constructor
  ·refine⟨r1,_,r2,rd (X:=[]) hd,⟨by show(yQ ⟨p.tk,p.own⟩).toArray.size=9;simpa using hml,trivial⟩,?_⟩
   refine hd.newC fun n134 w132 hn134 h132=>?_
   have e0:(([(Value.agg (yQ ⟨p.tk,p.own⟩).toArray)].map fun(v:Value)=>v.cells.toList).flatten.toArray).toList=yQ ⟨p.tk,p.own⟩:=by simp[Value.cells]
   rw[e0]at h132
   obtain⟨g,cap,w136,hr',hst⟩:=fin n134 w132 hn134 h132
   rw[hr3]at hr'
   rw[qc,Nat.zero_add]
   exact⟨_,_,_,w136,hr',hst⟩
  ·refine⟨⟨by show(yQ ⟨p.tk,p.own⟩).toArray.size=9;simpa using hml,trivial⟩,?_⟩
   refine hd.newC fun n134 w132 hn134 h132=>?_
   have e0:(([(Value.agg (yQ ⟨p.tk,p.own⟩).toArray)].map fun(v:Value)=>v.cells.toList).flatten.toArray).toList=yQ ⟨p.tk,p.own⟩:=by simp[Value.cells]
   rw[e0]at h132
   obtain⟨g,cap,w136,hr',hst⟩:=fin n134 w132 hn134 h132
   rw[hr3]at hr'
   refine⟨r1,_,r2,rd (X:=[_]) h132,?_⟩
   rw[qc,Nat.zero_add]
   exact⟨_,_,_,w136,hr',hst⟩
theorem qHq{l:List Ev}{ov:Value}(h:St w0 w H)(hrow:∀ w',St w0 w' H->Qt w' 6 ov l.length (zq l))(hl63:l.length<9223372036854775808)
  (herr:∀ x,Mo.run l=.inr x->∀ w',St w0 w' H->K (.tuple [.agg #[qy,qy,qy],qj x].toArray) w')
  (hok:∀ hh,Mo.run l=.inl hh->∀ w' v1 v2 v3 L1 L2 L3,q8f w0 hh v1 v2 v3 L1 L2 L3->St w0 w' (L1++(L2++(L3++H)))->K (.tuple [.agg #[v1,v2,v3],qj 0].toArray) w') :
  qa P 59 [ov] w K:=by
 obtain⟨sa,sc,hov⟩:=(hrow w h).form
 rw[hov]
 refine qFy _ _ _ _ _ ?_
 rw[qH0,z89]
 refine h.newC fun n1 w1 hn1 h1=>h1.newC fun n3 w2 hn3 h2=>⟨l.length,fun wq _=>yb wq,?_⟩
 rw[qg]
 constructor
 ·intro hgt
  have hgt:l.length > 20000:=by simp at hgt;omega
  refine h2.ldA (k:=0) (i:=0) rfl (by simp) (h2.stA (k:=1) rfl rfl (by simp) (by simp[Value.oneCell']) fun w3 h3=>?_)
  refine h3.ldA (k:=1) (i:=0) rfl (by simp[yC]) ?_
  exact herr 2 (by unfold Mo.run;rw[if_pos hgt]) w3 ((h3.tail hn3).tail hn1)
 ·intro hle
  have hle:¬ l.length > 20000:=by simp at hle;omega
  have hrunl:Mo.run l=match QQ l 0 zi ⟨[],[],[]⟩with
   | some h=>.inl h
   | none=>.inr 300:=by unfold Mo.run;rw[if_neg hle];cases QQ l 0 zi ⟨[],[],[]⟩<;>rfl
  rw[qoy]
  refine qcm h2 fun w3 ta tb hta htb h3=>⟨_,rfl,?_⟩
  obtain⟨zs,hz,hzl⟩:=qKy
  rw[hz]
  refine h3.newC fun n16 w4 hn16 h4=>?_
  refine h4.stA (k:=0) rfl (by simp[Zs]) (by simp[hzl]) (by simpa using q7x ta tb) fun w5 h5=>?_
  have h5:St w0 w5 ((n16,Cs (qI zs 0 (qU zi ta tb)) 33)::(ta,.map #[] 0)::(tb,.map #[] 0)::(n3,Cs [qy,qy,qy] 141)::(n1,Cs [qy,qy,qy] 141)::H):=h5
  rw[qB (by rw[Zs,hzl]),<-List.append_nil (qU zi ta tb)]at h5
  refine⟨l.length,fun wq _=>yb wq,?_⟩
  let TH:Th->Array MapEntry->Nat->Array MapEntry->Nat->List (Nat × Obj)->List (Nat × Obj):=fun T es3 c3 es4 c4 R=>(n16,Cs (qU T ta tb++[]) 33)::(ta,.map es3 c3)::(tb,.map es4 c4)::R
  refine⟨fun m ee w=>∃ (i:Nat) (T:Th) (es3:Array MapEntry) (c3:Nat) (es4:Array MapEntry) (c4:Nat) (h0:q1M) (v1 v2 v3:Value) (L1 L2 L3:qP),i<=l.length/\m=l.length-i/\
   ee=ql.mk 70 [(2,(ptr n1)),(4,(ptr n3)),(17,(Value.int .i64 i)),(3,(Value.int .i64 0)),(5,(ptr n16)),(15,(Value.slice sa l.length sc)),(16,(Value.int .i64 l.length))] []/\
   vr T/\MapIs ym es3 c3 (yp Zj T.objs)/\MapIs ym es4 c4 (yp ZT T.names)/\QQ l 0 zi ⟨[],[],[]⟩=QQ (l.drop i) i T h0/\
   q8f w0 h0 v1 v2 v3 L1 L2 L3/\h0.orders.length<=16*i/\h0.of.length=h0.orders.length/\h0.events.length=i/\
   St w0 w ((n16,Cs (qU T ta tb++[]) 33)::(ta,.map es3 c3)::(tb,.map es4 c4)::(n1,Cs [qy,qy,qy] 141)::QO n3 v1 v2 v3 L1 L2 L3 H),
   ⟨l.length,0,zi,#[],0,#[],0,⟨[],[],[]⟩,qy,qy,qy,[],[],[],by omega,rfl,rfl,qv3,MapIs.empty,MapIs.empty,rfl,⟨zC.nil 4 72,zC.nil 1 3,zC.nil 9 173,zr.nil w0,zr.nil w0,zr.nil w0,by simp⟩,by simp,rfl,rfl,h5.perm (qK fun c=>?_)⟩,?_⟩
  ·simp only[QO,List.nil_append,List.map_cons,List.sum_cons];omega
  rintro m ee w6 ⟨i,T,es3,c3,es4,c4,h0,v1,v2,v3,L1,L2,L3,hi,rfl,rfl,hT,hm3,hm4,hrun,hh,hb1,hb2,hb3,h6⟩
  show qi0 ..
  have hrow6:∀ {w':World} {X:qP},zr w0 X->St w0 w' (X++H)->Qt w' 6 ov l.length (zq l):=fun hX h'=>hrow _ (h'.sub hX)
  have hnewX:∀ {L1 L2 L3:qP} {v1 v2 v3:Value} {T:Th} {es3 c3 es4 c4},zr w0 L1->zr w0 L2->zr w0 L3->zr w0 ((n16,Cs (qU T ta tb++[]) 33)::(ta,Obj.map es3 c3)::(tb,Obj.map es4 c4)::(n1,Cs [qy,qy,qy] 141)::(n3,Cs [v1,v2,v3] 141)::(L1++(L2++L3))):=by
   intro L1 L2 L3 v1 v2 v3 T es3 c3 es4 c4 k1 k2 k3 x hx
   simp only[List.mem_cons,List.mem_append]at hx
   rcases hx with rfl | rfl | rfl | rfl | rfl | hx | hx | hx
   ·exact hn16
   ·exact hta
   ·exact htb
   ·exact hn1
   ·exact hn3
   ·exact k1 x hx
   ·exact k2 x hx
   ·exact k3 x hx
  have hassoc:∀ {L1 L2 L3:qP} {v1 v2 v3:Value} {T:Th} {es3 c3 es4 c4},((n16,Cs (qU T ta tb++[]) 33)::(ta,Obj.map es3 c3)::(tb,Obj.map es4 c4)::(n1,Cs [qy,qy,qy] 141)::QO n3 v1 v2 v3 L1 L2 L3 H) =
    ((n16,Cs (qU T ta tb++[]) 33)::(ta,Obj.map es3 c3)::(tb,Obj.map es4 c4)::(n1,Cs [qy,qy,qy] 141)::(n3,Cs [v1,v2,v3] 141)::(L1++(L2++L3)))++H:=by simp
  rw[qfy,qg]
  constructor
  ·intro hlt
   have hlt:i<l.length:=by simpa using hlt
   rw[qlG]
   have hr:=hrow6 (hnewX hh.n1 hh.n2 hh.n3) (hassoc▸h6)
   obtain⟨a,c,hac,hld⟩:=hr.ldA hlt
   rw[hov]at hac
   obtain⟨hsa,-⟩:sa=some a/\sc=c:=by simpa using hac
   subst hsa
   refine⟨by omega,by omega,hld _ ?_⟩
   rw[QM hlt]
   obtain⟨ze,hze,hzel⟩:=z35
   rw[hze]
   refine h6.newC fun n36 w7 hn36 h7=>h7.stA (k:=0) rfl (by simp[qu]) (by simp[hzel]) (yr _) fun w8 h8=>?_
   have h8:St w0 w8 ((n36,Cs (qI ze 0 (qE l[i])) 45)::(n16,Cs (qU T ta tb++[]) 33)::(ta,.map es3 c3)::(tb,.map es4 c4)::(n1,Cs [qy,qy,qy] 141)::QO n3 v1 v2 v3 L1 L2 L3 H):=h8
   rw[qB (by rw[qu,hzel])]at h8
   refine h8.ldA (k:=0) (i:=0) rfl (by simp[qu]) ?_
   have hdrop:l.drop i=l[i]::l.drop (i+1):=List.drop_eq_getElem_cons hlt
   refine q9p (T:=T) (tb:=n16) (tob:=ta) (tnb:=tb) (tt:=33) (rest:=[]) (R:=(n36,Cs (qE l[i]) 45)::(n1,Cs [qy,qy,qy] 141)::QO n3 v1 v2 v3 L1 L2 L3 H) hT hm3 hm4 (h8.perm (qK fun c=>?_)) (fun hp w' v h'=>?_) (fun q hp w' pb ob nb k1 k2 k3 hps=>?_)
   ·simp only[List.map_cons,List.sum_cons];omega
   ·refine⟨v,false,rfl,?_⟩
    rw[Bool.not_false,qm]
    refine⟨_,qzj,h'.stA (k:=4) rfl rfl (by simp) (by simp[Value.oneCell']) fun w9 h9=>?_⟩
    refine h9.ldA (k:=4) (i:=0) rfl (by simp[yC]) ?_
    refine herr 300 (by rw[hrunl,hrun,hdrop,QQ,hp]) w9 ?_
    have h9:St w0 w9 ((n16,Cs (qU T ta tb++[]) 33)::(ta,.map es3 c3)::(tb,.map es4 c4)::(n36,Cs (qE l[i]) 45)::(n1,Cs [qy,qy,qy] 141)::QO n3 v1 v2 v3 L1 L2 L3 H):=h9
    refine St.sub (L:=(n36,Cs (qE l[i]) 45)::(n16,Cs (qU T ta tb++[]) 33)::(ta,Obj.map es3 c3)::(tb,Obj.map es4 c4)::(n1,Cs [qy,qy,qy] 141)::(n3,Cs [v1,v2,v3] 141)::(L1++(L2++L3))) (h9.perm (qK fun c=>?_)) ?_
    ·simp only[QO,List.map_cons,List.sum_cons,List.map_append,List.sum_append];omega
    ·intro x hx
     rcases List.mem_cons.1 hx with rfl | hx
     ·exact hn36
     ·exact hnewX hh.n1 hh.n2 hh.n3 x hx
   ·refine⟨some (Addr.mk pb 0 none),true,rfl,?_⟩
    rw[Bool.not_true,qd,qoA]
    obtain⟨_,_,t1,t2,_⟩:=QD (zO hp)
    have hfe:=QK hp
    refine q5m (B:=⟨pb,ob,nb,n16,ta,tb,106,33,l[i],T,[],es3,c3,es4,c4⟩) hps ⟨hT,hm3,hm4,⟨t1,t2⟩⟩ hfe.1 hfe.2 fun w9 es3' c3' es4' c4' h9 hB9=>⟨rfl,?_⟩
    have h9d:=h9.drew
    obtain⟨DD,LL,rfl,hs9,k4,k5,k6⟩:=h9d
    have hoq:=qda hp
    refine qF9 (p:=DD.p) (h0:=h0) (e:=l[i]) (ov:=DD.ov) (ob:=ob) (nb:=nb) (t:=106) (M:=LL) (L1:=L1) (L2:=L2) (L3:=L3) (v1:=v1) (v2:=v2) (v3:=v3)
     (Y:=(pb,Cs (qM n16 l[i] DD.ov ob nb DD.p) 106)::(ob,.map DD.es1 DD.c1)::(nb,.map DD.es2 DD.c2)::(n36,Cs (qE l[i]) 45)::(LL++((n16,Cs (qU (qG T l[i] DD.p) ta tb++[]) 33)::(ta,.map es3' c3')::(tb,.map es4' c4')::(n1,Cs [qy,qy,qy] 141)::H)))
     (hs9.perm (qK fun c=>?_)) hh k4.own (by simp) k5 (fun y hy=>by simp[hy]) ⟨by omega,by omega,by omega,by omega,by omega⟩ fun w10 v1' v2' v3' L1' L2' L3' hh' h10=>?_
    ·simp only[vN,qum,QO,List.map_cons,List.sum_cons,List.map_append,List.sum_append];omega
    refine⟨l.length-(i+1),by omega,i+1,qG T l[i] DD.p,es3',c3',es4',c4',_,v1',v2',v3',L1',L2',L3',by omega,rfl,?_,hB9.th,hB9.m3,hB9.m4,?_,hh',?_,?_,?_,?_⟩
    ·rw[qk om om];rfl
    ·rw[hrun,hdrop,QQ,hp];rfl
    ·simp only[List.length_append];omega
    ·simp only[List.length_append,List.length_replicate];omega
    ·simp only[List.length_append,List.length_singleton];omega
    ·refine St.sub (L:=(pb,Cs (qM n16 l[i] DD.ov ob nb DD.p) 106)::(ob,.map DD.es1 DD.c1)::(nb,.map DD.es2 DD.c2)::(n36,Cs (qE l[i]) 45)::LL) (h10.perm (qK fun c=>?_)) ?_
     ·simp only[QO,List.map_cons,List.sum_cons,List.map_append,List.sum_append];omega
     ·intro x hx
      simp only[List.mem_cons]at hx
      rcases hx with rfl | rfl | rfl | rfl | hx
      ·exact k1
      ·exact k2
      ·exact k3
      ·exact hn36
      ·exact k6 x hx
  ·intro hge
   have:i=l.length:=by simp at hge;omega
   subst this
   rw[List.drop_length]at hrun
   rw[qhp]
   refine h6.ldA (k:=4) (i:=0) rfl (by simp) (h6.stA (k:=3) rfl rfl (by simp) (by
    obtain⟨a1,c1,e1⟩:=hh.s1.form
    obtain⟨a2,c2,e2⟩:=hh.s2.form
    obtain⟨a3,c3,e3⟩:=hh.s3.form
    simp[e1,e2,e3,Value.oneCell']) fun w7 h7=>?_)
   refine h7.ldA (k:=3) (i:=0) rfl (by simp[yC]) ?_
   refine hok h0 (by rw[hrunl,hrun];rfl) w7 v1 v2 v3 L1 L2 L3 hh ?_
   have h7:St w0 w7 ((n16,Cs (qU T ta tb++[]) 33)::(ta,.map es3 c3)::(tb,.map es4 c4)::(n1,Cs [v1,v2,v3] 141)::QO n3 v1 v2 v3 L1 L2 L3 H):=h7
   exact((((h7.tail hn16).tail hta).tail htb).tail hn1).tail hn3
def q51(w0:World)(g:Nat):Prop:=∀ {w:World} {H:qP} {K:KT} {out:List Mo.qQ} {ov:Value} {Lo:qP},St w0 w (Lo++H)->zC 11 108 ov out.length (qA out) Lo->(out.map (·.byte)).Nodup->out.length<2000000000->
 (∀ w' Lo',zC 11 108 ov out.length (qA (out.mergeSort yE)) Lo'->(zr w0 Lo->zr w0 Lo')->St w0 w' (Lo'++H)->K (.tuple [].toArray) w')->qa P 65 [ov,.func (.func g) #[] #[]] w K
theorem qtc{d d':VO}{e:Ev}{x:Int}(h:feed d e=(d',.inr x)):x=2\/x=300:=by
 unfold feed at h
 split at h
 ·simp at h;exact .inl h.2.symm
 ·split at h
  ·simp at h;exact .inr h.2.symm
  ·simp only at h
   split at h
   ·simp at h;exact .inl h.2.symm
   ·split at h
    ·simp at h;exact .inl h.2.symm
    ·simp at h
theorem q4z{d d':VO}{e:Ev}{out:List Mo.qQ}(h:feed d e=(d',.inl out)):out.length<=65536:=by
 obtain⟨p,hp,_,hs,_,_⟩:=q0T h
 obtain⟨ext,rfl,hsub,_⟩:=QR hs
 have h1:=hsub.length_le
 rw[q6f,List.length_map,QI]at h1
 have hn:qX e<=65536:=by
  unfold qX
  split
  ·rename_i hi;exact(Jm (zO hp) hi).2
  ·omega
 omega
theorem q53(a b:List Mo.qQ):qA (a++b)=qA a++qA b:=by simp[qA]
theorem qgQ{A Y:qP}{out x:List Mo.qQ}{ov xv:Value}{Lo Lx:qP}(h:St w0 w (A++(Lo++(Lx++Y))))(hLo:zC 11 108 ov out.length (qA out) Lo)(hN:zr w0 Lo)(hx:zC 11 108 xv x.length (qA x) Lx)(hNx:zr w0 Lx)
  (hb:out.length<1500000000/\x.length<=65536) :
  ∃ v' w' L',(Builtin.append_ #[39,39] 39 [ov,xv].toArray).run P w=.ok v' w'/\zC 11 108 v' (out++x).length (qA (out++x)) L'/\zr w0 L'/\St w0 w' (A++(L'++Y)):=by
 obtain⟨v',w',L',hr,hS,hs,hN'⟩:=St.appendN (P:=P) 39 39 108 Tryz.t108 (.agg #[.int .u32 0,qj 0,qj 0,.int .u32 0,.bool false,.bool false,qj 0,qj 0,.int .u32 0,.bool false,.bool false]) 11 56 Tryz.underlying39 q8j rfl rfl rfl rfl om
  (A:=A) (L:=Lo) (H:=Lx++Y) (M:=Lx) h hLo hN hx (fun y hy=>h.has _ _ (by simp[hy])) (qa2 _) (by simp[maxLen];omega) om
 refine⟨v',w',L',hr,?_,hN',?_⟩
 ·rw[List.length_append,q53];exact hS
 ·refine St.sub (L:=Lx) (hs.perm (qK fun c=>?_)) hNx
  simp only[List.map_append,List.sum_append]
  omega
theorem qaR(hsort:q51 w0 66){l:List Ev}{ov:Value}(h:St w0 w H)(hrow:∀ w',St w0 w' H->Qt w' 6 ov l.length (zq l))(hl63:l.length<9223372036854775808)
  (herr:∀ x,Mo.jM l=.inr x->x≠0->∀ w',St w0 w' H->K (.tuple [qy,qj x].toArray) w')
  (hok:∀ out,Mo.jM l=.inl out->out.length<2000000000->∀ w' rv Lo,zC 11 108 rv out.length (qA out) Lo->zr w0 Lo->St w0 w' (Lo++H)->K (.tuple [rv,qj 0].toArray) w') :
  qa P 34 [ov] w K:=by
 obtain⟨sa,sc,hov⟩:=(hrow w h).form
 rw[hov]
 refine qFm _ _ _ _ _ ?_
 rw[qHD,z89,<-hov]
 refine qHq h hrow hl63 (fun x hx w1 h1=>⟨_,x,rfl,?_⟩) (fun hh hrun w1 v1 v2 v3 L1 L2 L3 hho h1=>⟨_,0,rfl,?_⟩)
 ·refine h1.newC fun n5 w2 hn5 h2=>h2.stA (k:=0) rfl rfl (by simp) (by simp[Value.oneCell']) fun w3 h3=>?_
  have hx0:x≠0:=by
   unfold Mo.run at hx
   split at hx
   ·cases hx;omega
   ·split at hx
    ·cases hx
    ·cases hx;omega
  rw[show(x != 0)=true by simpa using hx0,qm]
  exact herr x (by unfold Mo.jM;rw[hx]) hx0 w3 (h3.tail hn5)
 ·refine h1.newC fun n5 w2 hn5 h2=>h2.stA (k:=0) rfl rfl (by simp) (by
    obtain⟨a1,c1,e1⟩:=hho.s1.form
    obtain⟨a2,c2,e2⟩:=hho.s2.form
    obtain⟨a3,c3,e3⟩:=hho.s3.form
    simp[e1,e2,e3,Value.oneCell']) fun w3 h3=>?_
  rw[show((0:Int) != 0)=false by decide,qd]
  have h3:=((((h3.tail hn5).sub hho.n1).sub hho.n2).sub hho.n3)
  have hraces:Mo.jM l=match jH l Za []with
   | .inr x=>.inr x
   | .inl out=>.inl (out.mergeSort yE):=by
   unfold Mo.jM
   rw[hrun]
   simp only
   cases jH l Za []<;>rfl
  have hlen:l.length<=20000:=by
   unfold Mo.run at hrun
   split at hrun
   ·cases hrun
   ·omega
  rw[qoa]
  refine qz1 h3 fun w4 D hD0 hD h4=>⟨_,rfl,l.length,fun wq _=>yb wq,?_⟩
  refine⟨fun m ee w=>∃ (i:Nat) (D':DB) (out:List Mo.qQ) (oa:Option Addr) (oc:Nat) (Lo:qP),i<=l.length/\m=l.length-i/\
   ee=ql.mk 43 [(7,(Value.slice oa out.length oc)),(23,(Value.int .i64 i)),(6,(ptr D.db)),(21,(Value.slice sa l.length sc)),(2,qy),(3,(Value.int .i64 0)),(22,(Value.int .i64 l.length))] []/\
   D'.db=D.db/\jz w0 D'/\jH l Za []=jH (l.drop i) D'.d out/\out.length<=65536*i/\zC 11 108 (.slice oa out.length oc) out.length (qA out) Lo/\zr w0 Lo/\St w0 w (zg D'++(Lo++H)),
   ⟨l.length,0,D,[],none,0,[],by omega,rfl,rfl,rfl,hD,by rw[hD0];rfl,by simp,zC.nil 11 108,zr.nil w0,h4⟩,?_⟩
  rintro m ee w5 ⟨i,D',out,oa,oc,Lo,hi,rfl,rfl,hdb,hD',hfeeds,hol,hLo,hLn,h5⟩
  show qiQ ..
  rw[qdT,qg]
  constructor
  ·intro hlt
   have hlt:i<l.length:=by simpa using hlt
   rw[qnl]
   obtain⟨a,c,hac,hld⟩:=(hrow w5 ((h5.sub hD'.newH).sub hLn)).ldA hlt
   rw[hov]at hac
   obtain⟨hsa,-⟩:sa=some a/\sc=c:=by simpa using hac
   subst hsa
   refine⟨by omega,by omega,hld _ ?_⟩
   rw[QM hlt]
   obtain⟨ze,hze,hzel⟩:=z35
   rw[hze]
   refine h5.newC fun n31 w6 hn31 h6=>h6.stA (k:=0) rfl (by simp[qu]) (by simp[hzel]) (yr _) fun w7 h7=>?_
   have h7:St w0 w7 ((n31,Cs (qI ze 0 (qE l[i])) 45)::(zg D'++(Lo++H))):=h7
   rw[qB (by rw[qu,hzel])]at h7
   refine h7.ldA (k:=0) (i:=0) rfl (by simp[qu]) ?_
   have hdrop:l.drop i=l[i]::l.drop (i+1):=List.drop_eq_getElem_cons hlt
   rw[<-hdb]
   refine qkn (R0:=(n31,Cs (qE l[i]) 45)::(Lo++H)) (h7.perm List.perm_middle.symm) hD' (fun d' x hf w8 h8=>⟨none,0,0,x,rfl,?_⟩) (fun d' xs hf w8 D'' xv Lx hd'' hD'' hdb'' hS hN h8=>?_)
   ·have hx0:x≠0:=by rcases qtc hf with rfl | rfl<;>omega
    rw[show(x != 0)=true by simpa using hx0,qm]
    refine herr x ?_ hx0 w8 ((((h8.sub hD'.newH).tail hn31)).sub hLn)
    rw[hraces,hfeeds,hdrop,jH,hf]
   ·obtain⟨xa,xc,hxv⟩:=hS.form
    refine⟨xa,xs.length,xc,0,by rw[hxv],?_⟩
    rw[show((0:Int) != 0)=false by decide,qd,qom]
    have h8':St w0 w8 (zg D''++(Lo++(Lx++H))):=by
     refine St.sub (L:=[(n31,Cs (qE l[i]) 45)]) (h8.perm (qK fun c=>?_)) (by simpa [zr]using hn31)
     simp only[List.map_append,List.map_cons,List.map_nil,List.sum_append,List.sum_cons,List.sum_nil]
     omega
    obtain⟨v',w9,Lo',hr,hS',hN',h9⟩:=qgQ h8' hLo hLn hS hN ⟨by omega,q4z hf⟩
    obtain⟨va,vc,hv'⟩:=hS'.form
    rw[hv']at hS'
    rw[hxv,hv']at hr
    refine⟨va,_,vc,w9,hr,?_⟩
    rw[qpa]
    refine⟨l.length-(i+1),by omega,i+1,D'',out++xs,va,vc,Lo',by omega,rfl,?_,by rw[hdb'',hdb],hD'',?_,?_,hS',hN',h9⟩
    ·rw[qk om om,hdb];rfl
    ·rw[hfeeds,hdrop,jH,hf,hd'']
    ·have:=q4z hf
     simp only[List.length_append];omega
  ·intro hge
   have:i=l.length:=by simp at hge;omega
   subst this
   rw[List.drop_length]at hfeeds
   have hfeeds:jH l Za []=.inl out:=hfeeds
   rw[qmL]
   refine hsort (h5.sub hD'.newH) hLo (q2c hfeeds) om fun w6 Lo' hS' hN' h6=>⟨rfl,?_⟩
   refine hok (out.mergeSort yE) (by rw[hraces,hfeeds]) (by rw[List.length_mergeSort];omega) w6 _ Lo' ?_ (hN' hLn) h6
   rw[List.length_mergeSort]
   exact hS'
end Go.Fx.Tryz
namespace Go.Fx.Tryz
open Go Go.Fx Go.Fx.Mo
open Go.Proofs
open Go.Sort (grow grow_grow alloc_eq_grow)
variable {w0 w:World} {H:qP} {K:KT}
set_option maxRecDepth 20000
def q1A(x y:Int):Int:=if x<y then -1 else if x > y then 1 else 0
def orI(a b:Int):Int:=if a≠0 then a else b
theorem qku(x:Int)(hK:K (.bool false) w):qa P 90 [.int .i64 x] w K:=by
 refine qGE _ _ _ ?_
 rw[qGf]
 simpa using hK
theorem q7D(x:Int)(hK:K (.bool false) w):qa P 91 [.int .u32 x] w K:=by
 refine qGJ _ _ _ ?_
 rw[qJ1]
 simpa using hK
theorem qaz(x y:Int)(hK:K (.int .i64 (q1A x y)) w):qa P 68 [.int .i64 x,.int .i64 y] w K:=by
 refine qH2 _ _ _ _ ?_
 rw[qGX]
 refine qku x ⟨_,rfl,qku y ⟨_,rfl,?_⟩⟩
 rw[qd,qo6,qd,qp8,qoX,qqs]
 unfold q1A at hK
 simp only[qg]
 split at hK
 ·rename_i h;simp[h];exact hK
 ·rename_i h
  split at hK
  ·rename_i h';simp[h,h'];exact hK
  ·rename_i h';simp[h,h'];exact hK
theorem q9G(x y:Int)(hK:K (.int .i64 (q1A x y)) w):qa P 69 [.int .u32 x,.int .u32 y] w K:=by
 refine qIR _ _ _ _ ?_
 rw[qHx]
 refine q7D x ⟨_,rfl,q7D y ⟨_,rfl,?_⟩⟩
 rw[qd,qmM,qd,qnc,qo3,qqj]
 unfold q1A at hK
 simp only[qg]
 split at hK
 ·rename_i h;simp[h];exact hK
 ·rename_i h
  split at hK
  ·rename_i h';simp[h,h'];exact hK
  ·rename_i h';simp[h,h'];exact hK
theorem qgx{p:Option Addr}{l c:Nat}(wq:World):(Builtin.len_ #[61] 3 [Value.slice p l c].toArray).run P wq=.ok (.int .i64 l) wq:=qZ p l c Tryz.underlying61 3
theorem qM8{b:Nat}{a c:Int}{t:TypeId}(h:w.heap[b]?=some (Cs [qj a,qj c] t))(hK:K (.int .i64 (orI a c)) w):qa P 67 [.slice (some (Addr.mk b 0 none)) 2 2] w K:=by
 refine qJi _ _ _ _ _ ?_
 rw[qGP]
 refine⟨2,fun wq _=>qgx wq,?_⟩
 refine⟨fun m ee w'=>w'=w/\∃ i:Nat,i<=2/\m=2-i/\ee=ql.mk 18 [(3,(Value.int .i64 0)),(8,(Value.int .i64 i)),(6,(Value.slice (some (Addr.mk b 0 none)) 2 2)),(2,(Value.int .i64 0)),(7,(Value.int .i64 2))] []/\∀ j,j<i->[a,c][j]?=some 0,⟨2,rfl,0,by omega,rfl,rfl,by intro j hj;omega⟩,?_⟩
 rintro m ee w' ⟨rfl,i,hi,rfl,rfl,hz⟩
 show qjO ..
 rw[qhb,qg]
 constructor
 ·intro hlt
  have hlt:i<2:=by simp at hlt;omega
  rw[qoV]
  refine⟨by omega,by omega,[a,c].getD i 0,?_,?_⟩
  ·rw[qc,qv h,Int.toNat_natCast]
   rcases i with _ | _ | i
   ·rfl
   ·rfl
   ·omega
  rw[qg]
  constructor
  ·intro hne
   have hne:[a,c].getD i 0≠0:=by simpa using hne
   have:[a,c].getD i 0=orI a c:=by
    rcases i with _ | _ | i
    ·simp at hne;simp[orI,hne]
    ·have:=hz 0 om
     simp at this
     simp[orI,this]
    ·omega
   rw[this]
   exact hK
  ·intro heq
   have heq:[a,c].getD i 0=0:=by simpa using heq
   rw[qq0]
   refine⟨2-(i+1),by omega,rfl,i+1,by omega,rfl,?_,?_⟩
   ·rw[qk om om];rfl
   ·intro j hj
    by_cases hji:j<i
    ·exact hz j hji
    ·have:j=i:=by omega
     subst this
     rcases j with _ | _ | j
     ·simpa using heq
     ·simpa using heq
     ·omega
 ·intro hge
  have:i=2:=by simp at hge;omega
  subst this
  rw[qqu]
  have h0:=hz 0 om
  have h1:=hz 1 om
  simp at h0 h1
  have:orI a c=0:=by simp[orI,h0,h1]
  rw[this]at hK
  exact hK
def cfR(a b:Mo.qQ):Int:=orI (q1A a.second.ev b.second.ev) (q1A a.byte b.byte)
theorem qp3(w:World)(A B C:Obj):(((w.alloc A).alloc B).drew).alloc C=grow (w.drewN 1) #[A,B,C]:=by
 have e:∀ (w:World) (o:Obj),w.alloc o=grow w #[o]:=alloc_eq_grow
 rw[e,e,e]
 have:∀ (w:World) (os:Array Obj),(grow w os).drew=grow (w.drewN 1) os:=fun _ _=>rfl
 have t2:∀ (w:World) (os:Array Obj),(grow w os).drewN 1=grow (w.drewN 1) os:=fun _ _=>rfl
 rw[this,t2,grow_grow,grow_grow]
 rfl
theorem qqX{a b:Mo.qQ}{K:KT}(w:World)
  (hK:∀ C,K (.int .i64 (cfR a b)) ((((w.alloc (Cs (qz a) 108)).alloc (Cs (qz b) 108)).drew).alloc C)) :
  qJ 1 [(Value.int .i64 (q1A a.second.ev b.second.ev)),(Value.int .i64 (q1A a.byte b.byte))]/\qt (([(Value.int .i64 (q1A a.second.ev b.second.ev)),(Value.int .i64 (q1A a.byte b.byte))].map fun(v:Value)=>v.cells.toList).flatten.toArray) 3 (((w.alloc (Cs (qz a) 108)).alloc (Cs (qz b) 108)).drew)
   (fun n19 w17=>qa P 67 [(Value.slice (some (Addr.mk n19 0 none)) 2 2)] w17 (fun r20 w21=>∃ x22:Int,r20=(Value.int .i64 x22)/\K (Value.int .i64 x22) w21)):=by
 refine⟨⟨rfl,rfl,trivial⟩,?_⟩
 refine qM8 (a:=q1A a.second.ev b.second.ev) (c:=q1A a.byte b.byte) (t:=3) ?_ ⟨_,rfl,hK _⟩
 rw[Zb,Array.getElem?_push]
 simp[Cs,Value.cells]
theorem qlx(w:World)(a b:Mo.qQ)(i:Nat) :
  (((w.alloc (Cs (qz a) 108)).alloc (Cs (qz b) 108)).drew).cell? (Addr.mk w.heap.size i none)=(qz a)[i]?/\
  (((w.alloc (Cs (qz a) 108)).alloc (Cs (qz b) 108)).drew).cell? (Addr.mk (w.alloc (Cs (qz a) 108)).heap.size i none)=(qz b)[i]?:=by
 have hs:=((St.refl w).alloc (Cs (qz a) 108)).alloc (Cs (qz b) 108) |>.drew
 exact⟨hs.cell (k:=1) rfl,hs.cell (k:=0) rfl⟩
theorem qJZ(a b:Mo.qQ)(hK:∀ w',(∃ q os,w'=grow (w.drewN q) os)->K (.int .i64 (cfR a b)) w'):qa P 66 [.agg (qz a).toArray,.agg (qz b).toArray] w K:=by
 refine qIb _ _ _ _ ?_
 have hc:=qlx w a b
 have hK':∀ C,K (.int .i64 (cfR a b)) ((((w.alloc (Cs (qz a) 108)).alloc (Cs (qz b) 108)).drew).alloc C):=fun C=>hK _ ⟨1,_,qp3 w _ _ C⟩
 have ht:=qqX (a:=a) (b:=b) (K:=K) w hK'
 rw[qIa]
 simp only[qpp]
 have a0:(((w.alloc (Cs (qz a) 108)).alloc (Cs (qz b) 108)).drew).cell? (Addr.mk w.heap.size 0 none)=some (Value.int .u32 a.byte):=(hc 0).1
 have b0:(((w.alloc (Cs (qz a) 108)).alloc (Cs (qz b) 108)).drew).cell? (Addr.mk (w.alloc (Cs (qz a) 108)).heap.size 0 none)=some (Value.int .u32 b.byte):=(hc 0).2
 exact⟨a.second.ev,(hc 6).1,b.second.ev,(hc 6).2,qaz _ _ ⟨_,rfl,a.byte,a0,b.byte,b0,q9G _ _ ⟨_,rfl,ht⟩⟩,
  ⟨a.byte,a0,qaz _ _ ⟨_,rfl,b.byte,b0,q9G _ _ ⟨_,rfl,ht⟩⟩,b.byte,b0,qaz _ _ ⟨_,rfl,q9G _ _ ⟨_,rfl,ht⟩⟩⟩,
  b.byte,b0,qaz _ _ ⟨_,rfl,a.byte,a0,q9G _ _ ⟨_,rfl,ht⟩⟩,a.byte,a0,qaz _ _ ⟨_,rfl,q9G _ _ ⟨_,rfl,ht⟩⟩⟩
end Go.Fx.Tryz
namespace Go.Fx.Tryz
open Go Go.Fx Go.Fx.Mo
open Go.Proofs
variable {w0 w:World} {H:qP} {K:KT}
set_option maxRecDepth 20000
theorem bs0(w:World):(Instr.buildSlice 84 0 ([]:List (Nat × Value)).toArray).run P w=.ok (.slice (some ⟨w.heap.size,0,none⟩) 0 0) (w.alloc (.cells #[] 88 (0,0))):=kr
theorem q5t : P.fieldsOf 97 = #[{ name := "Event", type := 3, offset := 0, embedded := false, tag := "", pkgPath := "", byteOffset := 0 },
  { name := "Thread", type := 3, offset := 1, embedded := false, tag := "", pkgPath := "", byteOffset := 8 },
  { name := "PC", type := 43, offset := 2, embedded := false, tag := "", pkgPath := "", byteOffset := 16 },
  { name := "Store", type := 4, offset := 3, embedded := false, tag := "", pkgPath := "", byteOffset := 20 },
  { name := "Atomic", type := 4, offset := 4, embedded := false, tag := "", pkgPath := "", byteOffset := 21 }] := by kernel_rfl
theorem q3D : P.fieldsOf 108 = #[{ name := "At", type := 43, offset := 0, embedded := false, tag := "", pkgPath := "", byteOffset := 0 },
  { name := "First", type := 97, offset := 1, embedded := false, tag := "", pkgPath := "", byteOffset := 8 },
  { name := "Second", type := 97, offset := 6, embedded := false, tag := "", pkgPath := "", byteOffset := 32 }] := by kernel_rfl
theorem qMm(w:World)(d:Nat)(a:Mo.Qk):(Op.equalIn (d+2) 97 (.agg (qO a).toArray) (.agg (qO a).toArray)).run P w=.ok true w:=by
 have h3:∀ d x,(Op.equalIn (d+1) 3 (.int .i64 x) (.int .i64 x)).run P w=.ok true w:=fun d x=>by simp[Op.equalIn,run_underlying Tryz.underlying3]
 have h4:∀ d x,(Op.equalIn (d+1) 4 (.bool x) (.bool x)).run P w=.ok true w:=fun d x=>by simp[Op.equalIn,run_underlying Tryz.underlying4]
 have h33:∀ d x,(Op.equalIn (d+1) 43 (.int .u32 x) (.int .u32 x)).run P w=.ok true w:=fun d x=>by simp[Op.equalIn,run_underlying Tryz.underlying43]
 obtain⟨a0,a1,a2,a3,a4⟩:=a
 rw[run_equalIn_struct w (d+1) 97 _ _ (by rw[q5t];exact Tryz.underlying97) Tryz.stoodInHeld97,q5t]
 have p0:(part 3 #[qj a0,qj a1,U32 a2,.bool a3,.bool a4] 0).run P w=.ok (qj a0) w:=kr
 have p1:(part 3 #[qj a0,qj a1,U32 a2,.bool a3,.bool a4] 1).run P w=.ok (qj a1) w:=kr
 have p2:(part 43 #[qj a0,qj a1,U32 a2,.bool a3,.bool a4] 2).run P w=.ok (U32 a2) w:=kr
 have p3:(part 4 #[qj a0,qj a1,U32 a2,.bool a3,.bool a4] 3).run P w=.ok (.bool a3) w:=kr
 have p4:(part 4 #[qj a0,qj a1,U32 a2,.bool a3,.bool a4] 4).run P w=.ok (.bool a4) w:=kr
 simp[Op.eqFields,qO,p0,p1,p2,p3,p4,h3,h4,h33]
theorem qGl(w:World)(r:Mo.qQ):(part 43 (qz r).toArray 0).run P w=.ok (U32 r.byte) w/\(part 97 (qz r).toArray 1).run P w=.ok (.agg (qO r.first).toArray) w/\(part 97 (qz r).toArray 6).run P w=.ok (.agg (qO r.second).toArray) w:=by
 obtain⟨b,⟨a0,a1,a2,a3,a4⟩,⟨b0,b1,b2,b3,b4⟩⟩:=r
 exact⟨by kernel_rfl,by kernel_rfl,by kernel_rfl⟩
theorem qLf(w:World)(r:Mo.qQ):(do eqGuard .neq 108 (.tmp 20) (.tmp 24) (.agg (qz r).toArray) (.agg (qz r).toArray);binOp .neq 108 (.agg (qz r).toArray) (.agg (qz r).toArray):Sem Value).run P w=.ok (.bool false) w:=by
 have h33:∀ d x,(Op.equalIn (d+1) 43 (.int .u32 x) (.int .u32 x)).run P w=.ok true w:=fun d x=>by simp[Op.equalIn,run_underlying Tryz.underlying43]
 have hm:∃ d,Op.maxDepth=d+4:=⟨_,rfl⟩
 obtain⟨d,hd⟩:=hm
 obtain⟨p0,p1,p2⟩:=qGl w r
 have he:(Op.equal 108 (.agg (qz r).toArray) (.agg (qz r).toArray)).run P w=.ok true w:=by
  unfold Op.equal
  rw[hd,run_equalIn_struct w (d+3) 108 _ _ (by rw[q3D];exact Tryz.underlying108) Tryz.stoodInHeld108,q3D]
  simp[Op.eqFields,p0,p1,p2,h33,qMm w (d+1)]
 simp[eqGuard,binOp,he,Tryz.eqGuardType108]
theorem q9i(a b:Int)(wq:World):(Builtin.min_ #[3,3] 3 [Value.int .i64 a,Value.int .i64 b].toArray).run P wq=.ok (.int .i64 (if b<a then b else a)) wq:=by
 simp[Builtin.min_,Builtin.min2]
theorem q47{l:List Mo.qQ}{i:Nat}(hi:i<l.length):((qA l).drop (i*11)).take 11=qz l[i]:=yD (f:=qz) (fun x _=>yO x) hi
theorem qAM{l:List Mo.qQ}{av bv:Value}(h:St w0 w H)(ha:∀ w',St w0 w' H->Qt w' 11 av l.length (qA l))(hb:∀ w',St w0 w' H->Qt w' 11 bv l.length (qA l))(hl63:l.length<9223372036854775807)
  (hK:∀ w',St w0 w' H->K (.bool true) w'):qa P 14 [av,bv] w K:=by
 obtain⟨a1,a2,hav⟩:=(ha w h).form
 obtain⟨b1,b2,hbv⟩:=(hb w h).form
 rw[hav,hbv]
 refine qG7 _ _ _ _ _ _ _ _ ?_
 rw[qJf]
 refine⟨l.length,fun wq _=>jb wq,l.length,fun wq _=>jb wq,?_⟩
 rw[show((l.length:Int) != (l.length:Int))=false by simp,qd,qpk]
 refine⟨fun m ee w=>∃ (i:Nat),i<=l.length/\m=l.length-i/\ee=ql.mk 26 [(5,(Value.int .i64 i)),(1,(Value.slice b1 l.length b2)),(0,(Value.slice a1 l.length a2)),(4,(Value.bool false))] []/\St w0 w H,
  ⟨l.length,0,by omega,rfl,rfl,h⟩,?_⟩
 rintro m ee w ⟨i,hi,rfl,rfl,hw⟩
 show qjZ ..
 rw[qdq]
 refine⟨l.length,fun wq _=>jb wq,?_⟩
 rw[qg]
 constructor
 ·intro hlt
  have hlt:i<l.length:=by simpa using hlt
  rw[qoq]
  have hd:=hw.drew
  obtain⟨a,c,hac,hld⟩:=(ha _ hd).ldA hlt
  rw[hav]at hac
  obtain⟨hsa,-⟩:a1=some a/\a2=c:=by simpa using hac
  subst hsa
  obtain⟨b,c',hbc,hldb⟩:=(hb _ hd).ldA hlt
  rw[hbv]at hbc
  obtain⟨hsb,-⟩:b1=some b/\b2=c':=by simpa using hbc
  subst hsb
  refine⟨by omega,by omega,by omega,by omega,hld _ (hldb _ ?_)⟩
  rw[q47 hlt]
  refine⟨_,fun wq=>qLf wq l[i],?_⟩
  rw[qd,qnw]
  refine⟨l.length-(i+1),by omega,i+1,by omega,rfl,?_,hd⟩
  rw[qk om om];rfl
 ·intro hge
  rw[qm2]
  exact hK w hw
def Vm(r:Mo.qQ):List Int:=[yk r.byte,r.first.ev,r.second.ev]
def yK(l:List Mo.qQ):List Value:=(l.map fun r=>(Vm r).map qj).flatten
theorem Jg(a b c:Int)(wq:World):(Instr.build 88 [(0,(Value.int .i64 a)),(1,(Value.int .i64 b)),(2,(Value.int .i64 c))].toArray).run P wq=.ok (.agg #[qj a,qj b,qj c]) wq:=kr
theorem qFw:P.info? 88=some Tryz.t88:=kr
theorem q6H(hsort:q51 w0 66){l:List Ev}{ov:Value}(h:St w0 w H)(hrow:∀ w',St w0 w' H->Qt w' 6 ov l.length (zq l))(hl63:l.length<9223372036854775807)
  (herr:∀ x,Mo.jM l=.inr x->∀ w' rv Lo,zC 3 88 rv 0 [] Lo->zr w0 Lo->St w0 w' (Lo++H)->K (.tuple [rv,.bool false].toArray) w')
  (hok:∀ out,Mo.jM l=.inl out->out.length<2000000000->∀ w' rv Lo,zC 3 88 rv out.length (yK out) Lo->zr w0 Lo->St w0 w' (Lo++H)->K (.tuple [rv,.bool true].toArray) w') :
  qa P 31 [ov] w K:=by
 obtain⟨sa,sc,hov⟩:=(hrow w h).form
 rw[hov]
 refine qGk _ _ _ _ _ ?_
 rw[qGO,<-hov]
 have nil85:∀ n,zC 3 88 (.slice (some ⟨n,0,none⟩) 0 0) 0 [] [(n,Cs [] 88)]:=fun n=>⟨rfl,.inr ⟨n,0,[],rfl,rfl,by omega,by simp[maxLen],rfl,rfl⟩⟩
 refine qaR hsort h hrow om (fun x hx hx0 w2 h2=>⟨none,0,0,x,rfl,_,_,_,_,bs0 w2,?_⟩) (fun out hx hlen w2 rv Lo hS hN h2=>?_)
 ·have h3:=h2.alloc (.cells #[] 88 (0,0))
  have hn:=h2.le
  generalize w2.heap.size=n at h3 hn
  have h3:St w0 (w2.alloc (.cells #[] 88 (0,0))) ([(n,Cs [] 88)]++H):=h3
  refine⟨0,fun wq _=>jb wq,?_⟩
  refine⟨fun m ee w=>m=0/\ee=ql.mk 38 [(17,(Value.int .i64 0)),(6,(Value.slice (some ⟨n,0,none⟩) 0 0)),(15,qy),(2,qy),(3,(Value.bool false)),(5,(Value.int .i64 x)),(16,(Value.int .i64 0))] []/\St w0 w ([(n,Cs [] 88)]++H),⟨0,rfl,rfl,h3⟩,?_⟩
  rintro m ee w ⟨rfl,rfl,hw⟩
  show q7w ..
  rw[q42,show decide ((0:Int)<0)=false by decide,qd,q6r]
  rw[show(x==(0:Int))=false by simpa using hx0]
  exact herr x hx w _ [(n,Cs [] 88)] (nil85 n) (by simpa [zr]using hn) hw
 ·obtain⟨ra,rc,hrv⟩:=hS.form
  subst hrv
  refine⟨ra,_,rc,0,rfl,_,_,_,_,bs0 w2,?_⟩
  have h3:=h2.alloc (.cells #[] 88 (0,0))
  have hn:=h2.le
  generalize w2.heap.size=n at h3 hn
  have h3:St w0 (w2.alloc (.cells #[] 88 (0,0))) ([(n,Cs [] 88)]++(Lo++H)):=h3
  refine⟨out.length,fun wq _=>jb wq,?_⟩
  refine⟨fun m ee w=>∃ (i:Nat) (ta:Option Addr) (tc:Nat) (Lt:qP),i<=out.length/\m=out.length-i/\
   ee=ql.mk 38 [(17,(Value.int .i64 i)),(6,(Value.slice ta i tc)),(15,(Value.slice ra out.length rc)),(2,qy),(3,(Value.bool false)),(5,(Value.int .i64 0)),(16,(Value.int .i64 out.length))] []/\
   zC 3 88 (.slice ta i tc) i (yK (out.take i)) Lt/\zr w0 Lt/\St w0 w (Lt++(Lo++H)),⟨out.length,0,_,_,[(n,Cs [] 88)],by omega,rfl,rfl,nil85 n,by simpa [zr]using hn,h3⟩,?_⟩
  rintro m ee w ⟨i,ta,tc,Lt,hi,rfl,rfl,hT,hTn,hw⟩
  show q7w ..
  rw[q42,qg]
  constructor
  ·intro hlt
   have hlt:i<out.length:=by simpa using hlt
   rw[qpQ]
   obtain⟨g,cc,hg,hld⟩:=QC hS (w:=w) (i:=i) (fun y hy=>hw.has _ _ (by simp[hy])) hlt
   obtain⟨hsa,-⟩:ra=some ⟨g,0,none⟩/\rc=cc:=by simpa using hg
   subst hsa
   refine⟨by omega,by omega,hld _ ?_⟩
   rw[q47 hlt,z47]
   refine hw.newC fun n28 w5 hn28 h5=>h5.stA (k:=0) rfl rfl (by simp) (by simpa using vY out[i]) fun w6 h6=>?_
   have h6:St w0 w6 ((n28,Cs (qz out[i]) 108)::(Lt++(Lo++H))):=h6
   refine⟨out[i].byte,by rw[h6.cell (k:=0) rfl];rfl,out[i].first.ev,by rw[qc,h6.cell (k:=0) rfl];rfl,out[i].second.ev,by rw[qc,h6.cell (k:=0) rfl];rfl,_,Jg _ _ _,⟨rfl,trivial⟩,?_⟩
   refine h6.newC fun n38 w7 hn38 h7=>?_
   obtain⟨g',cap,w8,Lt',hr,hS',hs8,hN'⟩:=St.append (P:=P) 84 84 88 Tryz.t88 (.agg #[qj 0,qj 0,qj 0]) 3 24 Tryz.underlying84 qFw rfl rfl rfl rfl om
    (A:=[(n38,Cs ((Vm out[i]).map qj) 88),(n28,Cs (qz out[i]) 108)]) (L:=Lt) (H:=Lo++H) (by exact h7) hT hTn (j:=0) rfl rfl (by simp[Vm,Value.oneCell']) (by simp[maxLen];omega) om
   refine⟨_,_,_,w8,hr,?_⟩
   rw[qpc]
   have hs8:St w0 w8 ((n38,Cs ((Vm out[i]).map qj) 88)::(n28,Cs (qz out[i]) 108)::(Lt'++(Lo++H))):=hs8
   refine⟨out.length-(i+1),by omega,i+1,some ⟨g',0,none⟩,cap,Lt',by omega,rfl,?_,?_,hN',(hs8.tail hn38).tail hn28⟩
   ·rw[qk om om];rfl
   ·have e:yK (out.take (i+1))=yK (out.take i)++(Vm out[i]).map qj:=by
     rw[YI _ hlt]
     unfold yK
     rw[List.map_append,List.flatten_append]
     simp only[List.map_cons,List.map_nil,List.flatten_cons,List.flatten_nil,List.append_nil]
    rw[e]
    exact hS'
  ·intro hge
   have:i=out.length:=by simp at hge;omega
   subst this
   rw[q6r]
   rw[List.take_length]at hT
   refine hok out hx hlen w _ Lt hT hTn ?_
   refine St.sub (L:=Lo) (hw.perm (qK fun c=>?_)) hN
   simp only[List.map_append,List.sum_append]
   omega
end Go.Fx.Tryz
namespace Go.Fx.Mo
set_option maxRecDepth 20000
theorem QV{l:List Ev}{out:List qQ}(hl:l.length<=20000)(hf:jH l Za []=.inl out)(hs:out.Pairwise fun a b=>yE a b=true):jM l=.inl out:=by
 have hs':out.mergeSort yE=out:=(qk6 (q2c hf) (List.Perm.refl _) hs).symm
 unfold jM run
 rw[if_neg om]
 cases hr:QQ l 0 zi ⟨[],[],[]⟩with
 | none=>
  obtain⟨x,hx⟩:=q6z l 0 zi _ Za [] rfl hr
  rw[hx]at hf
  cases hf
 | some h=>
  simp only[hf,hs']
def yH:Ev:=ev 11 0 0 1
def yW:Ev:=ev 3 0 4096 4
def vK:Ev:=ev 2 1 4096 4
def evX:Ev:=ev 4 0 4096 4
def evY:Ev:=ev 4 1 4096 4
def qks:Ev:=ev 3 0 4100 4
def qqM:Ev:=ev 2 1 4100 4
def qcJ(i j:Int)(a b:Qk):List qQ:=(List.range 4).map fun(k:Nat)=>⟨4096+(k:Int),{ a with ev:=i },{ b with ev:=j }⟩
def acc(t:Int)(s a:Bool):Qk:=⟨0,t,0,s,a⟩
def ex1:List Ev:=[yH,yW,vK]
def ex2:List Ev:=[yW,yH,vK,ev 12 1 0 0,ev 13 0 0 1,yW]
def ex3:List Ev:=[yH,ev 14 0 5 0,yW,ev 15 0 5 0,ev 14 1 5 0,vK]
def ex4:List Ev:=[yH,ev 14 0 5 0,yW,ev 15 0 5 0,ev 14 1 6 0,vK]
def ex5:List Ev:=[yH,evX,evY]
def ex6:List Ev:=[yH,evX,vK]
def ex7:List Ev:=[yH,qks,evX,evY,qqM]
theorem q9o(i j:Int)(a b:Qk):(qcJ i j a b).Pairwise fun a b=>yE a b=true:=by
 have:qcJ i j a b=[⟨4096+0,{ a with ev:=i },{ b with ev:=j }⟩,⟨4096+1,{ a with ev:=i },{ b with ev:=j }⟩,⟨4096+2,{ a with ev:=i },{ b with ev:=j }⟩,⟨4096+3,{ a with ev:=i },{ b with ev:=j }⟩]:=rfl
 rw[this]
 simp[jR]
theorem qI8:jM ex1=.inl (qcJ 1 2 (acc 0 true false) (acc 1 false false)):=QV (by simp[ex1]) kr (q9o ..)
theorem qI3:jM ex2=.inl []:=QV (by simp[ex2]) kr (by simp)
theorem qEH:jM ex3=.inl []:=QV (by simp[ex3]) kr (by simp)
theorem qz9:jM ex4=.inl (qcJ 2 5 (acc 0 true false) (acc 1 false false)):=QV (by simp[ex4]) kr (q9o ..)
theorem qH7:jM ex5=.inl []:=QV (by simp[ex5]) kr (by simp)
theorem qHh:jM ex6=.inl (qcJ 1 2 (acc 0 true true) (acc 1 false false)):=QV (by simp[ex6]) kr (q9o ..)
theorem qF5:jM ex7=.inl []:=QV (by simp[ex7]) kr (by simp)
theorem qr8:jM [vK]=.inr 300:=kr
end Go.Fx.Mo
namespace Go.Fx.Tryz
set_option maxRecDepth 100000
open Go Go.Fx Go.Proofs
def c30:=qx Tryz.f30
def qLU:=Tryz.f30.results.toList
abbrev qFP K:=qH P qLU K
def f30 a b c d w K:=CS P c30 none [8] [8] (qFP K) (zh 14 [(VI a),(VI b),(Value.int .u32 c),(VI d)]) w
theorem qF6:f30 a b c d w K=(qt (qn P 45) 45 w (fun e h=>∃ f:Array Value,(∀ wq,(Instr.build 45 #[(0,(Value.int .i64 a)),(1,(Value.int .i64 b)),(3,(Value.int .u32 c)),(5,(Value.int .i64 d))]).run P wq=.ok (.agg f) wq)/\qN 6 (Addr.mk e 0 none) f h (fun g=>qf 6 (Addr.mk e 0 none) g (fun i=>K (Value.agg i) g)))):=kr
theorem qIk a b c d w K(h:f30 a b c d w K):qa P 30 [(Value.int .i64 a),(Value.int .i64 b),(Value.int .u32 c),(Value.int .i64 d)] w K:=zj c30 Tryz.func30 h
def c32:=qx Tryz.f32
def qLX:=Tryz.f32.results.toList
abbrev q8P K:=qH P qLX K
def f32 a b c d e f w K:=CS P c32 none [4] [4] (q8P K) (zh 26 [(VS a b c),(VS d e f)]) w
def qyh a b c d f g h w K:=SG c32 7 [4] [4] (q8P K) 26 [(1,VS a b c),(0,VS d f g),(4,VB h)] w
abbrev qGT K:=kq c32 7 [4] [4] (q8P K)
abbrev qtx K:=qq 0 (qGT K)
def qAO K Y1 e w:=zJ (fun e w=>CS P (cA c32 116) none [13,1,0,4,12] [4] (qw [13,1,0,4,12] Y1 (qtx K)) e w) e w
abbrev q71 K Y1:=qw [13,1,0,4,12] Y1 (qtx K)
def qjG a b c d f g h i j w K Y1:=SG c32 116 [13,1,0,4,12] [4] (q71 K Y1) 26 [(13,VI a),(1,VS b c d),(0,VS f g h),(4,VB i),(12,VI j)] w
def qxA a b c d f g h i j w K Y1:=SG c32 467 [13,1,0,4,12] [4] (q71 K Y1) 26 [(1,VS a b c),(0,VS d f g),(12,VI h),(13,VI i),(4,VB j)] w
def qwW a b c d f g h i j w K Y1:=SG c32 935 [13,1,0,4,12] [4] (q71 K Y1) 26 [(1,VS a b c),(0,VS d f g),(4,VB h),(12,VI i),(13,VI j)] w
theorem qmT:qwW a b c d e f g h i w K Y1=(Y1 (ql.mk 26 [(13,(Value.int .i64 (IntKind.wrap .i64 (i+1)))),(1,(Value.slice a b c)),(0,(Value.slice d e f)),(4,(Value.bool g)),(12,(Value.int .i64 h))] []) w):=kr
theorem qoN:qxA b c f d e g h a i w K Y1=(qi d (fun m=>0<=a/\a<(e:Nat)/\qi b (fun n=>0<=a/\a<(c:Nat)/\qf 3 (m.add (Int.toNat a*3)) w.drew (fun j=>qf 3 (n.add (Int.toNat a*3)) w.drew (fun k=>∃ l:Bool,(∀ wq,(do eqGuard .neq 88 (.tmp 19) (.tmp 23) (Value.agg j) (Value.agg k);binOp .neq 88 (Value.agg j) (Value.agg k):Sem Value).run P wq=.ok (.bool l) wq)/\qC l (K (Value.bool false) w.drew) (qwW b c f d e g i h a w.drew K Y1)))))):=kr
def qsj w K:=SG c32 15 [4] [4] (q8P K) 26 [] w
theorem qmD:qsj w K=(K (Value.bool true) w):=kr
theorem qfw:qjG a c d e f g h i b w K Y1=(qC (decide (a<b)) (qxA c d e f g h b a i w K Y1) (qsj w K)):=kr
theorem qog:qyh d e f a b c g w K=(∃ h:Int,(∀ wq,zZ w wq->(Builtin.len_ #[84] 3 #[(Value.slice a b c)]).run P wq=.ok (.int .i64 h) wq)/\za (qAO K) (ql.mk 26 [(13,(Value.int .i64 0)),(1,(Value.slice d e f)),(0,(Value.slice a b c)),(4,(Value.bool g)),(12,(Value.int .i64 h))] []) w):=kr
theorem qG1:f32 a b c d e f w K=(∃ g:Int,(∀ wq,zZ w wq->(Builtin.len_ #[84] 3 #[(Value.slice a b c)]).run P wq=.ok (.int .i64 g) wq)/\∃ h:Int,(∀ wq,zZ w wq->(Builtin.len_ #[84] 3 #[(Value.slice d e f)]).run P wq=.ok (.int .i64 h) wq)/\qC (g != h) (K (Value.bool false) w) (qyh d e f a b c false w K)):=kr
theorem qHW a b c d e f w K(h:f32 a b c d e f w K):qa P 32 [(Value.slice a b c),(Value.slice d e f)] w K:=zj c32 Tryz.func32 h
def c33:=qx Tryz.f33
def qLP:=Tryz.f33.results.toList
abbrev qrg K:=qH P qLP K
def f33 a b c w K:=CS P c33 none [2] [2] (qrg K) (zh 8 [(VS a b c)]) w
def qsX a b c w K:=SG c33 7 [2] [2] (qrg K) 8 [(0,VS a b c)] w
theorem qpK:qsX a b c w K=(∃ (d:OA) (e f:Nat),∃ g:World,(Instr.buildSlice 22 0 ([]:List (Nat × Value)).toArray).run P w=.ok (.slice d e f) g/\∃ (h:OA) (i j:Nat),∃ k:World,(Builtin.append_ #[22,22] 22 #[(Value.slice d e f),(Value.slice a b c)]).run P g=.ok (.slice h i j) k/\K (Value.slice h i j) k):=kr
theorem qHu:f33 a b c w K=(qC a.isNone (K (Value.slice none 0 0) w) (qsX a b c w K)):=kr
theorem qG2 a b c w K(h:f33 a b c w K):qa P 33 [(Value.slice a b c)] w K:=zj c33 Tryz.func33 h
end Go.Fx.Tryz
namespace Go.Fx.Tryz
open Go Go.Fx Go.Fx.Mo
open Go.Proofs
variable {w0 w:World} {H:qP} {K:KT}
set_option maxRecDepth 20000
abbrev evV(e:Ev):Value:=.agg (qE e).toArray
theorem qzT(k t a n:Int)(wq:World):(Instr.build 45 [(0,(Value.int .i64 k)),(1,(Value.int .i64 t)),(3,(Value.int .u32 a)),(5,(Value.int .i64 n))].toArray).run P wq=.ok (evV (ev k t a n)) wq:=kr
theorem q0y(h:St w0 w H)(k t a n:Int)(hK:∀ w',St w0 w' H->K (evV (ev k t a n)) w'):qa P 30 [.int .i64 k,.int .i64 t,.int .u32 a,.int .i64 n] w K:=by
 refine qIk _ _ _ _ _ _ ?_
 obtain⟨ze,hze,hzel⟩:=z35
 rw[qF6,hze]
 refine h.newC fun n4 w1 hn4 h1=>⟨_,qzT k t a n,?_⟩
 refine h1.stA (k:=0) rfl (by simp[qu]) (by simp[hzel]) (yr _) fun w2 h2=>?_
 have h2:St w0 w2 ((n4,Cs (qI ze 0 (qE (ev k t a n))) 45)::H):=h2
 rw[qB (by rw[qu,hzel])]at h2
 refine h2.ldA (k:=0) (i:=0) rfl (by simp[qu]) ?_
 exact hK w2 (h2.tail hn4)
theorem QG(l:List Ev):(zq l).length=l.length*6:=by
 induction l with
 | nil=>rfl
 | cons x r ih=>
  have e:zq (x::r)=qE x++zq r:=rfl
  rw[e,List.length_append,ih,qu,List.length_cons]
  omega
theorem qkN{l:List Ev}{n:Nat}(hn:(n,Cs (zq l) 45)∈H):∀ w',St w0 w' H->Qt w' 6 (.slice (some (Addr.mk n 0 none)) l.length l.length) l.length (zq l):=fun w' h'=>
 ⟨QG l,.inr ⟨_,_,rfl,fun i _=>by rw[qc,qv (h'.has _ _ hn),Nat.zero_add]⟩⟩
theorem qsn(l:List Ev):(((l.map evV).map fun(v:Value)=>v.cells.toList).flatten.toArray).toList=zq l:=by
 simp only[List.toList_toArray,List.map_map,zq]
 congr 1
theorem qlA(l:List Ev):qJ 6 (l.map evV):=by
 induction l with
 | nil=>trivial
 | cons x r ih=>exact⟨rfl,ih⟩
theorem YH(l:List Ev)(h:St w0 w H){K:Nat->World->Prop}(hK:∀ n w',w0.heap.size<=n->St w0 w' ((n,Cs (zq l) 45)::H)->K n w') :
  qJ 6 (l.map evV)/\qt (((l.map evV).map fun(v:Value)=>v.cells.toList).flatten.toArray) 45 w K:=by
 refine⟨qlA l,h.newC fun n w' hn h'=>hK n w' hn ?_⟩
 rw[qsn]at h'
 exact h'
theorem ZQ(hsort:q51 w0 66){l:List Ev}{out:List Mo.qQ}(hr:jM l=.inl out)(hl:l.length<1000)(h:St w0 w H){n:Nat}(hn:(n,Cs (zq l) 45)∈H)
  (hK:∀ w' a c Lo,zC 3 88 (.slice a out.length c) out.length (yK out) Lo->zr w0 Lo->St w0 w' (Lo++H)->K (.tuple [.slice a out.length c,.bool true].toArray) w') :
  qa P 31 [.slice (some (Addr.mk n 0 none)) l.length l.length] w K:=by
 refine q6H hsort h (qkN hn) om (fun x hx=>by rw[hr]at hx;cases hx) fun out' hx hlen w' rv Lo hS hN h'=>?_
 rw[hr]at hx
 cases hx
 obtain⟨a,c,hrv⟩:=hS.form
 subst hrv
 exact hK w' a c Lo hS hN h'
theorem yY{p:Option Addr}{l c:Nat}(wq:World):(Builtin.len_ #[84] 3 [Value.slice p l c].toArray).run P wq=.ok (.int .i64 l) wq:=qZ p l c Tryz.underlying84 3
theorem eqA(a b c:Int)(wq:World)(d:Nat)(h3:∀ d x,(Op.equalIn (d+1) 3 (.int .i64 x) (.int .i64 x)).run P wq=.ok true wq):(Op.equalIn (d+2) 88 (.agg #[qj a,qj b,qj c]) (.agg #[qj a,qj b,qj c])).run P wq=.ok true wq:=by
 have p0:(part 3 #[qj a,qj b,qj c] 0).run P wq=.ok (qj a) wq:=kr
 have p1:(part 3 #[qj a,qj b,qj c] 1).run P wq=.ok (qj b) wq:=kr
 have p2:(part 3 #[qj a,qj b,qj c] 2).run P wq=.ok (qj c) wq:=kr
 rw[Op.equalIn]
 simp[run_underlying Tryz.underlying88,Tryz.sizeOf3,List.range',h3,p0,p1,p2]
theorem qJQ(a b c:Int)(wq:World)(s t:Nat):(do eqGuard .neq 88 (.tmp s) (.tmp t) (.agg #[qj a,qj b,qj c]) (.agg #[qj a,qj b,qj c]);binOp .neq 88 (.agg #[qj a,qj b,qj c]) (.agg #[qj a,qj b,qj c]):Sem Value).run P wq=.ok (.bool false) wq:=by
 have h3:∀ d x,(Op.equalIn (d+1) 3 (.int .i64 x) (.int .i64 x)).run P wq=.ok true wq:=fun d x=>by simp[Op.equalIn,run_underlying Tryz.underlying3]
 have hm:∃ d,Op.maxDepth=d+2:=⟨_,rfl⟩
 obtain⟨d,hd⟩:=hm
 have he:(Op.equal 88 (.agg #[qj a,qj b,qj c]) (.agg #[qj a,qj b,qj c])).run P wq=.ok true wq:=by
  unfold Op.equal
  rw[hd]
  exact eqA a b c wq d h3
 simp[eqGuard,binOp,he,Tryz.eqGuardType88]
theorem qdS{l:List Mo.qQ}{i:Nat}(hi:i<l.length):((yK l).drop (i*3)).take 3=(Vm l[i]).map qj:=yD (f:=fun r=>(Vm r).map qj) (fun x _=>by simp[Vm]) hi
theorem qux{l:List Mo.qQ}{av bv:Value}(h:St w0 w H)(ha:∀ w',St w0 w' H->Qt w' 3 av l.length (yK l))(hb:∀ w',St w0 w' H->Qt w' 3 bv l.length (yK l))(hl63:l.length<9223372036854775807)
  (hK:∀ w',St w0 w' H->K (.bool true) w'):qa P 32 [av,bv] w K:=by
 obtain⟨a1,a2,hav⟩:=(ha w h).form
 obtain⟨b1,b2,hbv⟩:=(hb w h).form
 rw[hav,hbv]
 refine qHW _ _ _ _ _ _ _ _ ?_
 rw[qG1]
 refine⟨l.length,fun wq _=>yY wq,l.length,fun wq _=>yY wq,?_⟩
 rw[show((l.length:Int) != (l.length:Int))=false by simp,qd,qog]
 refine⟨l.length,fun wq _=>yY wq,?_⟩
 refine⟨fun m ee w=>∃ (i:Nat),i<=l.length/\m=l.length-i/\ee=ql.mk 26 [(13,(Value.int .i64 i)),(1,(Value.slice b1 l.length b2)),(0,(Value.slice a1 l.length a2)),(4,(Value.bool false)),(12,(Value.int .i64 l.length))] []/\St w0 w H,
  ⟨l.length,0,by omega,rfl,rfl,h⟩,?_⟩
 rintro m ee w ⟨i,hi,rfl,rfl,hw⟩
 show qjG ..
 rw[qfw,qg]
 constructor
 ·intro hlt
  have hlt:i<l.length:=by simpa using hlt
  rw[qoN]
  have hd:=hw.drew
  obtain⟨a,c,hac,hld⟩:=(ha _ hd).ldA hlt
  rw[hav]at hac
  obtain⟨hsa,-⟩:a1=some a/\a2=c:=by simpa using hac
  subst hsa
  obtain⟨b,c',hbc,hldb⟩:=(hb _ hd).ldA hlt
  rw[hbv]at hbc
  obtain⟨hsb,-⟩:b1=some b/\b2=c':=by simpa using hbc
  subst hsb
  refine⟨by omega,by omega,by omega,by omega,hld _ (hldb _ ?_)⟩
  rw[qdS hlt]
  refine⟨_,fun wq=>qJQ _ _ _ wq _ _,?_⟩
  rw[qd,qmT]
  refine⟨l.length-(i+1),by omega,i+1,by omega,rfl,?_,hd⟩
  rw[qk om om];rfl
 ·intro hge
  rw[qmD]
  exact hK w hw
theorem qwq{l:List Ev}(h:St w0 w H){n:Nat}(hn:(n,Cs (zq l) 45)∈H)(hl:l.length<1000)(hK:∀ w' v L,zC 6 45 v l.length (zq l) L->zr w0 L->St w0 w' (L++H)->K v w'):qa P 33 [.slice (some (Addr.mk n 0 none)) l.length l.length] w K:=by
 refine qG2 _ _ _ _ _ ?_
 rw[qHu,Option.isNone_some,qd,qpK]
 have bs:∀ w:World,(Instr.buildSlice 22 0 ([]:List (Nat × Value)).toArray).run P w=.ok (.slice (some ⟨w.heap.size,0,none⟩) 0 0) (w.alloc (.cells #[] 45 (0,0))):=fun w=>by kernel_rfl
 refine⟨_,_,_,_,bs w,?_⟩
 have h3:=h.alloc (.cells #[] 45 (0,0))
 have hn3:=h.le
 generalize w.heap.size=m at h3 hn3
 have h3:St w0 (w.alloc (.cells #[] 45 (0,0))) ([]++([(m,Cs [] 45)]++H)):=h3
 have hS0:zC 6 45 (.slice (some ⟨m,0,none⟩) 0 0) 0 [] [(m,Cs [] 45)]:=⟨rfl,.inr ⟨m,0,[],rfl,rfl,by omega,by simp[maxLen],rfl,rfl⟩⟩
 have hSn:zC 6 45 (.slice (some (Addr.mk n 0 none)) l.length l.length) l.length (zq l) [(n,Cs (zq l) 45)]:=⟨QG l,.inr ⟨n,l.length,zq l,rfl,rfl,by omega,by simp[maxLen];omega,QG l,by rw[<-QG l];exact List.take_length⟩⟩
 have hone:∀ u∈zq l,u.oneCell'=true:=by
  intro u hu
  obtain⟨x,hx,hu⟩:=List.mem_flatten.1 hu
  obtain⟨r,_,rfl⟩:=List.mem_map.1 hx
  exact yr r u (by simpa using hu)
 obtain⟨v',w',L',hr,hS,hs,hN⟩:=St.appendN (P:=P) 22 22 45 Tryz.t45 (.agg #[qj 0,qj 0,.int .u32 0,.int .u32 0,.int .u32 0,qj 0]) 6 40 Tryz.underlying22 kr rfl rfl rfl rfl om
  (A:=[]) (L:=[(m,Cs [] 45)]) (H:=H) (M:=[(n,Cs (zq l) 45)]) h3 hS0 (by simpa [zr]using hn3) hSn (fun y hy=>by simp at hy;subst hy;exact h3.has _ _ (by simp[hn])) hone (by simp[maxLen];omega) om
 obtain⟨a,c,hv⟩:=hS.form
 subst hv
 refine⟨a,_,c,w',hr,hK w' _ L' (by simpa using hS) hN hs⟩
end Go.Fx.Tryz
namespace Go.Proofs
open Go.Shelf
set_option maxRecDepth 100000
def Tryz.sortR_ren:Go.Shelf.Ren:=⟨fun | 6=>65 | 15=>89 | 14=>88 | 28=>110 | 29=>111 | 20=>102 | 21=>103 | 22=>104 | 23=>105 | 24=>106 | 25=>107 | 26=>108 | 27=>109 | 46=>126 | 47=>127 | 48=>128 | 49=>129 | 50=>130 | 57=>134 | n=>n,fun | 22=>39 | 24=>108 | 25=>156 | 3=>3 | 39=>178 | 0=>0 | 53=>43 | 55=>174 | 4=>4 | 46=>187 | 45=>186 | 50=>191 | 5=>5 | 9=>9 | 66=>205 | 70=>161 | 76=>213 | 77=>46 | n=>n,fun | n=>n⟩
theorem Tryz.sortR:Go.Proofs.SlLaysF0.n6 Tryz.prog Tryz.sortR_ren:={
 mixed:=kr,
 f6:=⟨Tryz.f65.name,by decide,Tryz.func65.trans (congrArg some kr)⟩,
 f14:=⟨Tryz.f88.name,by decide,Tryz.func88.trans (congrArg some kr)⟩,
 f15:=Tryz.func89.trans (congrArg some kr),
 f20:=⟨Tryz.f102.name,by decide,Tryz.func102.trans (congrArg some kr)⟩,
 f21:=⟨Tryz.f103.name,by decide,Tryz.func103.trans (congrArg some kr)⟩,
 f22:=⟨Tryz.f104.name,by decide,Tryz.func104.trans (congrArg some kr)⟩,
 f23:=⟨Tryz.f105.name,by decide,Tryz.func105.trans (congrArg some kr)⟩,
 f24:=⟨Tryz.f106.name,by decide,Tryz.func106.trans (congrArg some kr)⟩,
 f25:=⟨Tryz.f107.name,by decide,Tryz.func107.trans (congrArg some kr)⟩,
 f26:=⟨Tryz.f108.name,by decide,Tryz.func108.trans (congrArg some kr)⟩,
 f27:=⟨Tryz.f109.name,by decide,Tryz.func109.trans (congrArg some kr)⟩,
 f28:=Tryz.func110.trans (congrArg some kr),
 f29:=Tryz.func111.trans (congrArg some kr),
 f46:=⟨Tryz.f126.name,by decide,Tryz.func126.trans (congrArg some kr)⟩,
 f47:=Tryz.func127.trans (congrArg some kr),
 f48:=Tryz.func128.trans (congrArg some kr),
 f49:=⟨Tryz.f129.name,by decide,Tryz.func129.trans (congrArg some kr)⟩,
 f50:=⟨Tryz.f130.name,by decide,Tryz.func130.trans (congrArg some kr)⟩,
 f57:=⟨Tryz.f134.name,by decide,Tryz.func134.trans (congrArg some kr)⟩,
 t0:=Tryz.underlying0,
 a0:=Tryz.isAgg0,
 z0:=Tryz.sizeOf0,
 v0:=Tryz.zeroValue0,
 t3:=Tryz.underlying3,
 a3:=Tryz.isAgg3,
 z3:=Tryz.sizeOf3,
 v3:=Tryz.zeroValue3,
 t4:=Tryz.underlying4,
 a4:=Tryz.isAgg4,
 z4:=Tryz.sizeOf4,
 v4:=Tryz.zeroValue4,
 t5:=Tryz.underlying5,
 a5:=Tryz.isAgg5,
 z5:=Tryz.sizeOf5,
 v5:=Tryz.zeroValue5,
 t9:=Tryz.underlying9,
 a9:=Tryz.isAgg9,
 z9:=Tryz.sizeOf9,
 v9:=Tryz.zeroValue9,
 t22:=Tryz.underlying39,
 a22:=Tryz.isAgg39,
 z22:=Tryz.sizeOf39,
 v22:=Tryz.zeroValue39,
 t25:=Tryz.underlying156,
 a25:=Tryz.isAgg156,
 z25:=Tryz.sizeOf156,
 v25:=Tryz.zeroValue156,
 t39:=Tryz.underlying178,
 a39:=Tryz.isAgg178,
 z39:=Tryz.sizeOf178,
 v39:=Tryz.zeroValue178,
 t45:=Tryz.underlying186,
 a45:=Tryz.isAgg186,
 z45:=Tryz.sizeOf186,
 v45:=Tryz.zeroValue186,
 t46:=Tryz.underlying187,
 a46:=Tryz.isAgg187,
 z46:=Tryz.sizeOf187,
 v46:=Tryz.zeroValue187,
 t50:=Tryz.underlying191,
 a50:=Tryz.isAgg191,
 z50:=Tryz.sizeOf191,
 v50:=Tryz.zeroValue191,
 t53:=Tryz.underlying43,
 a53:=Tryz.isAgg43,
 z53:=Tryz.sizeOf43,
 v53:=Tryz.zeroValue43,
 t55:=Tryz.underlying174,
 a55:=Tryz.isAgg174,
 z55:=Tryz.sizeOf174,
 v55:=Tryz.zeroValue174,
 t66:=Tryz.underlying205,
 a66:=Tryz.isAgg205,
 z66:=Tryz.sizeOf205,
 v66:=Tryz.zeroValue205,
 t70:=Tryz.underlying161,
 a70:=Tryz.isAgg161,
 z70:=Tryz.sizeOf161,
 v70:=Tryz.zeroValue161,
 t76:=Tryz.underlying213,
 a76:=Tryz.isAgg213,
 z76:=Tryz.sizeOf213,
 v76:=Tryz.zeroValue213,
 t77:=Tryz.underlying46,
 a77:=Tryz.isAgg46,
 z77:=Tryz.sizeOf46,
 v77:=Tryz.zeroValue46 }
end Go.Proofs
namespace Go.Fx
open Go Go.Sort Go.Proofs
variable {w0 w:World} {H:qP}
theorem St.grow(h:St w0 w H)(os:Array Obj):St w0 (Go.Sort.grow w os) H:=by
 have hg:∀ b,b<w.heap.size->(Go.Sort.grow w os).heap[b]?=w.heap[b]?:=fun b hb=>by
  show(w.heap++os)[b]?=_
  rw[Array.getElem?_append_left hb]
 refine⟨⟨h.kept.os,h.kept.tape,h.kept.output⟩,?_,fun b o hb=>?_,h.nd,fun b hb hn=>?_⟩
 ·show w0.heap.size<=(w.heap++os).size
  rw[Array.size_append]
  have:=h.le
  omega
 ·rw[hg b (h.lt hb)];exact h.has b o hb
 ·rw[hg b (Nat.lt_of_lt_of_le hb h.le)];exact h.old b hb hn
theorem qbb{α:Type}{f:α->List Value}{n:Nat}(hn:0<n):∀ {l:List α},(∀ x∈l,(f x).length=n)->∀ t:Nat,((l.map f).flatten)[t]?=(l[t / n]?).bind fun x=>(f x)[t % n]?
 | [],_,t=>by simp
 | x::r,h,t=>by
  have hx:=h x (.head _)
  rw[List.map_cons,List.flatten_cons]
  by_cases ht:t<n
  ·rw[List.getElem?_append_left om,Nat.div_eq_of_lt ht,Nat.mod_eq_of_lt ht]
   rfl
  ·rw[List.getElem?_append_right om,qbb hn (fun y hy=>h y (.tail _ hy)),hx]
   have e1:t / n=(t-n) / n+1:=by rw[<-Nat.add_div_right _ hn];congr 1;omega
   have e2:t % n=(t-n) % n:=by rw[<-Nat.add_mod_right (t-n)];congr 1;omega
   rw[e1,e2,List.getElem?_cons_succ]
theorem q7t{w:World}{b:Nat}{cs:List Value}{t:TypeId}(h:w.heap[b]?=some (Cs cs t))(f:Array Value->Array Value):mapBlock w b f=w.putObj b (Cs (f cs.toArray).toList t):=by
 unfold mapBlock World.putObj
 congr 1
 apply Array.ext_getElem?
 intro c
 rw[Array.getElem?_modify,Array.getElem?_setIfInBounds]
 obtain⟨hlt,he⟩:=Array.getElem?_eq_some_iff.1 h
 by_cases hbc:b=c
 ·subst hbc
  simp only[if_true,hlt]
  rw[Array.getElem?_eq_getElem hlt,he]
  simp[onCells,Cs]
 ·simp[hbc]
namespace Tryz
open Go.Fx.Mo
set_option maxRecDepth 20000
theorem JU(d:Array Mo.qQ):(flatK qz 11 d).toList=qA d.toList:=by
 apply List.ext_getElem?
 intro t
 have hl:(flatK qz 11 d).size=d.size*11:=size_flatK ..
 by_cases ht:t<d.size*11
 ·have h1:t / 11<d.size:=by omega
  have e1:(flatK qz 11 d).toList[t]?=some (flatK qz 11 d)[t]!:=by
   rw[Array.getElem?_toList,Array.getElem?_eq_getElem om,getElem!_pos _ t om]
  rw[e1,get_flatK _ _ _ _ ht]
  unfold qA
  rw[qbb om (fun x _=>yO x)]
  rw[Array.getElem?_toList,Array.getElem?_eq_getElem h1,Option.bind_some,getElem!_pos d _ h1]
  have h2:t % 11<(qz d[t / 11]).length:=by rw[yO];omega
  rw[List.getElem?_eq_getElem h2,getElem!_pos (qz d[t / 11]) _ h2]
 ·rw[List.getElem?_eq_none (by rw[Array.length_toList,hl];omega),List.getElem?_eq_none]
  have:(qA d.toList).length=d.size*11:=by
   have key:∀ l:List Mo.qQ,(qA l).length=l.length*11:=by
    intro l
    induction l with
    | nil=>rfl
    | cons x r ih=>
     have e:qA (x::r)=qz x++qA r:=rfl
     rw[e,List.length_append,ih,yO,List.length_cons]
     omega
   rw[key,Array.length_toList]
  omega
theorem ltR(a b:Mo.qQ):ltOf cfR a b=decide (a.second.ev<b.second.ev\/a.second.ev=b.second.ev/\a.byte<b.byte):=by
 unfold ltOf cfR orI q1A
 by_cases h1:a.second.ev<b.second.ev
 ·simp[h1]
 ·by_cases h2:a.second.ev > b.second.ev
  ·have:¬ a.second.ev=b.second.ev:=by omega
   simp[h1,h2,this]
  ·have he:a.second.ev=b.second.ev:=by omega
   by_cases h3:a.byte<b.byte
   ·simp[he,h3]
   ·by_cases h4:b.byte<a.byte<;>simp[he,h3,h4]
theorem qLm:SWO (ltOf cfR) where
 irrefl x:=by rw[ltR];simp
 trans x y z h1 h2:=by rw[ltR]at *;simp at *;omega
 ntrans x y z h1 h2:=by rw[ltR]at *;simp at *;omega
theorem qAU{g:Nat}(hg:∀ (a b:Mo.qQ) {w:World} {K:KT},(∀ w',(∃ q os,w'=Go.Sort.grow (w.drewN q) os)->K (.int .i64 (cfR a b)) w')->qa P g [.agg (qz a).toArray,.agg (qz b).toArray] w K)
  (blk off size:Nat) (w:World):CmpLays P g #[] qz 11 cfR blk off size w:=by
 intro m os dk _ x y
 have h:=hg x y (w:=sortWorldK qz 11 w blk off m dk os) (K:=fun v w'=>v=.int .i64 (cfR x y)/\∃ q os',w'=Go.Sort.grow ((sortWorldK qz 11 w blk off m dk os).drewN q) os') (fun w' hw=>⟨rfl,hw⟩)
 unfold qa q3B at h
 refine Calls.mono h fun e w' he=>?_
 unfold q5B at he
 split at he
 ·exact⟨by rw[he.1],he.2⟩
 ·exact he.elim
theorem qM6(w:World):(isAgg 108).run P w=.ok true w:=Tryz.isAgg108 w
theorem JI(w:World):(Go.sizeOf 108).run P w=.ok 11 w:=Tryz.sizeOf108 w
theorem Qi{g:Nat}{args:List Value}{K:KT}{Q:Ending->World->Prop}(h:Calls P g args.toArray w Q)(hK:∀ e w',Q e w'->∃ v,e=.returned v/\K v w'):qa P g args w K:=by
 unfold qa q3B
 refine Calls.mono h fun e w' he=>?_
 obtain⟨v,rfl,hv⟩:=hK e w' he
 exact hv
theorem qGN{g:Nat}(eg:∀ args w,(callFunc g args).run P w=.ok (.enter g args) w)(hg:∀ (a b:Mo.qQ) {w:World} {K:KT},(∀ w',(∃ q os,w'=Go.Sort.grow (w.drewN q) os)->K (.int .i64 (cfR a b)) w')->qa P g [.agg (qz a).toArray,.agg (qz b).toArray] w K):q51 w0 g:=by
 intro w H K out ov Lo h hLo hnd hlen hK
 rcases hLo.2 with⟨rfl,hn,rfl⟩ | ⟨blk,cap,cur,rfl,rfl,hnc,hcm,hcl,htk⟩
 ·have hout:out=[]:=List.length_eq_zero_iff.1 hn
  subst hout
  refine Qi (AnyF.slices_SortFunc_none (P:=P) { Tryz.sortR with } none 0 (.func (.func g) #[] #[]) w) ?_
  rintro e w' ⟨rfl,rfl⟩
  exact⟨_,rfl,hK w' [] (by simpa using hLo) (fun hN=>hN) h⟩
 ·have hb:w.heap[blk]?=some (Cs cur 108):=h.has _ _ (by simp)
  have hrow:qA out=cur.take (out.length*11):=htk.symm
  have hxl:(qA out).length=out.length*11:=hLo.1
  have hH:HoldsK qz 11 w blk 0 out.toArray:=by
   intro j hj
   rw[size_flatK]at hj
   have hj:j<out.length*11:=by simpa using hj
   have e:(flatK qz 11 out.toArray)[j]! = (qA out)[j]!:=by
    have hf:=JU out.toArray
    have hs:j<(flatK qz 11 out.toArray).size:=by rw[size_flatK];simpa using hj
    have hf:(flatK qz 11 out.toArray).toList=qA out:=hf
    rw[getElem!_pos _ j hs,<-hf,getElem!_pos _ j (by simpa using hs)]
    rfl
   refine⟨?_,?_⟩
   ·rw[Nat.zero_add,qv hb]
    simp only[id]
    rw[e,getElem!_pos (qA out) j om]
    have e2:(qA out)[j]?=cur[j]?:=by rw[hrow,List.getElem?_take,if_pos hj]
    rw[<-e2,List.getElem?_eq_getElem om]
   ·rw[Nat.zero_add];exact Je hb
  have hcon:=AnyQ.slices_SortFunc (P:=P) { Tryz.sortR with } 11 qM6 JI qz yO (fun x v hv=>vY x v hv) cfR qLm g #[] blk 0 cap out.toArray w eg (qAU hg blk 0 out.toArray.size w) hH (Array.getElem?_eq_some_iff.1 hb).1 (by simp;omega)
  have hsz:out.toArray.size=out.length:=by simp
  rw[hsz]at hcon
  refine Qi hcon ?_
  rintro e w' ⟨rfl,d',n,os,⟨hds,_,hperm⟩,hsort,rfl⟩
  refine⟨_,rfl,?_⟩
  have e1:d'.extract 0 out.length=d':=by rw[<-hsz,<-hds];exact Array.extract_size
  have e0:out.toArray.extract 0 out.length=out.toArray:=by rw[<-hsz];exact Array.extract_size
  rw[e1,e0]at hperm
  have hds':d'.size=out.length:=by rw[hds,hsz]
  have hpw:d'.toList.Pairwise fun a b=>yE a b=true:=by
   rw[List.pairwise_iff_getElem]
   intro i j hi hj hij
   have hi':i<d'.size:=by simpa using hi
   have hj':j<d'.size:=by simpa using hj
   have hlt:=hsort i j (Nat.zero_le _) hij om
   rw[ltR,getElem!_pos d' i hi',getElem!_pos d' j hj']at hlt
   have hlt:=of_decide_eq_false hlt
   rw[jR]
   simp only[Array.getElem_toList]
   omega
  have hsorted:=qk6 hnd (by simpa using hperm) hpw
  have hs1:St w0 (Go.Sort.ahead w n) ([(blk,Cs cur 108)]++H):=⟨⟨h.kept.os,h.kept.tape,h.kept.output⟩,h.le,h.has,h.nd,h.old⟩
  have hb1:(Go.Sort.ahead w n).heap[blk]?=some (Cs cur 108):=hb
  have hw':sortWorldK qz 11 w blk 0 n d' os=Go.Sort.grow ((Go.Sort.ahead w n).putObj blk (Cs (putCells id 0 (flatK qz 11 d') cur.toArray).toList 108)) os:=by
   unfold sortWorldK putRowK putRow
   rw[q7t hb1]
  rw[hw']
  have hs2:=(hs1.put (k:=0) rfl (Cs (putCells id 0 (flatK qz 11 d') cur.toArray).toList 108)).grow os
  refine hK _ [(blk,Cs (putCells id 0 (flatK qz 11 d') cur.toArray).toList 108)] ?_ (fun hN=>by simpa [zr]using hN) hs2
  have hfl:(flatK qz 11 d').size=out.length*11:=by rw[size_flatK,hds']
  have hml:out.length=(out.mergeSort yE).length:=by rw[List.length_mergeSort]
  refine⟨?_,.inr ⟨blk,cap,_,rfl,rfl,hnc,hcm,?_,?_⟩⟩
  ·rw[<-hsorted,<-JU d',Array.length_toList,hfl]
  ·simp[putCells,hcl]
  ·rw[<-hsorted,<-JU d']
   apply List.ext_getElem?
   intro t
   rw[List.getElem?_take]
   have hle:out.length*11<=cap*11:=Nat.mul_le_mul_right _ hnc
   by_cases ht:t<out.length*11
   ·rw[if_pos ht]
    have htc:t<cur.length:=by omega
    have e:(putCells id 0 (flatK qz 11 d') cur.toArray).toList[t]?=some (flatK qz 11 d')[t]!:=by
     simp[putCells,htc,hfl,ht]
    rw[e,Array.getElem?_toList,Array.getElem?_eq_getElem om,getElem!_pos _ t om]
   ·rw[if_neg ht,List.getElem?_eq_none (by rw[Array.length_toList,hfl];omega)]
theorem Vh:q51 w0 66:=qGN (enters_of Tryz.func66 kr rfl) fun a b {_ _} h=>qJZ a b h
end Tryz
end Go.Fx
namespace Go.Fx.Tryz
set_option maxRecDepth 100000
open Go Go.Fx Go.Proofs
def c5:=qx Tryz.f5
def rs5:=Tryz.f5.results.toList
abbrev YX K:=qH P rs5 K
def f5 w K:=CS P c5 none [0] [0] (YX K) (zh 168 []) w
abbrev qKw K:=kq c5 31 [0] [0] (YX K)
def qrw a b c d w K:=SG c5 125 [3,1,2] [0] (qKw K) 168 [(42,VB a),(3,VQ b),(1,VQ c),(2,VQ d)] w
def qxH a b c w K:=SG c5 63 [0] [0] (YX K) 168 [(3,VQ a),(1,VQ b),(2,VQ c)] w
def qu0 a b c d f g h w K:=SG c5 127 [0] [0] (YX K) 168 [(3,VQ a),(1,VQ b),(2,VQ c),(6,VS d f g),(5,VB h)] w
abbrev qKV K:=kq c5 127 [0] [0] (YX K)
def qr0 a b c d w K:=SG c5 509 [3,1,2] [0] (qKV K) 168 [(60,VB a),(3,VQ b),(1,VQ c),(2,VQ d)] w
def qx0 a b c w K:=SG c5 255 [0] [0] (YX K) 168 [(3,VQ a),(1,VQ b),(2,VQ c)] w
def qit a b c d f w K:=SG c5 511 [0] [0] (YX K) 168 [(3,VQ a),(1,VQ b),(7,VS c d f)] w
abbrev qIr K:=kq c5 8191 [0] [0] (YX K)
def q9M a b c w K:=SG c5 32765 [3,1] [0] (qIr K) 168 [(98,VB a),(3,VQ b),(1,VQ c)] w
def qu4 a b w K:=SG c5 16383 [0] [0] (YX K) 168 [(3,VQ a),(1,VQ b)] w
abbrev qJd K:=kq c5 131071 [0] [0] (YX K)
def q6O a b c d f w K:=SG c5 524285 [3,12,11,1] [0] (qJd K) 168 [(139,VB a),(3,VQ b),(12,VQ c),(11,VQ d),(1,VQ f)] w
def qrO a b c d w K:=SG c5 262143 [0] [0] (YX K) 168 [(3,VQ a),(12,VQ b),(11,VQ c),(1,VQ d)] w
def q7G a w K:=SG c5 4194303 [0] [0] (YX K) 168 [(0,VB a)] w
theorem qmg:q7G a w K=(K (Value.bool a) w):=kr
theorem qxk:qrO c d e f w K=(qa P 30 [(Value.int .i64 3),(Value.int .i64 0),(Value.int .u32 4100),(Value.int .i64 4)] w (fun z a0=>∃ g:Array Value,z=(.agg g)/\qa P 30 [(Value.int .i64 2),(Value.int .i64 1),(Value.int .u32 4100),(Value.int .i64 4)] a0 (fun b0 c0=>∃ h:Array Value,b0=(.agg h)/\qt (qn P 45) 45 c0 (fun i d0=>qt (qn P 45) 45 d0 (fun j e0=>qN 6 (Addr.mk i 0 none) g e0 (fun f0=>qN 6 (Addr.mk j 0 none) h f0 (fun a=>qf 6 f a (fun k=>qf 6 (Addr.mk i 0 none) a (fun l=>qf 6 e a (fun m=>qf 6 d a (fun n=>qf 6 (Addr.mk j 0 none) a (fun o=>qJ 6 [(Value.agg k),(Value.agg l),(Value.agg m),(Value.agg n),(Value.agg o)]/\qt (([(Value.agg k),(Value.agg l),(Value.agg m),(Value.agg n),(Value.agg o)].map fun(v:Value)=>v.cells.toList).flatten.toArray) 45 a (fun g0 h0=>qa P 31 [(Value.slice (some (Addr.mk g0 0 none)) 5 5)] h0 (fun i0 p=>∃ (q:OA) (r s:Nat),∃ t:Bool,i0=(.tuple #[(Value.slice q r s),(Value.bool t)])/\qf 6 c p (fun u=>qJ 6 [(Value.agg u)]/\qt (([(Value.agg u)].map fun(v:Value)=>v.cells.toList).flatten.toArray) 45 p (fun j0 l0=>qa P 34 [(Value.slice (some (Addr.mk j0 0 none)) 1 1)] l0 (fun m0 b=>∃ (n0:OA) (o0 p0:Nat),∃ x:Int,m0=(.tuple #[(Value.slice n0 o0 p0),(Value.int .i64 x)])/\qC t (∃ y:Int,(∀ wq,zZ b wq->(Builtin.len_ #[84] 3 #[(Value.slice q r s)]).run P wq=.ok (.int .i64 y) wq)/\qC (y==0) (q7G (x==300) b K) (q7G false b K)) (q7G false b K)))))))))))))))))):=kr
theorem quV:q6O a b c d e w K=(qC a (K (Value.bool false) w) (qrO b c d e w K)):=kr
theorem qw2:qu4 d a w K=(qa P 30 [(Value.int .i64 4),(Value.int .i64 0),(Value.int .u32 4096),(Value.int .i64 4)] w (fun e0 f0=>∃ k:Array Value,e0=(.agg k)/\qa P 30 [(Value.int .i64 4),(Value.int .i64 1),(Value.int .u32 4096),(Value.int .i64 4)] f0 (fun g0 h0=>∃ l:Array Value,g0=(.agg l)/\qt (qn P 45) 45 h0 (fun b i0=>qt (qn P 45) 45 i0 (fun e j0=>qN 6 (Addr.mk b 0 none) k j0 (fun l0=>qN 6 (Addr.mk e 0 none) l l0 (fun f=>qf 6 a f (fun m=>qf 6 (Addr.mk b 0 none) f (fun n=>qf 6 (Addr.mk e 0 none) f (fun o=>qJ 6 [(Value.agg m),(Value.agg n),(Value.agg o)]/\qt (([(Value.agg m),(Value.agg n),(Value.agg o)].map fun(v:Value)=>v.cells.toList).flatten.toArray) 45 f (fun m0 n0=>qa P 31 [(Value.slice (some (Addr.mk m0 0 none)) 3 3)] n0 (fun o0 g=>∃ (p:OA) (q r:Nat),∃ s:Bool,o0=(.tuple #[(Value.slice p q r),(Value.bool s)])/\qf 6 a g (fun t=>qf 6 (Addr.mk b 0 none) g (fun u=>qf 6 d g (fun x=>qJ 6 [(Value.agg t),(Value.agg u),(Value.agg x)]/\qt (([(Value.agg t),(Value.agg u),(Value.agg x)].map fun(v:Value)=>v.cells.toList).flatten.toArray) 45 g (fun p0 q0=>qa P 31 [(Value.slice (some (Addr.mk p0 0 none)) 3 3)] q0 (fun r0 c=>∃ (h:OA) (i y:Nat),∃ z:Bool,r0=(.tuple #[(Value.slice h i y),(Value.bool z)])/\qC (!s) (q6O true d (Addr.mk e 0 none) (Addr.mk b 0 none) a c K) (qC (!z) (q6O true d (Addr.mk e 0 none) (Addr.mk b 0 none) a c K) (∃ a0:Int,(∀ wq,zZ c wq->(Builtin.len_ #[84] 3 #[(Value.slice p q r)]).run P wq=.ok (.int .i64 a0) wq)/\qC (a0 != 0) (q6O true d (Addr.mk e 0 none) (Addr.mk b 0 none) a c K) (∃ b0:Int,(∀ wq,zZ c wq->(Builtin.len_ #[84] 3 #[(Value.slice h i y)]).run P wq=.ok (.int .i64 b0) wq)/\qC (b0 != 4) (q6O true d (Addr.mk e 0 none) (Addr.mk b 0 none) a c K) (qi h (fun s0=>0<=(0:Int)/\(0:Int)<(i:Nat)/\qf 3 (s0.add (Int.toNat 0*3)) c (fun c0=>∃ j:Array Value,(∀ wq,(Instr.build 88 #[(0,(Value.int .i64 4096)),(1,(Value.int .i64 1)),(2,(Value.int .i64 2))]).run P wq=.ok (.agg j) wq)/\∃ d0:Bool,(∀ wq,(do eqGuard .neq 88 (.tmp 136) (.tmp 137) (Value.agg c0) (Value.agg j);binOp .neq 88 (Value.agg c0) (Value.agg j):Sem Value).run P wq=.ok (.bool d0) wq)/\q6O d0 d (Addr.mk e 0 none) (Addr.mk b 0 none) a c K))))))))))))))))))))))):=kr
theorem qxD:q9M a b c w K=(qC a (K (Value.bool false) w) (qu4 b c w K)):=kr
theorem qtR:qit b c d e f w K=(qa P 31 [(Value.slice d e f)] w (fun t u=>∃ (i:OA) (j k:Nat),∃ l:Bool,t=(.tuple #[(Value.slice i j k),(Value.bool l)])/\qa P 33 [(Value.slice d e f)] u (fun v x=>∃ (g:OA) (h m:Nat),v=(.slice g h m)/\qi g (fun y=>0<=(4:Int)/\(4:Int)<(h:Nat)/\zG ((y.add (Int.toNat 4*6)).add 3) (Value.int .u32 6) x (fun z=>qa P 31 [(Value.slice g h m)] z (fun a0 a=>∃ (n:OA) (o p:Nat),∃ q:Bool,a0=(.tuple #[(Value.slice n o p),(Value.bool q)])/\qC (!l) (q9M true b c a K) (qC (!q) (q9M true b c a K) (∃ r:Int,(∀ wq,zZ a wq->(Builtin.len_ #[84] 3 #[(Value.slice i j k)]).run P wq=.ok (.int .i64 r) wq)/\qC (r != 0) (q9M true b c a K) (∃ s:Int,(∀ wq,zZ a wq->(Builtin.len_ #[84] 3 #[(Value.slice n o p)]).run P wq=.ok (.int .i64 s) wq)/\q9M (s != 4) b c a K))))))))):=kr
abbrev qe(k t a n:Int)(w:World)(F:Array Value->(World->Prop)):Prop:=qa P 30 [(Value.int .i64 k),(Value.int .i64 t),(Value.int .u32 a),(Value.int .i64 n)] w (fun r v=>∃ c:Array Value,r=(.agg c)/\F c v)
abbrev qF(a b:Addr)(u1 u2 u3 u4 u5 u6:Array Value)(w:World)(K:KT):Prop:=qJ 6 [(Value.agg u1),(Value.agg u2),(Value.agg u3),(Value.agg u4),(Value.agg u5),(Value.agg u6)]/\qt (([(Value.agg u1),(Value.agg u2),(Value.agg u3),(Value.agg u4),(Value.agg u5),(Value.agg u6)].map fun(v:Value)=>v.cells.toList).flatten.toArray) 45 w (fun n v=>qit a b (some (Addr.mk n 0 none)) 6 6 v K)
theorem qvU:qx0 a b c w K=((qf 6 b w.drew (fun g=>(qe 14 0 5 0 w.drew (fun k q=>(qf 6 c q (fun r0=>(qe 15 0 5 0 q (fun u1 s0=>(qe 14 1 5 0 s0 (fun V2 v1=>qf 6 a v1 (fun W2=>qF a b g k r0 u1 V2 W2 v1 K)))/\(qf 6 a s0 (fun X2=>qe 14 1 5 0 s0 (fun Y2 Z2=>qF a b g k r0 u1 Y2 X2 Z2 K)))))/\(qf 6 a q (fun a3=>qe 15 0 5 0 q (fun b3 c3=>qe 14 1 5 0 c3 (fun d3 e3=>qF a b g k r0 b3 d3 a3 e3 K))))))/\(qe 15 0 5 0 q (fun a0 r=>(qf 6 c r (fun x1=>(qe 14 1 5 0 r (fun f3 y1=>qf 6 a y1 (fun g3=>qF a b g k x1 a0 f3 g3 y1 K)))/\(qf 6 a r (fun h3=>qe 14 1 5 0 r (fun i3 j3=>qF a b g k x1 a0 i3 h3 j3 K)))))/\(qe 14 1 5 0 r (fun l3 t0=>qf 6 c t0 (fun m3=>qf 6 a t0 (fun n3=>qF a b g k m3 a0 l3 n3 t0 K))))/\(qf 6 a r (fun z1=>(qf 6 c r (fun o3=>qe 14 1 5 0 r (fun p3 q3=>qF a b g k o3 a0 p3 z1 q3 K)))/\(qe 14 1 5 0 r (fun r3 A1=>qf 6 c A1 (fun s3=>qF a b g k s3 a0 r3 z1 A1 K)))))))/\(qf 6 a q (fun u0=>(qf 6 c q (fun t3=>qe 15 0 5 0 q (fun u3 v3=>qe 14 1 5 0 v3 (fun x3 y3=>qF a b g k t3 u3 x3 u0 y3 K))))/\(qe 15 0 5 0 q (fun B1 v0=>(qf 6 c v0 (fun z3=>qe 14 1 5 0 v0 (fun A3 B3=>qF a b g k z3 B1 A3 u0 B3 K)))/\(qe 14 1 5 0 v0 (fun C3 C1=>qf 6 c C1 (fun D3=>qF a b g k D3 B1 C3 u0 C1 K)))))))))/\(qf 6 c w.drew (fun j0=>(qe 14 0 5 0 w.drew (fun x0 y0=>(qe 15 0 5 0 y0 (fun D1 z0=>(qe 14 1 5 0 z0 (fun E3 E1=>qf 6 a E1 (fun F3=>qF a b g x0 j0 D1 E3 F3 E1 K)))/\(qf 6 a z0 (fun G3=>qe 14 1 5 0 z0 (fun H3 I3=>qF a b g x0 j0 D1 H3 G3 I3 K)))))/\(qf 6 a y0 (fun J3=>qe 15 0 5 0 y0 (fun L3 M3=>qe 14 1 5 0 M3 (fun N3 O3=>qF a b g x0 j0 L3 N3 J3 O3 K))))))/\(qf 6 a w.drew (fun Q3=>qe 14 0 5 0 w.drew (fun R3 S3=>qe 15 0 5 0 S3 (fun T3 U3=>qe 14 1 5 0 U3 (fun V3 W3=>qF a b g R3 j0 T3 V3 Q3 W3 K)))))))/\(qf 6 a w.drew (fun l0=>(qe 14 0 5 0 w.drew (fun A0 B0=>(qf 6 c B0 (fun X3=>qe 15 0 5 0 B0 (fun Y3 Z3=>qe 14 1 5 0 Z3 (fun a4 b4=>qF a b g A0 X3 Y3 a4 l0 b4 K))))/\(qe 15 0 5 0 B0 (fun F1 C0=>(qf 6 c C0 (fun c4=>qe 14 1 5 0 C0 (fun d4 e4=>qF a b g A0 c4 F1 d4 l0 e4 K)))/\(qe 14 1 5 0 C0 (fun f4 G1=>qf 6 c G1 (fun g4=>qF a b g A0 g4 F1 f4 l0 G1 K)))))))/\(qf 6 c w.drew (fun h4=>qe 14 0 5 0 w.drew (fun i4 j4=>qe 15 0 5 0 j4 (fun l4 m4=>qe 14 1 5 0 m4 (fun n4 o4=>qF a b g i4 h4 l4 n4 l0 o4 K)))))))))/\(qe 14 0 5 0 w.drew (fun d e=>(qf 6 b e (fun l=>(qf 6 c e (fun D0=>(qe 15 0 5 0 e (fun H1 E0=>(qe 14 1 5 0 E0 (fun p4 I1=>qf 6 a I1 (fun q4=>qF a b l d D0 H1 p4 q4 I1 K)))/\(qf 6 a E0 (fun r4=>qe 14 1 5 0 E0 (fun s4 t4=>qF a b l d D0 H1 s4 r4 t4 K)))))/\(qf 6 a e (fun u4=>qe 15 0 5 0 e (fun v4 x4=>qe 14 1 5 0 x4 (fun y4 z4=>qF a b l d D0 v4 y4 u4 z4 K))))))/\(qe 15 0 5 0 e (fun b0 s=>(qf 6 c s (fun J1=>(qe 14 1 5 0 s (fun A4 L1=>qf 6 a L1 (fun B4=>qF a b l d J1 b0 A4 B4 L1 K)))/\(qf 6 a s (fun C4=>qe 14 1 5 0 s (fun D4 E4=>qF a b l d J1 b0 D4 C4 E4 K)))))/\(qe 14 1 5 0 s (fun F4 F0=>qf 6 c F0 (fun G4=>qf 6 a F0 (fun H4=>qF a b l d G4 b0 F4 H4 F0 K))))/\(qf 6 a s (fun M1=>(qf 6 c s (fun I4=>qe 14 1 5 0 s (fun J4 L4=>qF a b l d I4 b0 J4 M1 L4 K)))/\(qe 14 1 5 0 s (fun M4 N1=>qf 6 c N1 (fun N4=>qF a b l d N4 b0 M4 M1 N1 K)))))))/\(qf 6 a e (fun G0=>(qf 6 c e (fun O4=>qe 15 0 5 0 e (fun Q4 R4=>qe 14 1 5 0 R4 (fun S4 T4=>qF a b l d O4 Q4 S4 G0 T4 K))))/\(qe 15 0 5 0 e (fun O1 H0=>(qf 6 c H0 (fun U4=>qe 14 1 5 0 H0 (fun V4 W4=>qF a b l d U4 O1 V4 G0 W4 K)))/\(qe 14 1 5 0 H0 (fun X4 Q1=>qf 6 c Q1 (fun Y4=>qF a b l d Y4 O1 X4 G0 Q1 K)))))))))/\(qf 6 c e (fun m=>(qf 6 b e (fun I0=>(qe 15 0 5 0 e (fun R1 J0=>(qe 14 1 5 0 J0 (fun Z4 S1=>qf 6 a S1 (fun a5=>qF a b I0 d m R1 Z4 a5 S1 K)))/\(qf 6 a J0 (fun b5=>qe 14 1 5 0 J0 (fun c5 d5=>qF a b I0 d m R1 c5 b5 d5 K)))))/\(qf 6 a e (fun e5=>qe 15 0 5 0 e (fun f5 g5=>qe 14 1 5 0 g5 (fun h5 i5=>qF a b I0 d m f5 h5 e5 i5 K))))))/\(qe 15 0 5 0 e (fun c0 t=>(qf 6 b t (fun T1=>(qe 14 1 5 0 t (fun j5 U1=>qf 6 a U1 (fun l5=>qF a b T1 d m c0 j5 l5 U1 K)))/\(qf 6 a t (fun m5=>qe 14 1 5 0 t (fun n5 o5=>qF a b T1 d m c0 n5 m5 o5 K)))))/\(qe 14 1 5 0 t (fun p5 L0=>qf 6 b L0 (fun q5=>qf 6 a L0 (fun r5=>qF a b q5 d m c0 p5 r5 L0 K))))/\(qf 6 a t (fun V1=>(qf 6 b t (fun s5=>qe 14 1 5 0 t (fun t5 u5=>qF a b s5 d m c0 t5 V1 u5 K)))/\(qe 14 1 5 0 t (fun v5 W1=>qf 6 b W1 (fun x5=>qF a b x5 d m c0 v5 V1 W1 K)))))))/\(qf 6 a e (fun M0=>(qf 6 b e (fun y5=>qe 15 0 5 0 e (fun z5 A5=>qe 14 1 5 0 A5 (fun B5 C5=>qF a b y5 d m z5 B5 M0 C5 K))))/\(qe 15 0 5 0 e (fun X1 N0=>(qf 6 b N0 (fun D5=>qe 14 1 5 0 N0 (fun E5 F5=>qF a b D5 d m X1 E5 M0 F5 K)))/\(qe 14 1 5 0 N0 (fun G5 Y1=>qf 6 b Y1 (fun H5=>qF a b H5 d m X1 G5 M0 Y1 K)))))))))/\(qe 15 0 5 0 e (fun j f=>(qf 6 b f (fun d0=>(qf 6 c f (fun Z1=>(qe 14 1 5 0 f (fun I5 a2=>qf 6 a a2 (fun J5=>qF a b d0 d Z1 j I5 J5 a2 K)))/\(qf 6 a f (fun L5=>qe 14 1 5 0 f (fun M5 N5=>qF a b d0 d Z1 j M5 L5 N5 K)))))/\(qe 14 1 5 0 f (fun O5 O0=>qf 6 c O0 (fun Q5=>qf 6 a O0 (fun R5=>qF a b d0 d Q5 j O5 R5 O0 K))))/\(qf 6 a f (fun b2=>(qf 6 c f (fun S5=>qe 14 1 5 0 f (fun T5 U5=>qF a b d0 d S5 j T5 b2 U5 K)))/\(qe 14 1 5 0 f (fun V5 c2=>qf 6 c c2 (fun W5=>qF a b d0 d W5 j V5 b2 c2 K)))))))/\(qf 6 c f (fun e0=>(qf 6 b f (fun d2=>(qe 14 1 5 0 f (fun X5 e2=>qf 6 a e2 (fun Y5=>qF a b d2 d e0 j X5 Y5 e2 K)))/\(qf 6 a f (fun Z5=>qe 14 1 5 0 f (fun a6 b6=>qF a b d2 d e0 j a6 Z5 b6 K)))))/\(qe 14 1 5 0 f (fun c6 Q0=>qf 6 b Q0 (fun d6=>qf 6 a Q0 (fun e6=>qF a b d6 d e0 j c6 e6 Q0 K))))/\(qf 6 a f (fun f2=>(qf 6 b f (fun f6=>qe 14 1 5 0 f (fun g6 h6=>qF a b f6 d e0 j g6 f2 h6 K)))/\(qe 14 1 5 0 f (fun i6 g2=>qf 6 b g2 (fun j6=>qF a b j6 d e0 j i6 f2 g2 K)))))))/\(qe 14 1 5 0 f (fun l6 m0=>qf 6 b m0 (fun m6=>qf 6 c m0 (fun n6=>qf 6 a m0 (fun o6=>qF a b m6 d n6 j l6 o6 m0 K)))))/\(qf 6 a f (fun f0=>(qf 6 b f (fun h2=>(qf 6 c f (fun p6=>qe 14 1 5 0 f (fun q6 r6=>qF a b h2 d p6 j q6 f0 r6 K)))/\(qe 14 1 5 0 f (fun s6 i2=>qf 6 c i2 (fun t6=>qF a b h2 d t6 j s6 f0 i2 K)))))/\(qf 6 c f (fun j2=>(qf 6 b f (fun u6=>qe 14 1 5 0 f (fun v6 x6=>qF a b u6 d j2 j v6 f0 x6 K)))/\(qe 14 1 5 0 f (fun y6 l2=>qf 6 b l2 (fun z6=>qF a b z6 d j2 j y6 f0 l2 K)))))/\(qe 14 1 5 0 f (fun A6 R0=>qf 6 b R0 (fun B6=>qf 6 c R0 (fun C6=>qF a b B6 d C6 j A6 f0 R0 K))))))))/\(qf 6 a e (fun n=>(qf 6 b e (fun S0=>(qf 6 c e (fun D6=>qe 15 0 5 0 e (fun E6 F6=>qe 14 1 5 0 F6 (fun G6 H6=>qF a b S0 d D6 E6 G6 n H6 K))))/\(qe 15 0 5 0 e (fun m2 T0=>(qf 6 c T0 (fun I6=>qe 14 1 5 0 T0 (fun J6 L6=>qF a b S0 d I6 m2 J6 n L6 K)))/\(qe 14 1 5 0 T0 (fun M6 n2=>qf 6 c n2 (fun N6=>qF a b S0 d N6 m2 M6 n n2 K)))))))/\(qf 6 c e (fun U0=>(qf 6 b e (fun O6=>qe 15 0 5 0 e (fun Q6 R6=>qe 14 1 5 0 R6 (fun S6 T6=>qF a b O6 d U0 Q6 S6 n T6 K))))/\(qe 15 0 5 0 e (fun o2 V0=>(qf 6 b V0 (fun U6=>qe 14 1 5 0 V0 (fun V6 W6=>qF a b U6 d U0 o2 V6 n W6 K)))/\(qe 14 1 5 0 V0 (fun X6 p2=>qf 6 b p2 (fun Y6=>qF a b Y6 d U0 o2 X6 n p2 K)))))))/\(qe 15 0 5 0 e (fun g0 u=>(qf 6 b u (fun q2=>(qf 6 c u (fun Z6=>qe 14 1 5 0 u (fun a7 b7=>qF a b q2 d Z6 g0 a7 n b7 K)))/\(qe 14 1 5 0 u (fun c7 r2=>qf 6 c r2 (fun d7=>qF a b q2 d d7 g0 c7 n r2 K)))))/\(qf 6 c u (fun s2=>(qf 6 b u (fun e7=>qe 14 1 5 0 u (fun f7 g7=>qF a b e7 d s2 g0 f7 n g7 K)))/\(qe 14 1 5 0 u (fun h7 t2=>qf 6 b t2 (fun i7=>qF a b i7 d s2 g0 h7 n t2 K)))))/\(qe 14 1 5 0 u (fun j7 W0=>qf 6 b W0 (fun l7=>qf 6 c W0 (fun m7=>qF a b l7 d m7 g0 j7 n W0 K))))))))))/\(qf 6 c w.drew (fun h=>(qf 6 b w.drew (fun n0=>(qe 14 0 5 0 w.drew (fun X0 Y0=>(qe 15 0 5 0 Y0 (fun u2 Z0=>(qe 14 1 5 0 Z0 (fun n7 v2=>qf 6 a v2 (fun o7=>qF a b n0 X0 h u2 n7 o7 v2 K)))/\(qf 6 a Z0 (fun p7=>qe 14 1 5 0 Z0 (fun q7 r7=>qF a b n0 X0 h u2 q7 p7 r7 K)))))/\(qf 6 a Y0 (fun s7=>qe 15 0 5 0 Y0 (fun t7 u7=>qe 14 1 5 0 u7 (fun v7 x7=>qF a b n0 X0 h t7 v7 s7 x7 K))))))/\(qf 6 a w.drew (fun y7=>qe 14 0 5 0 w.drew (fun z7 A7=>qe 15 0 5 0 A7 (fun B7 C7=>qe 14 1 5 0 C7 (fun D7 E7=>qF a b n0 z7 h B7 D7 y7 E7 K)))))))/\(qe 14 0 5 0 w.drew (fun o v=>(qf 6 b v (fun a1=>(qe 15 0 5 0 v (fun x2 b1=>(qe 14 1 5 0 b1 (fun F7 y2=>qf 6 a y2 (fun G7=>qF a b a1 o h x2 F7 G7 y2 K)))/\(qf 6 a b1 (fun H7=>qe 14 1 5 0 b1 (fun I7 J7=>qF a b a1 o h x2 I7 H7 J7 K)))))/\(qf 6 a v (fun L7=>qe 15 0 5 0 v (fun M7 N7=>qe 14 1 5 0 N7 (fun O7 Q7=>qF a b a1 o h M7 O7 L7 Q7 K))))))/\(qe 15 0 5 0 v (fun h0 x=>(qf 6 b x (fun z2=>(qe 14 1 5 0 x (fun R7 A2=>qf 6 a A2 (fun S7=>qF a b z2 o h h0 R7 S7 A2 K)))/\(qf 6 a x (fun T7=>qe 14 1 5 0 x (fun U7 V7=>qF a b z2 o h h0 U7 T7 V7 K)))))/\(qe 14 1 5 0 x (fun W7 c1=>qf 6 b c1 (fun X7=>qf 6 a c1 (fun Y7=>qF a b X7 o h h0 W7 Y7 c1 K))))/\(qf 6 a x (fun B2=>(qf 6 b x (fun Z7=>qe 14 1 5 0 x (fun a8 b8=>qF a b Z7 o h h0 a8 B2 b8 K)))/\(qe 14 1 5 0 x (fun c8 C2=>qf 6 b C2 (fun d8=>qF a b d8 o h h0 c8 B2 C2 K)))))))/\(qf 6 a v (fun d1=>(qf 6 b v (fun e8=>qe 15 0 5 0 v (fun f8 g8=>qe 14 1 5 0 g8 (fun h8 i8=>qF a b e8 o h f8 h8 d1 i8 K))))/\(qe 15 0 5 0 v (fun D2 e1=>(qf 6 b e1 (fun j8=>qe 14 1 5 0 e1 (fun l8 m8=>qF a b j8 o h D2 l8 d1 m8 K)))/\(qe 14 1 5 0 e1 (fun n8 E2=>qf 6 b E2 (fun o8=>qF a b o8 o h D2 n8 d1 E2 K)))))))))/\(qf 6 a w.drew (fun o0=>(qf 6 b w.drew (fun p8=>qe 14 0 5 0 w.drew (fun q8 r8=>qe 15 0 5 0 r8 (fun s8 t8=>qe 14 1 5 0 t8 (fun u8 v8=>qF a b p8 q8 h s8 u8 o0 v8 K)))))/\(qe 14 0 5 0 w.drew (fun f1 g1=>(qf 6 b g1 (fun x8=>qe 15 0 5 0 g1 (fun y8 z8=>qe 14 1 5 0 z8 (fun A8 B8=>qF a b x8 f1 h y8 A8 o0 B8 K))))/\(qe 15 0 5 0 g1 (fun F2 h1=>(qf 6 b h1 (fun C8=>qe 14 1 5 0 h1 (fun D8 E8=>qF a b C8 f1 h F2 D8 o0 E8 K)))/\(qe 14 1 5 0 h1 (fun F8 G2=>qf 6 b G2 (fun G8=>qF a b G8 f1 h F2 F8 o0 G2 K)))))))))))/\(qf 6 a w.drew (fun i=>(qf 6 b w.drew (fun p0=>(qe 14 0 5 0 w.drew (fun i1 j1=>(qf 6 c j1 (fun H8=>qe 15 0 5 0 j1 (fun I8 J8=>qe 14 1 5 0 J8 (fun L8 M8=>qF a b p0 i1 H8 I8 L8 i M8 K))))/\(qe 15 0 5 0 j1 (fun H2 l1=>(qf 6 c l1 (fun N8=>qe 14 1 5 0 l1 (fun O8 Q8=>qF a b p0 i1 N8 H2 O8 i Q8 K)))/\(qe 14 1 5 0 l1 (fun R8 I2=>qf 6 c I2 (fun S8=>qF a b p0 i1 S8 H2 R8 i I2 K)))))))/\(qf 6 c w.drew (fun T8=>qe 14 0 5 0 w.drew (fun U8 V8=>qe 15 0 5 0 V8 (fun W8 X8=>qe 14 1 5 0 X8 (fun Y8 Z8=>qF a b p0 U8 T8 W8 Y8 i Z8 K)))))))/\(qe 14 0 5 0 w.drew (fun p y=>(qf 6 b y (fun m1=>(qf 6 c y (fun a9=>qe 15 0 5 0 y (fun b9 c9=>qe 14 1 5 0 c9 (fun d9 e9=>qF a b m1 p a9 b9 d9 i e9 K))))/\(qe 15 0 5 0 y (fun J2 n1=>(qf 6 c n1 (fun f9=>qe 14 1 5 0 n1 (fun g9 h9=>qF a b m1 p f9 J2 g9 i h9 K)))/\(qe 14 1 5 0 n1 (fun i9 L2=>qf 6 c L2 (fun j9=>qF a b m1 p j9 J2 i9 i L2 K)))))))/\(qf 6 c y (fun o1=>(qf 6 b y (fun l9=>qe 15 0 5 0 y (fun m9 n9=>qe 14 1 5 0 n9 (fun o9 p9=>qF a b l9 p o1 m9 o9 i p9 K))))/\(qe 15 0 5 0 y (fun M2 p1=>(qf 6 b p1 (fun q9=>qe 14 1 5 0 p1 (fun r9 s9=>qF a b q9 p o1 M2 r9 i s9 K)))/\(qe 14 1 5 0 p1 (fun t9 N2=>qf 6 b N2 (fun u9=>qF a b u9 p o1 M2 t9 i N2 K)))))))/\(qe 15 0 5 0 y (fun i0 z=>(qf 6 b z (fun O2=>(qf 6 c z (fun v9=>qe 14 1 5 0 z (fun x9 y9=>qF a b O2 p v9 i0 x9 i y9 K)))/\(qe 14 1 5 0 z (fun z9 Q2=>qf 6 c Q2 (fun A9=>qF a b O2 p A9 i0 z9 i Q2 K)))))/\(qf 6 c z (fun R2=>(qf 6 b z (fun B9=>qe 14 1 5 0 z (fun C9 D9=>qF a b B9 p R2 i0 C9 i D9 K)))/\(qe 14 1 5 0 z (fun E9 S2=>qf 6 b S2 (fun F9=>qF a b F9 p R2 i0 E9 i S2 K)))))/\(qe 14 1 5 0 z (fun G9 q1=>qf 6 b q1 (fun H9=>qf 6 c q1 (fun I9=>qF a b H9 p I9 i0 G9 i q1 K))))))))/\(qf 6 c w.drew (fun q0=>(qf 6 b w.drew (fun J9=>qe 14 0 5 0 w.drew (fun L9 M9=>qe 15 0 5 0 M9 (fun N9 O9=>qe 14 1 5 0 O9 (fun Q9 R9=>qF a b J9 L9 q0 N9 Q9 i R9 K)))))/\(qe 14 0 5 0 w.drew (fun r1 s1=>(qf 6 b s1 (fun S9=>qe 15 0 5 0 s1 (fun T9 U9=>qe 14 1 5 0 U9 (fun V9 W9=>qF a b S9 r1 q0 T9 V9 i W9 K))))/\(qe 15 0 5 0 s1 (fun T2 t1=>(qf 6 b t1 (fun X9=>qe 14 1 5 0 t1 (fun Y9 Z9=>qF a b X9 r1 q0 T2 Y9 i Z9 K)))/\(qe 14 1 5 0 t1 (fun a00 U2=>qf 6 b U2 (fun b00=>qF a b b00 r1 q0 T2 a00 i U2 K)))))))))))):=kr
theorem qsx:qr0 a b c d w K=(qC a (K (Value.bool false) w) (qx0 b c d w K)):=kr
theorem quw:qu0 a b c d e f g w K=(qC (!g) (qr0 true a b c w K) (∃ h:Int,(∀ wq,zZ w wq->(Builtin.len_ #[84] 3 #[(Value.slice d e f)]).run P wq=.ok (.int .i64 h) wq)/\qr0 (h != 0) a b c w K)):=kr
theorem qsK:qrw a b c d w K=(qC a (K (Value.bool false) w) (qxH b c d w K)):=kr
theorem qKn:f5 w K=(qa P 30 [(Value.int .i64 11),(Value.int .i64 0),(Value.int .u32 0),(Value.int .i64 1)] w (fun u x=>∃ i:Array Value,u=(.agg i)/\qt (qn P 45) 45 x (fun a y=>qN 6 (Addr.mk a 0 none) i y (fun z=>qa P 30 [(Value.int .i64 3),(Value.int .i64 0),(Value.int .u32 4096),(Value.int .i64 4)] z (fun a0 b0=>∃ j:Array Value,a0=(.agg j)/\qa P 30 [(Value.int .i64 2),(Value.int .i64 1),(Value.int .u32 4096),(Value.int .i64 4)] b0 (fun c0 d0=>∃ k:Array Value,c0=(.agg k)/\qt (qn P 45) 45 d0 (fun b e0=>qt (qn P 45) 45 e0 (fun c f0=>qN 6 (Addr.mk b 0 none) j f0 (fun g0=>qN 6 (Addr.mk c 0 none) k g0 (fun d=>qf 6 (Addr.mk a 0 none) d (fun l=>qf 6 (Addr.mk b 0 none) d (fun m=>qf 6 (Addr.mk c 0 none) d (fun n=>qJ 6 [(Value.agg l),(Value.agg m),(Value.agg n)]/\qt (([(Value.agg l),(Value.agg m),(Value.agg n)].map fun(v:Value)=>v.cells.toList).flatten.toArray) 45 d (fun h0 i0=>qa P 31 [(Value.slice (some (Addr.mk h0 0 none)) 3 3)] i0 (fun j0 o=>∃ (p:OA) (q r:Nat),∃ s:Bool,j0=(.tuple #[(Value.slice p q r),(Value.bool s)])/\qC (!s) (qrw true (Addr.mk c 0 none) (Addr.mk a 0 none) (Addr.mk b 0 none) o K) (∃ e:Array Value,(∀ wq,(Instr.build 88 #[(0,(Value.int .i64 4096)),(1,(Value.int .i64 1)),(2,(Value.int .i64 2))]).run P wq=.ok (.agg e) wq)/\∃ f:Array Value,(∀ wq,(Instr.build 88 #[(0,(Value.int .i64 4097)),(1,(Value.int .i64 1)),(2,(Value.int .i64 2))]).run P wq=.ok (.agg f) wq)/\∃ g:Array Value,(∀ wq,(Instr.build 88 #[(0,(Value.int .i64 4098)),(1,(Value.int .i64 1)),(2,(Value.int .i64 2))]).run P wq=.ok (.agg g) wq)/\∃ h:Array Value,(∀ wq,(Instr.build 88 #[(0,(Value.int .i64 4099)),(1,(Value.int .i64 1)),(2,(Value.int .i64 2))]).run P wq=.ok (.agg h) wq)/\qJ 3 [(Value.agg e),(Value.agg f),(Value.agg g),(Value.agg h)]/\qt (([(Value.agg e),(Value.agg f),(Value.agg g),(Value.agg h)].map fun(v:Value)=>v.cells.toList).flatten.toArray) 88 o (fun l0 m0=>qa P 32 [(Value.slice p q r),(Value.slice (some (Addr.mk l0 0 none)) 4 4)] m0 (fun n0 o0=>∃ t:Bool,n0=(.bool t)/\qrw (!t) (Addr.mk c 0 none) (Addr.mk a 0 none) (Addr.mk b 0 none) o0 K)))))))))))))))))):=kr
theorem qK7 w K(h:f5 w K):qa P 5 [] w K:=zj c5 Tryz.func5 h
abbrev qh(a b c:Addr)(u1 u2 u3 u4 u5 u6:Array Value)(w:World)(K:KT):Prop:=qJ 6 [(Value.agg u1),(Value.agg u2),(Value.agg u3),(Value.agg u4),(Value.agg u5),(Value.agg u6)]/\qt (([(Value.agg u1),(Value.agg u2),(Value.agg u3),(Value.agg u4),(Value.agg u5),(Value.agg u6)].map fun(v:Value)=>v.cells.toList).flatten.toArray) 45 w (fun n v=>qa P 31 [(Value.slice (some (Addr.mk n 0 none)) 6 6)] v (fun r y=>∃ (d:OA) (e f:Nat),∃ g:Bool,r=(.tuple #[(Value.slice d e f),(Value.bool g)])/\qu0 a b c d e f g y K))
theorem qtu:qxH b c a w K=((qf 6 a w.drew (fun f=>(qf 6 c w.drew (fun v=>(qf 6 b w.drew (fun s1=>(qe 12 1 0 0 w.drew (fun f3 t1=>(qe 13 0 0 1 t1 (fun f7 g3=>qf 6 a g3 (fun g7=>qh b c a f v s1 f3 f7 g7 g3 K)))/\(qf 6 a t1 (fun h7=>qe 13 0 0 1 t1 (fun i7 j7=>qh b c a f v s1 f3 i7 h7 j7 K)))))/\(qf 6 a w.drew (fun l7=>qe 12 1 0 0 w.drew (fun m7 n7=>qe 13 0 0 1 n7 (fun o7 p7=>qh b c a f v s1 m7 o7 l7 p7 K))))))/\(qe 12 1 0 0 w.drew (fun v0 i0=>(qf 6 b i0 (fun h3=>(qe 13 0 0 1 i0 (fun q7 i3=>qf 6 a i3 (fun r7=>qh b c a f v h3 v0 q7 r7 i3 K)))/\(qf 6 a i0 (fun s7=>qe 13 0 0 1 i0 (fun t7 u7=>qh b c a f v h3 v0 t7 s7 u7 K)))))/\(qe 13 0 0 1 i0 (fun v7 u1=>qf 6 b u1 (fun x7=>qf 6 a u1 (fun y7=>qh b c a f v x7 v0 v7 y7 u1 K))))/\(qf 6 a i0 (fun j3=>(qf 6 b i0 (fun z7=>qe 13 0 0 1 i0 (fun A7 B7=>qh b c a f v z7 v0 A7 j3 B7 K)))/\(qe 13 0 0 1 i0 (fun C7 l3=>qf 6 b l3 (fun D7=>qh b c a f v D7 v0 C7 j3 l3 K)))))))/\(qf 6 a w.drew (fun v1=>(qf 6 b w.drew (fun E7=>qe 12 1 0 0 w.drew (fun F7 G7=>qe 13 0 0 1 G7 (fun H7 I7=>qh b c a f v E7 F7 H7 v1 I7 K))))/\(qe 12 1 0 0 w.drew (fun m3 x1=>(qf 6 b x1 (fun J7=>qe 13 0 0 1 x1 (fun L7 M7=>qh b c a f v J7 m3 L7 v1 M7 K)))/\(qe 13 0 0 1 x1 (fun N7 n3=>qf 6 b n3 (fun O7=>qh b c a f v O7 m3 N7 v1 n3 K)))))))))/\(qf 6 b w.drew (fun x=>(qf 6 c w.drew (fun y1=>(qe 12 1 0 0 w.drew (fun o3 z1=>(qe 13 0 0 1 z1 (fun Q7 p3=>qf 6 a p3 (fun R7=>qh b c a f y1 x o3 Q7 R7 p3 K)))/\(qf 6 a z1 (fun S7=>qe 13 0 0 1 z1 (fun T7 U7=>qh b c a f y1 x o3 T7 S7 U7 K)))))/\(qf 6 a w.drew (fun V7=>qe 12 1 0 0 w.drew (fun W7 X7=>qe 13 0 0 1 X7 (fun Y7 Z7=>qh b c a f y1 x W7 Y7 V7 Z7 K))))))/\(qe 12 1 0 0 w.drew (fun x0 j0=>(qf 6 c j0 (fun q3=>(qe 13 0 0 1 j0 (fun a8 r3=>qf 6 a r3 (fun b8=>qh b c a f q3 x x0 a8 b8 r3 K)))/\(qf 6 a j0 (fun c8=>qe 13 0 0 1 j0 (fun d8 e8=>qh b c a f q3 x x0 d8 c8 e8 K)))))/\(qe 13 0 0 1 j0 (fun f8 A1=>qf 6 c A1 (fun g8=>qf 6 a A1 (fun h8=>qh b c a f g8 x x0 f8 h8 A1 K))))/\(qf 6 a j0 (fun s3=>(qf 6 c j0 (fun i8=>qe 13 0 0 1 j0 (fun j8 l8=>qh b c a f i8 x x0 j8 s3 l8 K)))/\(qe 13 0 0 1 j0 (fun m8 t3=>qf 6 c t3 (fun n8=>qh b c a f n8 x x0 m8 s3 t3 K)))))))/\(qf 6 a w.drew (fun B1=>(qf 6 c w.drew (fun o8=>qe 12 1 0 0 w.drew (fun p8 q8=>qe 13 0 0 1 q8 (fun r8 s8=>qh b c a f o8 x p8 r8 B1 s8 K))))/\(qe 12 1 0 0 w.drew (fun u3 C1=>(qf 6 c C1 (fun t8=>qe 13 0 0 1 C1 (fun u8 v8=>qh b c a f t8 x u3 u8 B1 v8 K)))/\(qe 13 0 0 1 C1 (fun x8 v3=>qf 6 c v3 (fun y8=>qh b c a f y8 x u3 x8 B1 v3 K)))))))))/\(qe 12 1 0 0 w.drew (fun n j=>(qf 6 c j (fun y0=>(qf 6 b j (fun x3=>(qe 13 0 0 1 j (fun z8 y3=>qf 6 a y3 (fun A8=>qh b c a f y0 x3 n z8 A8 y3 K)))/\(qf 6 a j (fun B8=>qe 13 0 0 1 j (fun C8 D8=>qh b c a f y0 x3 n C8 B8 D8 K)))))/\(qe 13 0 0 1 j (fun E8 D1=>qf 6 b D1 (fun F8=>qf 6 a D1 (fun G8=>qh b c a f y0 F8 n E8 G8 D1 K))))/\(qf 6 a j (fun z3=>(qf 6 b j (fun H8=>qe 13 0 0 1 j (fun I8 J8=>qh b c a f y0 H8 n I8 z3 J8 K)))/\(qe 13 0 0 1 j (fun L8 A3=>qf 6 b A3 (fun M8=>qh b c a f y0 M8 n L8 z3 A3 K)))))))/\(qf 6 b j (fun z0=>(qf 6 c j (fun B3=>(qe 13 0 0 1 j (fun N8 C3=>qf 6 a C3 (fun O8=>qh b c a f B3 z0 n N8 O8 C3 K)))/\(qf 6 a j (fun Q8=>qe 13 0 0 1 j (fun R8 S8=>qh b c a f B3 z0 n R8 Q8 S8 K)))))/\(qe 13 0 0 1 j (fun T8 E1=>qf 6 c E1 (fun U8=>qf 6 a E1 (fun V8=>qh b c a f U8 z0 n T8 V8 E1 K))))/\(qf 6 a j (fun D3=>(qf 6 c j (fun W8=>qe 13 0 0 1 j (fun X8 Y8=>qh b c a f W8 z0 n X8 D3 Y8 K)))/\(qe 13 0 0 1 j (fun Z8 E3=>qf 6 c E3 (fun a9=>qh b c a f a9 z0 n Z8 D3 E3 K)))))))/\(qe 13 0 0 1 j (fun b9 j1=>qf 6 c j1 (fun c9=>qf 6 b j1 (fun d9=>qf 6 a j1 (fun e9=>qh b c a f c9 d9 n b9 e9 j1 K)))))/\(qf 6 a j (fun A0=>(qf 6 c j (fun F3=>(qf 6 b j (fun f9=>qe 13 0 0 1 j (fun g9 h9=>qh b c a f F3 f9 n g9 A0 h9 K)))/\(qe 13 0 0 1 j (fun i9 G3=>qf 6 b G3 (fun j9=>qh b c a f F3 j9 n i9 A0 G3 K)))))/\(qf 6 b j (fun H3=>(qf 6 c j (fun l9=>qe 13 0 0 1 j (fun m9 n9=>qh b c a f l9 H3 n m9 A0 n9 K)))/\(qe 13 0 0 1 j (fun o9 I3=>qf 6 c I3 (fun p9=>qh b c a f p9 H3 n o9 A0 I3 K)))))/\(qe 13 0 0 1 j (fun q9 F1=>qf 6 c F1 (fun r9=>qf 6 b F1 (fun s9=>qh b c a f r9 s9 n q9 A0 F1 K))))))))/\(qf 6 a w.drew (fun y=>(qf 6 c w.drew (fun G1=>(qf 6 b w.drew (fun t9=>qe 12 1 0 0 w.drew (fun u9 v9=>qe 13 0 0 1 v9 (fun x9 y9=>qh b c a f G1 t9 u9 x9 y y9 K))))/\(qe 12 1 0 0 w.drew (fun J3 H1=>(qf 6 b H1 (fun z9=>qe 13 0 0 1 H1 (fun A9 B9=>qh b c a f G1 z9 J3 A9 y B9 K)))/\(qe 13 0 0 1 H1 (fun C9 L3=>qf 6 b L3 (fun D9=>qh b c a f G1 D9 J3 C9 y L3 K)))))))/\(qf 6 b w.drew (fun I1=>(qf 6 c w.drew (fun E9=>qe 12 1 0 0 w.drew (fun F9 G9=>qe 13 0 0 1 G9 (fun H9 I9=>qh b c a f E9 I1 F9 H9 y I9 K))))/\(qe 12 1 0 0 w.drew (fun M3 J1=>(qf 6 c J1 (fun J9=>qe 13 0 0 1 J1 (fun L9 M9=>qh b c a f J9 I1 M3 L9 y M9 K)))/\(qe 13 0 0 1 J1 (fun N9 N3=>qf 6 c N3 (fun O9=>qh b c a f O9 I1 M3 N9 y N3 K)))))))/\(qe 12 1 0 0 w.drew (fun B0 l0=>(qf 6 c l0 (fun O3=>(qf 6 b l0 (fun Q9=>qe 13 0 0 1 l0 (fun R9 S9=>qh b c a f O3 Q9 B0 R9 y S9 K)))/\(qe 13 0 0 1 l0 (fun T9 Q3=>qf 6 b Q3 (fun U9=>qh b c a f O3 U9 B0 T9 y Q3 K)))))/\(qf 6 b l0 (fun R3=>(qf 6 c l0 (fun V9=>qe 13 0 0 1 l0 (fun W9 X9=>qh b c a f V9 R3 B0 W9 y X9 K)))/\(qe 13 0 0 1 l0 (fun Y9 S3=>qf 6 c S3 (fun Z9=>qh b c a f Z9 R3 B0 Y9 y S3 K)))))/\(qe 13 0 0 1 l0 (fun a00 L1=>qf 6 c L1 (fun b00=>qf 6 b L1 (fun c00=>qh b c a f b00 c00 B0 a00 y L1 K))))))))))/\(qf 6 c w.drew (fun g=>(qf 6 a w.drew (fun z=>(qf 6 b w.drew (fun M1=>(qe 12 1 0 0 w.drew (fun T3 N1=>(qe 13 0 0 1 N1 (fun d00 U3=>qf 6 a U3 (fun e00=>qh b c a z g M1 T3 d00 e00 U3 K)))/\(qf 6 a N1 (fun f00=>qe 13 0 0 1 N1 (fun g00 h00=>qh b c a z g M1 T3 g00 f00 h00 K)))))/\(qf 6 a w.drew (fun i00=>qe 12 1 0 0 w.drew (fun j00 l00=>qe 13 0 0 1 l00 (fun m00 n00=>qh b c a z g M1 j00 m00 i00 n00 K))))))/\(qe 12 1 0 0 w.drew (fun C0 m0=>(qf 6 b m0 (fun V3=>(qe 13 0 0 1 m0 (fun o00 W3=>qf 6 a W3 (fun p00=>qh b c a z g V3 C0 o00 p00 W3 K)))/\(qf 6 a m0 (fun q00=>qe 13 0 0 1 m0 (fun r00 s00=>qh b c a z g V3 C0 r00 q00 s00 K)))))/\(qe 13 0 0 1 m0 (fun t00 O1=>qf 6 b O1 (fun u00=>qf 6 a O1 (fun v00=>qh b c a z g u00 C0 t00 v00 O1 K))))/\(qf 6 a m0 (fun X3=>(qf 6 b m0 (fun x00=>qe 13 0 0 1 m0 (fun y00 z00=>qh b c a z g x00 C0 y00 X3 z00 K)))/\(qe 13 0 0 1 m0 (fun A00 Y3=>qf 6 b Y3 (fun B00=>qh b c a z g B00 C0 A00 X3 Y3 K)))))))/\(qf 6 a w.drew (fun Q1=>(qf 6 b w.drew (fun C00=>qe 12 1 0 0 w.drew (fun D00 E00=>qe 13 0 0 1 E00 (fun F00 G00=>qh b c a z g C00 D00 F00 Q1 G00 K))))/\(qe 12 1 0 0 w.drew (fun Z3 R1=>(qf 6 b R1 (fun H00=>qe 13 0 0 1 R1 (fun I00 J00=>qh b c a z g H00 Z3 I00 Q1 J00 K)))/\(qe 13 0 0 1 R1 (fun L00 a4=>qf 6 b a4 (fun M00=>qh b c a z g M00 Z3 L00 Q1 a4 K)))))))))/\(qf 6 b w.drew (fun a0=>(qf 6 a w.drew (fun S1=>(qe 12 1 0 0 w.drew (fun b4 T1=>(qe 13 0 0 1 T1 (fun N00 c4=>qf 6 a c4 (fun O00=>qh b c a S1 g a0 b4 N00 O00 c4 K)))/\(qf 6 a T1 (fun Q00=>qe 13 0 0 1 T1 (fun R00 S00=>qh b c a S1 g a0 b4 R00 Q00 S00 K)))))/\(qf 6 a w.drew (fun T00=>qe 12 1 0 0 w.drew (fun U00 V00=>qe 13 0 0 1 V00 (fun W00 X00=>qh b c a S1 g a0 U00 W00 T00 X00 K))))))/\(qe 12 1 0 0 w.drew (fun D0 n0=>(qf 6 a n0 (fun d4=>(qe 13 0 0 1 n0 (fun Y00 e4=>qf 6 a e4 (fun Z00=>qh b c a d4 g a0 D0 Y00 Z00 e4 K)))/\(qf 6 a n0 (fun a01=>qe 13 0 0 1 n0 (fun b01 c01=>qh b c a d4 g a0 D0 b01 a01 c01 K)))))/\(qe 13 0 0 1 n0 (fun d01 U1=>qf 6 a U1 (fun e01=>qf 6 a U1 (fun f01=>qh b c a e01 g a0 D0 d01 f01 U1 K))))/\(qf 6 a n0 (fun f4=>(qf 6 a n0 (fun g01=>qe 13 0 0 1 n0 (fun h01 i01=>qh b c a g01 g a0 D0 h01 f4 i01 K)))/\(qe 13 0 0 1 n0 (fun j01 g4=>qf 6 a g4 (fun l01=>qh b c a l01 g a0 D0 j01 f4 g4 K)))))))/\(qf 6 a w.drew (fun V1=>(qf 6 a w.drew (fun m01=>qe 12 1 0 0 w.drew (fun n01 o01=>qe 13 0 0 1 o01 (fun p01 q01=>qh b c a m01 g a0 n01 p01 V1 q01 K))))/\(qe 12 1 0 0 w.drew (fun h4 W1=>(qf 6 a W1 (fun r01=>qe 13 0 0 1 W1 (fun s01 t01=>qh b c a r01 g a0 h4 s01 V1 t01 K)))/\(qe 13 0 0 1 W1 (fun u01 i4=>qf 6 a i4 (fun v01=>qh b c a v01 g a0 h4 u01 V1 i4 K)))))))))/\(qe 12 1 0 0 w.drew (fun o k=>(qf 6 a k (fun E0=>(qf 6 b k (fun j4=>(qe 13 0 0 1 k (fun x01 l4=>qf 6 a l4 (fun y01=>qh b c a E0 g j4 o x01 y01 l4 K)))/\(qf 6 a k (fun z01=>qe 13 0 0 1 k (fun A01 B01=>qh b c a E0 g j4 o A01 z01 B01 K)))))/\(qe 13 0 0 1 k (fun C01 X1=>qf 6 b X1 (fun D01=>qf 6 a X1 (fun E01=>qh b c a E0 g D01 o C01 E01 X1 K))))/\(qf 6 a k (fun m4=>(qf 6 b k (fun F01=>qe 13 0 0 1 k (fun G01 H01=>qh b c a E0 g F01 o G01 m4 H01 K)))/\(qe 13 0 0 1 k (fun I01 n4=>qf 6 b n4 (fun J01=>qh b c a E0 g J01 o I01 m4 n4 K)))))))/\(qf 6 b k (fun F0=>(qf 6 a k (fun o4=>(qe 13 0 0 1 k (fun L01 p4=>qf 6 a p4 (fun M01=>qh b c a o4 g F0 o L01 M01 p4 K)))/\(qf 6 a k (fun N01=>qe 13 0 0 1 k (fun O01 Q01=>qh b c a o4 g F0 o O01 N01 Q01 K)))))/\(qe 13 0 0 1 k (fun R01 Y1=>qf 6 a Y1 (fun S01=>qf 6 a Y1 (fun T01=>qh b c a S01 g F0 o R01 T01 Y1 K))))/\(qf 6 a k (fun q4=>(qf 6 a k (fun U01=>qe 13 0 0 1 k (fun V01 W01=>qh b c a U01 g F0 o V01 q4 W01 K)))/\(qe 13 0 0 1 k (fun X01 r4=>qf 6 a r4 (fun Y01=>qh b c a Y01 g F0 o X01 q4 r4 K)))))))/\(qe 13 0 0 1 k (fun Z01 l1=>qf 6 a l1 (fun a02=>qf 6 b l1 (fun b02=>qf 6 a l1 (fun c02=>qh b c a a02 g b02 o Z01 c02 l1 K)))))/\(qf 6 a k (fun G0=>(qf 6 a k (fun s4=>(qf 6 b k (fun d02=>qe 13 0 0 1 k (fun e02 f02=>qh b c a s4 g d02 o e02 G0 f02 K)))/\(qe 13 0 0 1 k (fun g02 t4=>qf 6 b t4 (fun h02=>qh b c a s4 g h02 o g02 G0 t4 K)))))/\(qf 6 b k (fun u4=>(qf 6 a k (fun i02=>qe 13 0 0 1 k (fun j02 l02=>qh b c a i02 g u4 o j02 G0 l02 K)))/\(qe 13 0 0 1 k (fun m02 v4=>qf 6 a v4 (fun n02=>qh b c a n02 g u4 o m02 G0 v4 K)))))/\(qe 13 0 0 1 k (fun o02 Z1=>qf 6 a Z1 (fun p02=>qf 6 b Z1 (fun q02=>qh b c a p02 g q02 o o02 G0 Z1 K))))))))/\(qf 6 a w.drew (fun b0=>(qf 6 a w.drew (fun a2=>(qf 6 b w.drew (fun r02=>qe 12 1 0 0 w.drew (fun s02 t02=>qe 13 0 0 1 t02 (fun u02 v02=>qh b c a a2 g r02 s02 u02 b0 v02 K))))/\(qe 12 1 0 0 w.drew (fun x4 b2=>(qf 6 b b2 (fun x02=>qe 13 0 0 1 b2 (fun y02 z02=>qh b c a a2 g x02 x4 y02 b0 z02 K)))/\(qe 13 0 0 1 b2 (fun A02 y4=>qf 6 b y4 (fun B02=>qh b c a a2 g B02 x4 A02 b0 y4 K)))))))/\(qf 6 b w.drew (fun c2=>(qf 6 a w.drew (fun C02=>qe 12 1 0 0 w.drew (fun D02 E02=>qe 13 0 0 1 E02 (fun F02 G02=>qh b c a C02 g c2 D02 F02 b0 G02 K))))/\(qe 12 1 0 0 w.drew (fun z4 d2=>(qf 6 a d2 (fun H02=>qe 13 0 0 1 d2 (fun I02 J02=>qh b c a H02 g c2 z4 I02 b0 J02 K)))/\(qe 13 0 0 1 d2 (fun L02 A4=>qf 6 a A4 (fun M02=>qh b c a M02 g c2 z4 L02 b0 A4 K)))))))/\(qe 12 1 0 0 w.drew (fun H0 o0=>(qf 6 a o0 (fun B4=>(qf 6 b o0 (fun N02=>qe 13 0 0 1 o0 (fun O02 Q02=>qh b c a B4 g N02 H0 O02 b0 Q02 K)))/\(qe 13 0 0 1 o0 (fun R02 C4=>qf 6 b C4 (fun S02=>qh b c a B4 g S02 H0 R02 b0 C4 K)))))/\(qf 6 b o0 (fun D4=>(qf 6 a o0 (fun T02=>qe 13 0 0 1 o0 (fun U02 V02=>qh b c a T02 g D4 H0 U02 b0 V02 K)))/\(qe 13 0 0 1 o0 (fun W02 E4=>qf 6 a E4 (fun X02=>qh b c a X02 g D4 H0 W02 b0 E4 K)))))/\(qe 13 0 0 1 o0 (fun Y02 e2=>qf 6 a e2 (fun Z02=>qf 6 b e2 (fun a03=>qh b c a Z02 g a03 H0 Y02 b0 e2 K))))))))))/\(qf 6 b w.drew (fun h=>(qf 6 a w.drew (fun c0=>(qf 6 c w.drew (fun f2=>(qe 12 1 0 0 w.drew (fun F4 g2=>(qe 13 0 0 1 g2 (fun b03 G4=>qf 6 a G4 (fun c03=>qh b c a c0 f2 h F4 b03 c03 G4 K)))/\(qf 6 a g2 (fun d03=>qe 13 0 0 1 g2 (fun e03 f03=>qh b c a c0 f2 h F4 e03 d03 f03 K)))))/\(qf 6 a w.drew (fun g03=>qe 12 1 0 0 w.drew (fun h03 i03=>qe 13 0 0 1 i03 (fun j03 l03=>qh b c a c0 f2 h h03 j03 g03 l03 K))))))/\(qe 12 1 0 0 w.drew (fun I0 p0=>(qf 6 c p0 (fun H4=>(qe 13 0 0 1 p0 (fun m03 I4=>qf 6 a I4 (fun n03=>qh b c a c0 H4 h I0 m03 n03 I4 K)))/\(qf 6 a p0 (fun o03=>qe 13 0 0 1 p0 (fun p03 q03=>qh b c a c0 H4 h I0 p03 o03 q03 K)))))/\(qe 13 0 0 1 p0 (fun r03 h2=>qf 6 c h2 (fun s03=>qf 6 a h2 (fun t03=>qh b c a c0 s03 h I0 r03 t03 h2 K))))/\(qf 6 a p0 (fun J4=>(qf 6 c p0 (fun u03=>qe 13 0 0 1 p0 (fun v03 x03=>qh b c a c0 u03 h I0 v03 J4 x03 K)))/\(qe 13 0 0 1 p0 (fun y03 L4=>qf 6 c L4 (fun z03=>qh b c a c0 z03 h I0 y03 J4 L4 K)))))))/\(qf 6 a w.drew (fun i2=>(qf 6 c w.drew (fun A03=>qe 12 1 0 0 w.drew (fun B03 C03=>qe 13 0 0 1 C03 (fun D03 E03=>qh b c a c0 A03 h B03 D03 i2 E03 K))))/\(qe 12 1 0 0 w.drew (fun M4 j2=>(qf 6 c j2 (fun F03=>qe 13 0 0 1 j2 (fun G03 H03=>qh b c a c0 F03 h M4 G03 i2 H03 K)))/\(qe 13 0 0 1 j2 (fun I03 N4=>qf 6 c N4 (fun J03=>qh b c a c0 J03 h M4 I03 i2 N4 K)))))))))/\(qf 6 c w.drew (fun d0=>(qf 6 a w.drew (fun l2=>(qe 12 1 0 0 w.drew (fun O4 m2=>(qe 13 0 0 1 m2 (fun L03 Q4=>qf 6 a Q4 (fun M03=>qh b c a l2 d0 h O4 L03 M03 Q4 K)))/\(qf 6 a m2 (fun N03=>qe 13 0 0 1 m2 (fun O03 Q03=>qh b c a l2 d0 h O4 O03 N03 Q03 K)))))/\(qf 6 a w.drew (fun R03=>qe 12 1 0 0 w.drew (fun S03 T03=>qe 13 0 0 1 T03 (fun U03 V03=>qh b c a l2 d0 h S03 U03 R03 V03 K))))))/\(qe 12 1 0 0 w.drew (fun J0 q0=>(qf 6 a q0 (fun R4=>(qe 13 0 0 1 q0 (fun W03 S4=>qf 6 a S4 (fun X03=>qh b c a R4 d0 h J0 W03 X03 S4 K)))/\(qf 6 a q0 (fun Y03=>qe 13 0 0 1 q0 (fun Z03 a04=>qh b c a R4 d0 h J0 Z03 Y03 a04 K)))))/\(qe 13 0 0 1 q0 (fun b04 n2=>qf 6 a n2 (fun c04=>qf 6 a n2 (fun d04=>qh b c a c04 d0 h J0 b04 d04 n2 K))))/\(qf 6 a q0 (fun T4=>(qf 6 a q0 (fun e04=>qe 13 0 0 1 q0 (fun f04 g04=>qh b c a e04 d0 h J0 f04 T4 g04 K)))/\(qe 13 0 0 1 q0 (fun h04 U4=>qf 6 a U4 (fun i04=>qh b c a i04 d0 h J0 h04 T4 U4 K)))))))/\(qf 6 a w.drew (fun o2=>(qf 6 a w.drew (fun j04=>qe 12 1 0 0 w.drew (fun l04 m04=>qe 13 0 0 1 m04 (fun n04 o04=>qh b c a j04 d0 h l04 n04 o2 o04 K))))/\(qe 12 1 0 0 w.drew (fun V4 p2=>(qf 6 a p2 (fun p04=>qe 13 0 0 1 p2 (fun q04 r04=>qh b c a p04 d0 h V4 q04 o2 r04 K)))/\(qe 13 0 0 1 p2 (fun s04 W4=>qf 6 a W4 (fun t04=>qh b c a t04 d0 h V4 s04 o2 W4 K)))))))))/\(qe 12 1 0 0 w.drew (fun p l=>(qf 6 a l (fun L0=>(qf 6 c l (fun X4=>(qe 13 0 0 1 l (fun u04 Y4=>qf 6 a Y4 (fun v04=>qh b c a L0 X4 h p u04 v04 Y4 K)))/\(qf 6 a l (fun x04=>qe 13 0 0 1 l (fun y04 z04=>qh b c a L0 X4 h p y04 x04 z04 K)))))/\(qe 13 0 0 1 l (fun A04 q2=>qf 6 c q2 (fun B04=>qf 6 a q2 (fun C04=>qh b c a L0 B04 h p A04 C04 q2 K))))/\(qf 6 a l (fun Z4=>(qf 6 c l (fun D04=>qe 13 0 0 1 l (fun E04 F04=>qh b c a L0 D04 h p E04 Z4 F04 K)))/\(qe 13 0 0 1 l (fun G04 a5=>qf 6 c a5 (fun H04=>qh b c a L0 H04 h p G04 Z4 a5 K)))))))/\(qf 6 c l (fun M0=>(qf 6 a l (fun b5=>(qe 13 0 0 1 l (fun I04 c5=>qf 6 a c5 (fun J04=>qh b c a b5 M0 h p I04 J04 c5 K)))/\(qf 6 a l (fun L04=>qe 13 0 0 1 l (fun M04 N04=>qh b c a b5 M0 h p M04 L04 N04 K)))))/\(qe 13 0 0 1 l (fun O04 r2=>qf 6 a r2 (fun Q04=>qf 6 a r2 (fun R04=>qh b c a Q04 M0 h p O04 R04 r2 K))))/\(qf 6 a l (fun d5=>(qf 6 a l (fun S04=>qe 13 0 0 1 l (fun T04 U04=>qh b c a S04 M0 h p T04 d5 U04 K)))/\(qe 13 0 0 1 l (fun V04 e5=>qf 6 a e5 (fun W04=>qh b c a W04 M0 h p V04 d5 e5 K)))))))/\(qe 13 0 0 1 l (fun X04 m1=>qf 6 a m1 (fun Y04=>qf 6 c m1 (fun Z04=>qf 6 a m1 (fun a05=>qh b c a Y04 Z04 h p X04 a05 m1 K)))))/\(qf 6 a l (fun N0=>(qf 6 a l (fun f5=>(qf 6 c l (fun b05=>qe 13 0 0 1 l (fun c05 d05=>qh b c a f5 b05 h p c05 N0 d05 K)))/\(qe 13 0 0 1 l (fun e05 g5=>qf 6 c g5 (fun f05=>qh b c a f5 f05 h p e05 N0 g5 K)))))/\(qf 6 c l (fun h5=>(qf 6 a l (fun g05=>qe 13 0 0 1 l (fun h05 i05=>qh b c a g05 h5 h p h05 N0 i05 K)))/\(qe 13 0 0 1 l (fun j05 i5=>qf 6 a i5 (fun l05=>qh b c a l05 h5 h p j05 N0 i5 K)))))/\(qe 13 0 0 1 l (fun m05 s2=>qf 6 a s2 (fun n05=>qf 6 c s2 (fun o05=>qh b c a n05 o05 h p m05 N0 s2 K))))))))/\(qf 6 a w.drew (fun e0=>(qf 6 a w.drew (fun t2=>(qf 6 c w.drew (fun p05=>qe 12 1 0 0 w.drew (fun q05 r05=>qe 13 0 0 1 r05 (fun s05 t05=>qh b c a t2 p05 h q05 s05 e0 t05 K))))/\(qe 12 1 0 0 w.drew (fun j5 u2=>(qf 6 c u2 (fun u05=>qe 13 0 0 1 u2 (fun v05 x05=>qh b c a t2 u05 h j5 v05 e0 x05 K)))/\(qe 13 0 0 1 u2 (fun y05 l5=>qf 6 c l5 (fun z05=>qh b c a t2 z05 h j5 y05 e0 l5 K)))))))/\(qf 6 c w.drew (fun v2=>(qf 6 a w.drew (fun A05=>qe 12 1 0 0 w.drew (fun B05 C05=>qe 13 0 0 1 C05 (fun D05 E05=>qh b c a A05 v2 h B05 D05 e0 E05 K))))/\(qe 12 1 0 0 w.drew (fun m5 x2=>(qf 6 a x2 (fun F05=>qe 13 0 0 1 x2 (fun G05 H05=>qh b c a F05 v2 h m5 G05 e0 H05 K)))/\(qe 13 0 0 1 x2 (fun I05 n5=>qf 6 a n5 (fun J05=>qh b c a J05 v2 h m5 I05 e0 n5 K)))))))/\(qe 12 1 0 0 w.drew (fun O0 r0=>(qf 6 a r0 (fun o5=>(qf 6 c r0 (fun L05=>qe 13 0 0 1 r0 (fun M05 N05=>qh b c a o5 L05 h O0 M05 e0 N05 K)))/\(qe 13 0 0 1 r0 (fun O05 p5=>qf 6 c p5 (fun Q05=>qh b c a o5 Q05 h O0 O05 e0 p5 K)))))/\(qf 6 c r0 (fun q5=>(qf 6 a r0 (fun R05=>qe 13 0 0 1 r0 (fun S05 T05=>qh b c a R05 q5 h O0 S05 e0 T05 K)))/\(qe 13 0 0 1 r0 (fun U05 r5=>qf 6 a r5 (fun V05=>qh b c a V05 q5 h O0 U05 e0 r5 K)))))/\(qe 13 0 0 1 r0 (fun W05 y2=>qf 6 a y2 (fun X05=>qf 6 c y2 (fun Y05=>qh b c a X05 Y05 h O0 W05 e0 y2 K))))))))))/\(qe 12 1 0 0 w.drew (fun e d=>(qf 6 a d (fun q=>(qf 6 c d (fun Q0=>(qf 6 b d (fun s5=>(qe 13 0 0 1 d (fun Z05 t5=>qf 6 a t5 (fun a06=>qh b c a q Q0 s5 e Z05 a06 t5 K)))/\(qf 6 a d (fun b06=>qe 13 0 0 1 d (fun c06 d06=>qh b c a q Q0 s5 e c06 b06 d06 K)))))/\(qe 13 0 0 1 d (fun e06 z2=>qf 6 b z2 (fun f06=>qf 6 a z2 (fun g06=>qh b c a q Q0 f06 e e06 g06 z2 K))))/\(qf 6 a d (fun u5=>(qf 6 b d (fun h06=>qe 13 0 0 1 d (fun i06 j06=>qh b c a q Q0 h06 e i06 u5 j06 K)))/\(qe 13 0 0 1 d (fun l06 v5=>qf 6 b v5 (fun m06=>qh b c a q Q0 m06 e l06 u5 v5 K)))))))/\(qf 6 b d (fun R0=>(qf 6 c d (fun x5=>(qe 13 0 0 1 d (fun n06 y5=>qf 6 a y5 (fun o06=>qh b c a q x5 R0 e n06 o06 y5 K)))/\(qf 6 a d (fun p06=>qe 13 0 0 1 d (fun q06 r06=>qh b c a q x5 R0 e q06 p06 r06 K)))))/\(qe 13 0 0 1 d (fun s06 A2=>qf 6 c A2 (fun t06=>qf 6 a A2 (fun u06=>qh b c a q t06 R0 e s06 u06 A2 K))))/\(qf 6 a d (fun z5=>(qf 6 c d (fun v06=>qe 13 0 0 1 d (fun x06 y06=>qh b c a q v06 R0 e x06 z5 y06 K)))/\(qe 13 0 0 1 d (fun z06 A5=>qf 6 c A5 (fun A06=>qh b c a q A06 R0 e z06 z5 A5 K)))))))/\(qe 13 0 0 1 d (fun B06 n1=>qf 6 c n1 (fun C06=>qf 6 b n1 (fun D06=>qf 6 a n1 (fun E06=>qh b c a q C06 D06 e B06 E06 n1 K)))))/\(qf 6 a d (fun S0=>(qf 6 c d (fun B5=>(qf 6 b d (fun F06=>qe 13 0 0 1 d (fun G06 H06=>qh b c a q B5 F06 e G06 S0 H06 K)))/\(qe 13 0 0 1 d (fun I06 C5=>qf 6 b C5 (fun J06=>qh b c a q B5 J06 e I06 S0 C5 K)))))/\(qf 6 b d (fun D5=>(qf 6 c d (fun L06=>qe 13 0 0 1 d (fun M06 N06=>qh b c a q L06 D5 e M06 S0 N06 K)))/\(qe 13 0 0 1 d (fun O06 E5=>qf 6 c E5 (fun Q06=>qh b c a q Q06 D5 e O06 S0 E5 K)))))/\(qe 13 0 0 1 d (fun R06 B2=>qf 6 c B2 (fun S06=>qf 6 b B2 (fun T06=>qh b c a q S06 T06 e R06 S0 B2 K))))))))/\(qf 6 c d (fun r=>(qf 6 a d (fun T0=>(qf 6 b d (fun F5=>(qe 13 0 0 1 d (fun U06 G5=>qf 6 a G5 (fun V06=>qh b c a T0 r F5 e U06 V06 G5 K)))/\(qf 6 a d (fun W06=>qe 13 0 0 1 d (fun X06 Y06=>qh b c a T0 r F5 e X06 W06 Y06 K)))))/\(qe 13 0 0 1 d (fun Z06 C2=>qf 6 b C2 (fun a07=>qf 6 a C2 (fun b07=>qh b c a T0 r a07 e Z06 b07 C2 K))))/\(qf 6 a d (fun H5=>(qf 6 b d (fun c07=>qe 13 0 0 1 d (fun d07 e07=>qh b c a T0 r c07 e d07 H5 e07 K)))/\(qe 13 0 0 1 d (fun f07 I5=>qf 6 b I5 (fun g07=>qh b c a T0 r g07 e f07 H5 I5 K)))))))/\(qf 6 b d (fun U0=>(qf 6 a d (fun J5=>(qe 13 0 0 1 d (fun h07 L5=>qf 6 a L5 (fun i07=>qh b c a J5 r U0 e h07 i07 L5 K)))/\(qf 6 a d (fun j07=>qe 13 0 0 1 d (fun l07 m07=>qh b c a J5 r U0 e l07 j07 m07 K)))))/\(qe 13 0 0 1 d (fun n07 D2=>qf 6 a D2 (fun o07=>qf 6 a D2 (fun p07=>qh b c a o07 r U0 e n07 p07 D2 K))))/\(qf 6 a d (fun M5=>(qf 6 a d (fun q07=>qe 13 0 0 1 d (fun r07 s07=>qh b c a q07 r U0 e r07 M5 s07 K)))/\(qe 13 0 0 1 d (fun t07 N5=>qf 6 a N5 (fun u07=>qh b c a u07 r U0 e t07 M5 N5 K)))))))/\(qe 13 0 0 1 d (fun v07 o1=>qf 6 a o1 (fun x07=>qf 6 b o1 (fun y07=>qf 6 a o1 (fun z07=>qh b c a x07 r y07 e v07 z07 o1 K)))))/\(qf 6 a d (fun V0=>(qf 6 a d (fun O5=>(qf 6 b d (fun A07=>qe 13 0 0 1 d (fun B07 C07=>qh b c a O5 r A07 e B07 V0 C07 K)))/\(qe 13 0 0 1 d (fun D07 Q5=>qf 6 b Q5 (fun E07=>qh b c a O5 r E07 e D07 V0 Q5 K)))))/\(qf 6 b d (fun R5=>(qf 6 a d (fun F07=>qe 13 0 0 1 d (fun G07 H07=>qh b c a F07 r R5 e G07 V0 H07 K)))/\(qe 13 0 0 1 d (fun I07 S5=>qf 6 a S5 (fun J07=>qh b c a J07 r R5 e I07 V0 S5 K)))))/\(qe 13 0 0 1 d (fun L07 E2=>qf 6 a E2 (fun M07=>qf 6 b E2 (fun N07=>qh b c a M07 r N07 e L07 V0 E2 K))))))))/\(qf 6 b d (fun s=>(qf 6 a d (fun W0=>(qf 6 c d (fun T5=>(qe 13 0 0 1 d (fun O07 U5=>qf 6 a U5 (fun Q07=>qh b c a W0 T5 s e O07 Q07 U5 K)))/\(qf 6 a d (fun R07=>qe 13 0 0 1 d (fun S07 T07=>qh b c a W0 T5 s e S07 R07 T07 K)))))/\(qe 13 0 0 1 d (fun U07 F2=>qf 6 c F2 (fun V07=>qf 6 a F2 (fun W07=>qh b c a W0 V07 s e U07 W07 F2 K))))/\(qf 6 a d (fun V5=>(qf 6 c d (fun X07=>qe 13 0 0 1 d (fun Y07 Z07=>qh b c a W0 X07 s e Y07 V5 Z07 K)))/\(qe 13 0 0 1 d (fun a08 W5=>qf 6 c W5 (fun b08=>qh b c a W0 b08 s e a08 V5 W5 K)))))))/\(qf 6 c d (fun X0=>(qf 6 a d (fun X5=>(qe 13 0 0 1 d (fun c08 Y5=>qf 6 a Y5 (fun d08=>qh b c a X5 X0 s e c08 d08 Y5 K)))/\(qf 6 a d (fun e08=>qe 13 0 0 1 d (fun f08 g08=>qh b c a X5 X0 s e f08 e08 g08 K)))))/\(qe 13 0 0 1 d (fun h08 G2=>qf 6 a G2 (fun i08=>qf 6 a G2 (fun j08=>qh b c a i08 X0 s e h08 j08 G2 K))))/\(qf 6 a d (fun Z5=>(qf 6 a d (fun l08=>qe 13 0 0 1 d (fun m08 n08=>qh b c a l08 X0 s e m08 Z5 n08 K)))/\(qe 13 0 0 1 d (fun o08 a6=>qf 6 a a6 (fun p08=>qh b c a p08 X0 s e o08 Z5 a6 K)))))))/\(qe 13 0 0 1 d (fun q08 p1=>qf 6 a p1 (fun r08=>qf 6 c p1 (fun s08=>qf 6 a p1 (fun t08=>qh b c a r08 s08 s e q08 t08 p1 K)))))/\(qf 6 a d (fun Y0=>(qf 6 a d (fun b6=>(qf 6 c d (fun u08=>qe 13 0 0 1 d (fun v08 x08=>qh b c a b6 u08 s e v08 Y0 x08 K)))/\(qe 13 0 0 1 d (fun y08 c6=>qf 6 c c6 (fun z08=>qh b c a b6 z08 s e y08 Y0 c6 K)))))/\(qf 6 c d (fun d6=>(qf 6 a d (fun A08=>qe 13 0 0 1 d (fun B08 C08=>qh b c a A08 d6 s e B08 Y0 C08 K)))/\(qe 13 0 0 1 d (fun D08 e6=>qf 6 a e6 (fun E08=>qh b c a E08 d6 s e D08 Y0 e6 K)))))/\(qe 13 0 0 1 d (fun F08 H2=>qf 6 a H2 (fun G08=>qf 6 c H2 (fun H08=>qh b c a G08 H08 s e F08 Y0 H2 K))))))))/\(qe 13 0 0 1 d (fun I08 Z0=>qf 6 a Z0 (fun J08=>qf 6 c Z0 (fun L08=>qf 6 b Z0 (fun M08=>qf 6 a Z0 (fun N08=>qh b c a J08 L08 M08 e I08 N08 Z0 K))))))/\(qf 6 a d (fun t=>(qf 6 a d (fun a1=>(qf 6 c d (fun f6=>(qf 6 b d (fun O08=>qe 13 0 0 1 d (fun Q08 R08=>qh b c a a1 f6 O08 e Q08 t R08 K)))/\(qe 13 0 0 1 d (fun S08 g6=>qf 6 b g6 (fun T08=>qh b c a a1 f6 T08 e S08 t g6 K)))))/\(qf 6 b d (fun h6=>(qf 6 c d (fun U08=>qe 13 0 0 1 d (fun V08 W08=>qh b c a a1 U08 h6 e V08 t W08 K)))/\(qe 13 0 0 1 d (fun X08 i6=>qf 6 c i6 (fun Y08=>qh b c a a1 Y08 h6 e X08 t i6 K)))))/\(qe 13 0 0 1 d (fun Z08 I2=>qf 6 c I2 (fun a09=>qf 6 b I2 (fun b09=>qh b c a a1 a09 b09 e Z08 t I2 K))))))/\(qf 6 c d (fun b1=>(qf 6 a d (fun j6=>(qf 6 b d (fun c09=>qe 13 0 0 1 d (fun d09 e09=>qh b c a j6 b1 c09 e d09 t e09 K)))/\(qe 13 0 0 1 d (fun f09 l6=>qf 6 b l6 (fun g09=>qh b c a j6 b1 g09 e f09 t l6 K)))))/\(qf 6 b d (fun m6=>(qf 6 a d (fun h09=>qe 13 0 0 1 d (fun i09 j09=>qh b c a h09 b1 m6 e i09 t j09 K)))/\(qe 13 0 0 1 d (fun l09 n6=>qf 6 a n6 (fun m09=>qh b c a m09 b1 m6 e l09 t n6 K)))))/\(qe 13 0 0 1 d (fun n09 J2=>qf 6 a J2 (fun o09=>qf 6 b J2 (fun p09=>qh b c a o09 b1 p09 e n09 t J2 K))))))/\(qf 6 b d (fun c1=>(qf 6 a d (fun o6=>(qf 6 c d (fun q09=>qe 13 0 0 1 d (fun r09 s09=>qh b c a o6 q09 c1 e r09 t s09 K)))/\(qe 13 0 0 1 d (fun t09 p6=>qf 6 c p6 (fun u09=>qh b c a o6 u09 c1 e t09 t p6 K)))))/\(qf 6 c d (fun q6=>(qf 6 a d (fun v09=>qe 13 0 0 1 d (fun x09 y09=>qh b c a v09 q6 c1 e x09 t y09 K)))/\(qe 13 0 0 1 d (fun z09 r6=>qf 6 a r6 (fun A09=>qh b c a A09 q6 c1 e z09 t r6 K)))))/\(qe 13 0 0 1 d (fun B09 L2=>qf 6 a L2 (fun C09=>qf 6 c L2 (fun D09=>qh b c a C09 D09 c1 e B09 t L2 K))))))/\(qe 13 0 0 1 d (fun E09 q1=>qf 6 a q1 (fun F09=>qf 6 c q1 (fun G09=>qf 6 b q1 (fun H09=>qh b c a F09 G09 H09 e E09 t q1 K)))))))))/\(qf 6 a w.drew (fun i=>(qf 6 a w.drew (fun f0=>(qf 6 c w.drew (fun M2=>(qf 6 b w.drew (fun I09=>qe 12 1 0 0 w.drew (fun J09 L09=>qe 13 0 0 1 L09 (fun M09 N09=>qh b c a f0 M2 I09 J09 M09 i N09 K))))/\(qe 12 1 0 0 w.drew (fun s6 N2=>(qf 6 b N2 (fun O09=>qe 13 0 0 1 N2 (fun Q09 R09=>qh b c a f0 M2 O09 s6 Q09 i R09 K)))/\(qe 13 0 0 1 N2 (fun S09 t6=>qf 6 b t6 (fun T09=>qh b c a f0 M2 T09 s6 S09 i t6 K)))))))/\(qf 6 b w.drew (fun O2=>(qf 6 c w.drew (fun U09=>qe 12 1 0 0 w.drew (fun V09 W09=>qe 13 0 0 1 W09 (fun X09 Y09=>qh b c a f0 U09 O2 V09 X09 i Y09 K))))/\(qe 12 1 0 0 w.drew (fun u6 Q2=>(qf 6 c Q2 (fun Z09=>qe 13 0 0 1 Q2 (fun a0a b0a=>qh b c a f0 Z09 O2 u6 a0a i b0a K)))/\(qe 13 0 0 1 Q2 (fun c0a v6=>qf 6 c v6 (fun d0a=>qh b c a f0 d0a O2 u6 c0a i v6 K)))))))/\(qe 12 1 0 0 w.drew (fun d1 s0=>(qf 6 c s0 (fun x6=>(qf 6 b s0 (fun e0a=>qe 13 0 0 1 s0 (fun f0a g0a=>qh b c a f0 x6 e0a d1 f0a i g0a K)))/\(qe 13 0 0 1 s0 (fun h0a y6=>qf 6 b y6 (fun i0a=>qh b c a f0 x6 i0a d1 h0a i y6 K)))))/\(qf 6 b s0 (fun z6=>(qf 6 c s0 (fun j0a=>qe 13 0 0 1 s0 (fun l0a m0a=>qh b c a f0 j0a z6 d1 l0a i m0a K)))/\(qe 13 0 0 1 s0 (fun n0a A6=>qf 6 c A6 (fun o0a=>qh b c a f0 o0a z6 d1 n0a i A6 K)))))/\(qe 13 0 0 1 s0 (fun p0a R2=>qf 6 c R2 (fun q0a=>qf 6 b R2 (fun r0a=>qh b c a f0 q0a r0a d1 p0a i R2 K))))))))/\(qf 6 c w.drew (fun g0=>(qf 6 a w.drew (fun S2=>(qf 6 b w.drew (fun s0a=>qe 12 1 0 0 w.drew (fun t0a u0a=>qe 13 0 0 1 u0a (fun v0a x0a=>qh b c a S2 g0 s0a t0a v0a i x0a K))))/\(qe 12 1 0 0 w.drew (fun B6 T2=>(qf 6 b T2 (fun y0a=>qe 13 0 0 1 T2 (fun z0a A0a=>qh b c a S2 g0 y0a B6 z0a i A0a K)))/\(qe 13 0 0 1 T2 (fun B0a C6=>qf 6 b C6 (fun C0a=>qh b c a S2 g0 C0a B6 B0a i C6 K)))))))/\(qf 6 b w.drew (fun U2=>(qf 6 a w.drew (fun D0a=>qe 12 1 0 0 w.drew (fun E0a F0a=>qe 13 0 0 1 F0a (fun G0a H0a=>qh b c a D0a g0 U2 E0a G0a i H0a K))))/\(qe 12 1 0 0 w.drew (fun D6 V2=>(qf 6 a V2 (fun I0a=>qe 13 0 0 1 V2 (fun J0a L0a=>qh b c a I0a g0 U2 D6 J0a i L0a K)))/\(qe 13 0 0 1 V2 (fun M0a E6=>qf 6 a E6 (fun N0a=>qh b c a N0a g0 U2 D6 M0a i E6 K)))))))/\(qe 12 1 0 0 w.drew (fun e1 t0=>(qf 6 a t0 (fun F6=>(qf 6 b t0 (fun O0a=>qe 13 0 0 1 t0 (fun Q0a R0a=>qh b c a F6 g0 O0a e1 Q0a i R0a K)))/\(qe 13 0 0 1 t0 (fun S0a G6=>qf 6 b G6 (fun T0a=>qh b c a F6 g0 T0a e1 S0a i G6 K)))))/\(qf 6 b t0 (fun H6=>(qf 6 a t0 (fun U0a=>qe 13 0 0 1 t0 (fun V0a W0a=>qh b c a U0a g0 H6 e1 V0a i W0a K)))/\(qe 13 0 0 1 t0 (fun X0a I6=>qf 6 a I6 (fun Y0a=>qh b c a Y0a g0 H6 e1 X0a i I6 K)))))/\(qe 13 0 0 1 t0 (fun Z0a W2=>qf 6 a W2 (fun a0b=>qf 6 b W2 (fun b0b=>qh b c a a0b g0 b0b e1 Z0a i W2 K))))))))/\(qf 6 b w.drew (fun h0=>(qf 6 a w.drew (fun X2=>(qf 6 c w.drew (fun c0b=>qe 12 1 0 0 w.drew (fun d0b e0b=>qe 13 0 0 1 e0b (fun f0b g0b=>qh b c a X2 c0b h0 d0b f0b i g0b K))))/\(qe 12 1 0 0 w.drew (fun J6 Y2=>(qf 6 c Y2 (fun h0b=>qe 13 0 0 1 Y2 (fun i0b j0b=>qh b c a X2 h0b h0 J6 i0b i j0b K)))/\(qe 13 0 0 1 Y2 (fun l0b L6=>qf 6 c L6 (fun m0b=>qh b c a X2 m0b h0 J6 l0b i L6 K)))))))/\(qf 6 c w.drew (fun Z2=>(qf 6 a w.drew (fun n0b=>qe 12 1 0 0 w.drew (fun o0b p0b=>qe 13 0 0 1 p0b (fun q0b r0b=>qh b c a n0b Z2 h0 o0b q0b i r0b K))))/\(qe 12 1 0 0 w.drew (fun M6 a3=>(qf 6 a a3 (fun s0b=>qe 13 0 0 1 a3 (fun t0b u0b=>qh b c a s0b Z2 h0 M6 t0b i u0b K)))/\(qe 13 0 0 1 a3 (fun v0b N6=>qf 6 a N6 (fun x0b=>qh b c a x0b Z2 h0 M6 v0b i N6 K)))))))/\(qe 12 1 0 0 w.drew (fun f1 u0=>(qf 6 a u0 (fun O6=>(qf 6 c u0 (fun y0b=>qe 13 0 0 1 u0 (fun z0b A0b=>qh b c a O6 y0b h0 f1 z0b i A0b K)))/\(qe 13 0 0 1 u0 (fun B0b Q6=>qf 6 c Q6 (fun C0b=>qh b c a O6 C0b h0 f1 B0b i Q6 K)))))/\(qf 6 c u0 (fun R6=>(qf 6 a u0 (fun D0b=>qe 13 0 0 1 u0 (fun E0b F0b=>qh b c a D0b R6 h0 f1 E0b i F0b K)))/\(qe 13 0 0 1 u0 (fun G0b S6=>qf 6 a S6 (fun H0b=>qh b c a H0b R6 h0 f1 G0b i S6 K)))))/\(qe 13 0 0 1 u0 (fun I0b b3=>qf 6 a b3 (fun J0b=>qf 6 c b3 (fun L0b=>qh b c a J0b L0b h0 f1 I0b i b3 K))))))))/\(qe 12 1 0 0 w.drew (fun u m=>(qf 6 a m (fun g1=>(qf 6 c m (fun T6=>(qf 6 b m (fun M0b=>qe 13 0 0 1 m (fun N0b O0b=>qh b c a g1 T6 M0b u N0b i O0b K)))/\(qe 13 0 0 1 m (fun Q0b U6=>qf 6 b U6 (fun R0b=>qh b c a g1 T6 R0b u Q0b i U6 K)))))/\(qf 6 b m (fun V6=>(qf 6 c m (fun S0b=>qe 13 0 0 1 m (fun T0b U0b=>qh b c a g1 S0b V6 u T0b i U0b K)))/\(qe 13 0 0 1 m (fun V0b W6=>qf 6 c W6 (fun W0b=>qh b c a g1 W0b V6 u V0b i W6 K)))))/\(qe 13 0 0 1 m (fun X0b c3=>qf 6 c c3 (fun Y0b=>qf 6 b c3 (fun Z0b=>qh b c a g1 Y0b Z0b u X0b i c3 K))))))/\(qf 6 c m (fun h1=>(qf 6 a m (fun X6=>(qf 6 b m (fun a0c=>qe 13 0 0 1 m (fun b0c c0c=>qh b c a X6 h1 a0c u b0c i c0c K)))/\(qe 13 0 0 1 m (fun d0c Y6=>qf 6 b Y6 (fun e0c=>qh b c a X6 h1 e0c u d0c i Y6 K)))))/\(qf 6 b m (fun Z6=>(qf 6 a m (fun f0c=>qe 13 0 0 1 m (fun g0c h0c=>qh b c a f0c h1 Z6 u g0c i h0c K)))/\(qe 13 0 0 1 m (fun i0c a7=>qf 6 a a7 (fun j0c=>qh b c a j0c h1 Z6 u i0c i a7 K)))))/\(qe 13 0 0 1 m (fun l0c d3=>qf 6 a d3 (fun m0c=>qf 6 b d3 (fun n0c=>qh b c a m0c h1 n0c u l0c i d3 K))))))/\(qf 6 b m (fun i1=>(qf 6 a m (fun b7=>(qf 6 c m (fun o0c=>qe 13 0 0 1 m (fun p0c q0c=>qh b c a b7 o0c i1 u p0c i q0c K)))/\(qe 13 0 0 1 m (fun r0c c7=>qf 6 c c7 (fun s0c=>qh b c a b7 s0c i1 u r0c i c7 K)))))/\(qf 6 c m (fun d7=>(qf 6 a m (fun t0c=>qe 13 0 0 1 m (fun u0c v0c=>qh b c a t0c d7 i1 u u0c i v0c K)))/\(qe 13 0 0 1 m (fun x0c e7=>qf 6 a e7 (fun y0c=>qh b c a y0c d7 i1 u x0c i e7 K)))))/\(qe 13 0 0 1 m (fun z0c e3=>qf 6 a e3 (fun A0c=>qf 6 c e3 (fun B0c=>qh b c a A0c B0c i1 u z0c i e3 K))))))/\(qe 13 0 0 1 m (fun C0c r1=>qf 6 a r1 (fun D0c=>qf 6 c r1 (fun E0c=>qf 6 b r1 (fun F0c=>qh b c a D0c E0c F0c u C0c i r1 K)))))))))):=kr
end Go.Fx.Tryz
namespace Go.Fx.Tryz
open Go Go.Fx Go.Fx.Mo
open Go.Proofs
variable {w0 w:World} {H:qP} {K:KT}
set_option maxRecDepth 20000
abbrev vA(n14 n3 n12:Nat)(H:qP):List (Nat × Obj):=(n14,Cs (qE vK) 45)::(n12,Cs (qE yW) 45)::(n3,Cs (qE yH) 45)::H
section
variable {n14 n3 n12:Nat}
theorem qcq{n:Nat}{o:Obj}{Lo:qP}(h:St w0 w (Lo++((n,o)::H)))(hN:zr w0 Lo)(hn:w0.heap.size<=n):St w0 w H:=(h.sub hN).tail hn
theorem qDm{n109 n111:Nat}(h:St w0 w ((n111,Cs (qE evY) 45)::(n109,Cs (qE evX) 45)::vA n14 n3 n12 H))(hK:∀ w',St w0 w' ((n111,Cs (qE evY) 45)::(n109,Cs (qE evX) 45)::vA n14 n3 n12 H)->K (.bool true) w') :
  qrO (Addr.mk n14 0 none) (Addr.mk n111 0 none) (Addr.mk n109 0 none) (Addr.mk n3 0 none) w K:=by
 rw[qxk]
 obtain⟨ze,hze,hzel⟩:=z35
 rw[hze]
 refine q0y h 3 0 4100 4 fun w1 h1=>⟨_,rfl,?_⟩
 refine q0y h1 2 1 4100 4 fun w2 h2=>⟨_,rfl,?_⟩
 refine h2.newC fun n152 w3 hn152 h3=>h3.newC fun n154 w4 hn154 h4=>?_
 refine h4.stA (k:=1) rfl (by simp[qu]) (by simp[hzel]) (yr _) fun w5 h5=>h5.stA (k:=0) rfl (by simp[qu]) (by simp[hzel]) (yr _) fun w6 h6=>?_
 have h6:St w0 w6 ((n154,Cs (qI ze 0 (qE qqM)) 45)::(n152,Cs (qI ze 0 (qE qks)) 45)::(n111,Cs (qE evY) 45)::(n109,Cs (qE evX) 45)::vA n14 n3 n12 H):=h6
 rw[qB (by rw[qu,hzel]),qB (by rw[qu,hzel])]at h6
 refine h6.ldA (k:=6) (i:=0) rfl (by simp[qu]) (h6.ldA (k:=1) (i:=0) rfl (by simp[qu]) (h6.ldA (k:=3) (i:=0) rfl (by simp[qu]) (h6.ldA (k:=2) (i:=0) rfl (by simp[qu]) (h6.ldA (k:=0) (i:=0) rfl (by simp[qu]) ?_))))
 refine YH ex7 h6 fun n166 w7 hn166 h7=>?_
 refine ZQ Vh qF5 (by decide) h7 (n:=n166) (.head _) fun w8 a c Lo hS hN h8=>⟨a,_,c,true,rfl,?_⟩
 have h8:=qcq h8 hN hn166
 refine h8.ldA (k:=4) (i:=0) rfl (by simp[qu]) ?_
 refine YH [vK] h8 fun n175 w9 hn175 h9=>?_
 refine qaR Vh (l:=[vK]) h9 (qkN (.head _)) (by decide) (fun x hx hx0 w10 h10=>⟨none,0,0,x,rfl,?_⟩) (fun out hx=>by rw[qr8]at hx;cases hx)
 have hx:x=300:=by rw[qr8]at hx;cases hx;rfl
 subst hx
 rw[qm]
 refine⟨0,fun wq _=>yY wq,?_⟩
 rw[show((0:Int)==0)=true by decide,qm,qmg]
 exact hK w10 (((h10.tail hn175).tail hn154).tail hn152)
theorem qAu(h:St w0 w (vA n14 n3 n12 H))(hK:∀ w',St w0 w' (vA n14 n3 n12 H)->K (.bool true) w'):qu4 (Addr.mk n14 0 none) (Addr.mk n3 0 none) w K:=by
 rw[qw2]
 obtain⟨ze,hze,hzel⟩:=z35
 rw[hze]
 refine q0y h 4 0 4096 4 fun w1 h1=>⟨_,rfl,?_⟩
 refine q0y h1 4 1 4096 4 fun w2 h2=>⟨_,rfl,?_⟩
 refine h2.newC fun n109 w3 hn109 h3=>h3.newC fun n111 w4 hn111 h4=>?_
 refine h4.stA (k:=1) rfl (by simp[qu]) (by simp[hzel]) (yr _) fun w5 h5=>h5.stA (k:=0) rfl (by simp[qu]) (by simp[hzel]) (yr _) fun w6 h6=>?_
 have h6:St w0 w6 ((n111,Cs (qI ze 0 (qE evY)) 45)::(n109,Cs (qI ze 0 (qE evX)) 45)::vA n14 n3 n12 H):=h6
 rw[qB (by rw[qu,hzel]),qB (by rw[qu,hzel])]at h6
 refine h6.ldA (k:=4) (i:=0) rfl (by simp[qu]) (h6.ldA (k:=1) (i:=0) rfl (by simp[qu]) (h6.ldA (k:=0) (i:=0) rfl (by simp[qu]) ?_))
 refine YH ex5 h6 fun n121 w7 hn121 h7=>?_
 refine ZQ Vh qH7 (by decide) h7 (n:=n121) (.head _) fun w8 a c Lo hS hN h8=>⟨a,_,c,true,rfl,?_⟩
 have h8:=qcq h8 hN hn121
 refine h8.ldA (k:=4) (i:=0) rfl (by simp[qu]) (h8.ldA (k:=1) (i:=0) rfl (by simp[qu]) (h8.ldA (k:=2) (i:=0) rfl (by simp[qu]) ?_))
 refine YH ex6 h8 fun n132 w9 hn132 h9=>?_
 refine ZQ Vh qHh (by decide) h9 (n:=n132) (.head _) fun w10 a' c' Lo' hS' hN' h10=>⟨a',_,c',true,rfl,?_⟩
 rw[Bool.not_true,qd,qd]
 refine⟨0,fun wq _=>yY wq,?_⟩
 rw[show((0:Int) != 0)=false by decide,qd]
 refine⟨4,fun wq _=>yY wq,?_⟩
 rw[show((4:Int) != 4)=false by decide,qd]
 obtain⟨g,cc,hg,hld⟩:=QC hS' (w:=w10) (i:=0) (fun y hy=>h10.has _ _ (by simp[hy])) (by decide)
 obtain⟨hsa,-⟩:a'=some ⟨g,0,none⟩/\c'=cc:=by simpa using hg
 subst hsa
 refine⟨by decide,by decide,hld _ ⟨_,Jg 4096 1 2,false,fun wq=>?_,?_⟩⟩
 ·exact qJQ 4096 1 2 wq 136 137
 ·rw[quV,qd]
  exact qDm (qcq h10 hN' hn132) fun w' h'=>hK w' ((h'.tail hn111).tail hn109)
theorem qAD:(zq ex3).set 27 (.int .u32 6)=zq ex4:=kr
theorem qCC{n81:Nat}(hn81:w0.heap.size<=n81)(h:St w0 w ((n81,Cs (zq ex3) 45)::vA n14 n3 n12 H))(hK:∀ w',St w0 w' (vA n14 n3 n12 H)->K (.bool true) w'):qit (Addr.mk n14 0 none) (Addr.mk n3 0 none) (some (Addr.mk n81 0 none)) 6 6 w K:=by
 rw[qtR]
 refine ZQ Vh qEH (by decide) h (n:=n81) (.head _) fun w8 a c Lo hS hN h8=>⟨a,_,c,true,rfl,?_⟩
 have h8:=h8.sub hN
 refine qwq (l:=ex3) h8 (n:=n81) (.head _) (by decide) fun w9 v L hv hvN h9=>?_
 rcases hv.2 with⟨_,h0,_⟩ | ⟨g,cap,cur,hve,hL,hle,hcm,hcl,htk⟩
 ·cases h0
 ·subst hve
  subst hL
  refine⟨some ⟨g,0,none⟩,6,cap,rfl,by decide,by decide,?_⟩
  show zG (((Addr.mk g 0 none).add 24).add 3) _ _ _
  rw[qc,qc]
  have hle:6<=cap:=hle
  refine h9.st1 (k:=0) rfl (by rw[hcl];omega) rfl fun w10 h10=>?_
  have h10:St w0 w10 ((g,Cs (cur.set 27 (.int .u32 6)) 45)::(n81,Cs (zq ex3) 45)::vA n14 n3 n12 H):=h10
  have hcur:(cur.set 27 (.int .u32 6)).take 36=zq ex4:=by
   have e:cur.take 36=zq ex3:=htk
   rw[List.take_set,e]
   exact qAD
  have hrow:∀ w',St w0 w' ((g,Cs (cur.set 27 (.int .u32 6)) 45)::(n81,Cs (zq ex3) 45)::vA n14 n3 n12 H)->Qt w' 6 (.slice (some ⟨g,0,none⟩) 6 cap) 6 (zq ex4):=fun w' h'=>
   ⟨QG ex4,.inr ⟨_,_,rfl,fun i hi=>by
    have hi:i<36:=hi
    rw[qc,h'.cell (k:=0) rfl,Nat.zero_add,<-hcur,List.getElem?_take,if_pos hi]⟩⟩
  refine q6H Vh (l:=ex4) h10 hrow (by decide) (fun x hx=>by rw[qz9]at hx;cases hx) fun out' hx hlen w11 rv Lo' hS' hN' h11=>?_
  rw[qz9]at hx
  cases hx
  obtain⟨a',c',hrv⟩:=hS'.form
  subst hrv
  refine⟨a',_,c',true,rfl,?_⟩
  rw[Bool.not_true,qd,qd]
  refine⟨0,fun wq _=>yY wq,?_⟩
  rw[show((0:Int) != 0)=false by decide,qd]
  refine⟨4,fun wq _=>yY wq,?_⟩
  rw[show((4:Int) != 4)=false by decide,qxD,qd]
  have hg:w0.heap.size<=g:=by simpa [zr]using hvN
  exact qAu (((h11.sub hN').tail hg).tail hn81) hK
theorem qzG(h:St w0 w (vA n14 n3 n12 H))(hK:∀ w',St w0 w' (vA n14 n3 n12 H)->K (.bool true) w'):qx0 (Addr.mk n14 0 none) (Addr.mk n3 0 none) (Addr.mk n12 0 none) w K:=by
 rw[qvU]
 have hd:=h.drew
 have l14:∀ {w':World} {K':Array Value->Prop},St w0 w' (vA n14 n3 n12 H)->K' (qE vK).toArray->qf 6 (Addr.mk n14 0 none) w' K':=fun h' hk=>h'.ldA (k:=0) (i:=0) rfl (by simp[qu]) hk
 have l12:∀ {w':World} {K':Array Value->Prop},St w0 w' (vA n14 n3 n12 H)->K' (qE yW).toArray->qf 6 (Addr.mk n12 0 none) w' K':=fun h' hk=>h'.ldA (k:=1) (i:=0) rfl (by simp[qu]) hk
 have l3:∀ {w':World} {K':Array Value->Prop},St w0 w' (vA n14 n3 n12 H)->K' (qE yH).toArray->qf 6 (Addr.mk n3 0 none) w' K':=fun h' hk=>h'.ldA (k:=2) (i:=0) rfl (by simp[qu]) hk
 have fin:∀ {w':World},St w0 w' (vA n14 n3 n12 H)->qJ 6 [evV yH,evV (ev 14 0 5 0),evV yW,evV (ev 15 0 5 0),evV (ev 14 1 5 0),evV vK]/\
   qt (([evV yH,evV (ev 14 0 5 0),evV yW,evV (ev 15 0 5 0),evV (ev 14 1 5 0),evV vK].map fun(v:Value)=>v.cells.toList).flatten.toArray) 45 w' (fun n81 w79=>qit (Addr.mk n14 0 none) (Addr.mk n3 0 none) (some (Addr.mk n81 0 none)) 6 6 w79 K):=fun h'=>
  YH ex3 h' fun n81 w79 hn81 h79=>qCC hn81 h79 hK
 clear h
 repeat' first
  | exact fin (by assumption)
  | refine l14 (by assumption) ?_
  | refine l12 (by assumption) ?_
  | refine l3 (by assumption) ?_
  | refine q0y (by assumption) _ _ _ _ fun w' h'=>⟨_,rfl,?_⟩
  | refine⟨?_,?_⟩
end
end Go.Fx.Tryz
namespace Go.Fx.Tryz
open Go Go.Fx Go.Fx.Mo
open Go.Proofs
variable {w0 w:World} {H:qP} {K:KT}
set_option maxRecDepth 20000
section
variable {n14 n3 n12:Nat}
set_option maxHeartbeats 4000000 in
theorem qCO(h:St w0 w (vA n14 n3 n12 H))(hK:∀ w',St w0 w' (vA n14 n3 n12 H)->K (.bool true) w'):qxH (Addr.mk n14 0 none) (Addr.mk n3 0 none) (Addr.mk n12 0 none) w K:=by
 rw[qtu]
 have hd:=h.drew
 have l14:∀ {w':World} {K':Array Value->Prop},St w0 w' (vA n14 n3 n12 H)->K' (qE vK).toArray->qf 6 (Addr.mk n14 0 none) w' K':=fun h' hk=>h'.ldA (k:=0) (i:=0) rfl (by simp[qu]) hk
 have l12:∀ {w':World} {K':Array Value->Prop},St w0 w' (vA n14 n3 n12 H)->K' (qE yW).toArray->qf 6 (Addr.mk n12 0 none) w' K':=fun h' hk=>h'.ldA (k:=1) (i:=0) rfl (by simp[qu]) hk
 have l3:∀ {w':World} {K':Array Value->Prop},St w0 w' (vA n14 n3 n12 H)->K' (qE yH).toArray->qf 6 (Addr.mk n3 0 none) w' K':=fun h' hk=>h'.ldA (k:=2) (i:=0) rfl (by simp[qu]) hk
 have fin:∀ {w':World},St w0 w' (vA n14 n3 n12 H)->qJ 6 [evV yW,evV yH,evV vK,evV (ev 12 1 0 0),evV (ev 13 0 0 1),evV yW]/\
   qt (([evV yW,evV yH,evV vK,evV (ev 12 1 0 0),evV (ev 13 0 0 1),evV yW].map fun(v:Value)=>v.cells.toList).flatten.toArray) 45 w' (fun n49 w47=>qa P 31 [(Value.slice (some (Addr.mk n49 0 none)) 6 6)] w47 (fun r50 w51=>∃ (s52a:Option Addr) (s52l s52c:Nat),∃ b53:Bool,r50=(Value.tuple [(Value.slice s52a s52l s52c),(Value.bool b53)].toArray)/\qu0 (Addr.mk n14 0 none) (Addr.mk n3 0 none) (Addr.mk n12 0 none) s52a s52l s52c b53 w51 K)):=fun h'=>
  YH ex2 h' fun n49 w47 hn49 h47=>ZQ (l:=ex2) Vh qI3 (by decide) h47 (n:=n49) (.head _) fun w8 a c Lo hS hN h8=>⟨a,_,c,true,rfl,by
   rw[quw,Bool.not_true,qd]
   refine⟨0,fun wq _=>yY wq,?_⟩
   rw[show((0:Int) != 0)=false by decide,qsx,qd]
   exact qzG (qcq h8 hN hn49) hK⟩
 clear h
 repeat' first
  | exact fin (by assumption)
  | refine l14 (by assumption) ?_
  | refine l12 (by assumption) ?_
  | refine l3 (by assumption) ?_
  | refine q0y (by assumption) _ _ _ _ fun w' h'=>⟨_,rfl,?_⟩
  | refine⟨?_,?_⟩
theorem qkG:yK (qcJ 1 2 (acc 0 true false) (acc 1 false false))=[qj 4096,qj 1,qj 2,qj 4097,qj 1,qj 2,qj 4098,qj 1,qj 2,qj 4099,qj 1,qj 2]:=kr
theorem qzr(h:St w0 w H)(hK:∀ w',St w0 w' H->K (.bool true) w'):qa P 5 [] w K:=by
 refine qK7 _ _ ?_
 obtain⟨ze,hze,hzel⟩:=z35
 rw[qKn,hze]
 refine q0y h 11 0 0 1 fun w1 h1=>⟨_,rfl,?_⟩
 refine h1.newC fun n3 w2 hn3 h2=>h2.stA (k:=0) rfl (by simp[qu]) (by simp[hzel]) (yr _) fun w3 h3=>?_
 have h3:St w0 w3 ((n3,Cs (qI ze 0 (qE yH)) 45)::H):=h3
 rw[qB (by rw[qu,hzel])]at h3
 refine q0y h3 3 0 4096 4 fun w4 h4=>⟨_,rfl,?_⟩
 refine q0y h4 2 1 4096 4 fun w5 h5=>⟨_,rfl,?_⟩
 refine h5.newC fun n12 w6 hn12 h6=>h6.newC fun n14 w7 hn14 h7=>?_
 refine h7.stA (k:=1) rfl (by simp[qu]) (by simp[hzel]) (yr _) fun w8 h8=>h8.stA (k:=0) rfl (by simp[qu]) (by simp[hzel]) (yr _) fun w9 h9=>?_
 have h9:St w0 w9 ((n14,Cs (qI ze 0 (qE vK)) 45)::(n12,Cs (qI ze 0 (qE yW)) 45)::(n3,Cs (qE yH) 45)::H):=h9
 rw[qB (by rw[qu,hzel]),qB (by rw[qu,hzel])]at h9
 refine h9.ldA (k:=2) (i:=0) rfl (by simp[qu]) (h9.ldA (k:=1) (i:=0) rfl (by simp[qu]) (h9.ldA (k:=0) (i:=0) rfl (by simp[qu]) ?_))
 refine YH ex1 h9 fun n24 w10 hn24 h10=>?_
 refine ZQ (l:=ex1) Vh qI8 (by decide) h10 (n:=n24) (.head _) fun w11 a c Lo hS hN h11=>⟨a,_,c,true,rfl,?_⟩
 rw[Bool.not_true,qd]
 refine⟨_,Jg 4096 1 2,_,Jg 4097 1 2,_,Jg 4098 1 2,_,Jg 4099 1 2,⟨rfl,rfl,rfl,rfl,trivial⟩,?_⟩
 refine h11.newC fun n85 w12 hn85 h12=>?_
 have h12:St w0 w12 ((n85,Cs (yK (qcJ 1 2 (acc 0 true false) (acc 1 false false))) 88)::(Lo++((n24,Cs (zq ex1) 45)::vA n14 n3 n12 H))):=by
  rw[qkG];exact h12
 refine qux (l:=qcJ 1 2 (acc 0 true false) (acc 1 false false)) h12 (fun w' h'=>hS.row fun y hy=>h'.has _ _ (by simp[hy])) (fun w' h'=>⟨by rw[qkG];rfl,.inr ⟨_,_,rfl,fun i _=>by rw[qc,h'.cell (k:=0) rfl,Nat.zero_add]⟩⟩) (by decide) fun w13 h13=>⟨true,rfl,?_⟩
 rw[qsK,Bool.not_true,qd]
 refine qCO (qcq (h13.tail hn85) hN hn24) fun w' h'=>hK w' (((h'.tail hn14).tail hn12).tail hn3)
end
end Go.Fx.Tryz
namespace Go.Fx.Tryz
set_option maxRecDepth 100000
open Go Go.Fx Go.Proofs
def c50:=qx Tryz.f50
def qLA:=Tryz.f50.results.toList
abbrev qqT K:=qH P qLA K
def f50 a w K:=CS P c50 none [2] [2] (qqT K) (zh 9 [(Value.agg a)]) w
def qho a w K:=SG c50 7 [2] [2] (qqT K) 9 [(2,VB a)] w
theorem q61:qho a w K=(K (Value.bool a) w):=kr
theorem qGC:f50 b w K=(qt b 45 w (fun c d=>qf 6 (Addr.mk c 0 none) d (fun g=>qa P 80 [(Value.agg g)] d (fun h a=>∃ e:Bool,h=(.bool e)/\qC e (qho true a K) (qf 6 (Addr.mk c 0 none) a (fun i=>qa P 81 [(Value.agg i)] a (fun j k=>∃ f:Bool,j=(.bool f)/\qho f k K))))))):=kr
theorem qGG a w K(h:f50 a w K):qa P 50 [(Value.agg a)] w K:=zj c50 Tryz.func50 h
def c81:=qx Tryz.f81
def qMc:=Tryz.f81.results.toList
abbrev qvv K:=qH P qMc K
def f81 a w K:=CS P c81 none [2] [2] (qvv K) (zh 16 [(Value.agg a)]) w
def q8k a w K:=SG c81 7 [2] [2] (qvv K) 16 [(2,VB a)] w
theorem q1Y:q8k a w K=(K (Value.bool a) w):=kr
theorem qJC:f81 c w K=(qt c 45 w (fun b a=>∃ d:Int,a.cell? (Addr.mk b 0 none)=some (.int .i64 d)/\qC (d==3) (q8k true a K) (∃ e:Int,a.cell? (Addr.mk b 0 none)=some (.int .i64 e)/\qC (e==22) (q8k true a K) (∃ f:Int,a.cell? (Addr.mk b 0 none)=some (.int .i64 f)/\q8k (f==4) a K)))):=kr
theorem qFB a w K(h:f81 a w K):qa P 81 [(Value.agg a)] w K:=zj c81 Tryz.func81 h
def c80:=qx Tryz.f80
def qMr:=Tryz.f80.results.toList
abbrev qtf K:=qH P qMr K
def f80 a w K:=CS P c80 none [2] [2] (qtf K) (zh 11 [(Value.agg a)]) w
def qey a w K:=SG c80 7 [2] [2] (qtf K) 11 [(2,VB a)] w
theorem q63:qey a w K=(K (Value.bool a) w):=kr
theorem qHC:f80 b w K=(qt b 45 w (fun c a=>∃ d:Int,a.cell? (Addr.mk c 0 none)=some (.int .i64 d)/\qC (d==2) (qey true a K) (∃ e:Int,a.cell? (Addr.mk c 0 none)=some (.int .i64 e)/\qey (e==23) a K))):=kr
theorem qJ8 a w K(h:f80 a w K):qa P 80 [(Value.agg a)] w K:=zj c80 Tryz.func80 h
def c61:=qx Tryz.f61
def qMj:=Tryz.f61.results.toList
abbrev qxt K:=qH P qMj K
def f61 a b w K:=CS P c61 none [4] [4] (qxt K) (zh 17 [(Value.agg a),(Value.int .u32 b)]) w
def qfj a w K:=SG c61 7 [4] [4] (qxt K) 17 [(4,VB a)] w
theorem q5X:qfj a w K=(K (Value.bool a) w):=kr
theorem qGm:f61 c d w K=(qt c 45 w (fun b e=>qf 6 (Addr.mk b 0 none) e (fun i=>qa P 50 [(Value.agg i)] e (fun j a=>∃ f:Bool,j=(.bool f)/\qC f (∃ g:Int,a.cell? ((Addr.mk b 0 none).add 3)=some (.int .u32 g)/\∃ h:Int,a.cell? ((Addr.mk b 0 none).add 5)=some (.int .i64 h)/\qfj (decide ((IntKind.wrap .i64 (IntKind.wrap .u32 (d-g)))<h)) a K) (qfj false a K))))):=kr
theorem qHP a b w K(h:f61 a b w K):qa P 61 [(Value.agg a),(Value.int .u32 b)] w K:=zj c61 Tryz.func61 h
def c62:=qx Tryz.f62
def qM0:=Tryz.f62.results.toList
abbrev qt8 K:=qH P qM0 K
def f62 a b w K:=CS P c62 none [4] [4] (qt8 K) (zh 16 [(Value.agg a),(VI b)]) w
def vh a w K:=SG c62 7 [4] [4] (qt8 K) 16 [(4,VQ a)] w
theorem qpO:vh a w K=(qf 5 a w (fun b=>K (Value.agg b) w)):=kr
theorem qGn:f62 s d w K=(qt s 45 w (fun c f1=>qt (qn P 97) 97 f1 (fun a b=>qf 6 (Addr.mk c 0 none) b.drew (fun e=>(∃ f:Int,b.drew.cell? ((Addr.mk c 0 none).add 1)=some (.int .i64 f)/\(∃ j:Int,b.drew.cell? ((Addr.mk c 0 none).add 2)=some (.int .u32 j)/\(qa P 81 [(Value.agg e)] b.drew (fun g1 t=>∃ u:Bool,g1=(.bool u)/\∃ v:Int,t.cell? (Addr.mk c 0 none)=some (.int .i64 v)/\∃ x:Array Value,(∀ wq,(Instr.build 97 #[(0,(Value.int .i64 d)),(1,(Value.int .i64 f)),(2,(Value.int .u32 j)),(3,(Value.bool u)),(4,(Value.bool (v==4)))]).run P wq=.ok (.agg x) wq)/\qN 5 (Addr.mk a 0 none) x t (fun h1=>vh (Addr.mk a 0 none) h1 K)))/\(∃ y:Int,b.drew.cell? (Addr.mk c 0 none)=some (.int .i64 y)/\qa P 81 [(Value.agg e)] b.drew (fun i1 j1=>∃ z:Bool,i1=(.bool z)/\∃ a0:Array Value,(∀ wq,(Instr.build 97 #[(0,(Value.int .i64 d)),(1,(Value.int .i64 f)),(2,(Value.int .u32 j)),(3,(Value.bool z)),(4,(Value.bool (y==4)))]).run P wq=.ok (.agg a0) wq)/\qN 5 (Addr.mk a 0 none) a0 j1 (fun l1=>vh (Addr.mk a 0 none) l1 K))))/\(qa P 81 [(Value.agg e)] b.drew (fun m1 k=>∃ b0:Bool,m1=(.bool b0)/\∃ c0:Int,k.cell? ((Addr.mk c 0 none).add 2)=some (.int .u32 c0)/\∃ d0:Int,k.cell? (Addr.mk c 0 none)=some (.int .i64 d0)/\∃ e0:Array Value,(∀ wq,(Instr.build 97 #[(0,(Value.int .i64 d)),(1,(Value.int .i64 f)),(2,(Value.int .u32 c0)),(3,(Value.bool b0)),(4,(Value.bool (d0==4)))]).run P wq=.ok (.agg e0) wq)/\qN 5 (Addr.mk a 0 none) e0 k (fun n1=>vh (Addr.mk a 0 none) n1 K)))/\(∃ l:Int,b.drew.cell? (Addr.mk c 0 none)=some (.int .i64 l)/\(∃ f0:Int,b.drew.cell? ((Addr.mk c 0 none).add 2)=some (.int .u32 f0)/\qa P 81 [(Value.agg e)] b.drew (fun o1 p1=>∃ g0:Bool,o1=(.bool g0)/\∃ h0:Array Value,(∀ wq,(Instr.build 97 #[(0,(Value.int .i64 d)),(1,(Value.int .i64 f)),(2,(Value.int .u32 f0)),(3,(Value.bool g0)),(4,(Value.bool (l==4)))]).run P wq=.ok (.agg h0) wq)/\qN 5 (Addr.mk a 0 none) h0 p1 (fun q1=>vh (Addr.mk a 0 none) q1 K)))/\(qa P 81 [(Value.agg e)] b.drew (fun r1 i0=>∃ j0:Bool,r1=(.bool j0)/\∃ l0:Int,i0.cell? ((Addr.mk c 0 none).add 2)=some (.int .u32 l0)/\∃ m0:Array Value,(∀ wq,(Instr.build 97 #[(0,(Value.int .i64 d)),(1,(Value.int .i64 f)),(2,(Value.int .u32 l0)),(3,(Value.bool j0)),(4,(Value.bool (l==4)))]).run P wq=.ok (.agg m0) wq)/\qN 5 (Addr.mk a 0 none) m0 i0 (fun s1=>vh (Addr.mk a 0 none) s1 K)))))/\(∃ g:Int,b.drew.cell? ((Addr.mk c 0 none).add 2)=some (.int .u32 g)/\(∃ m:Int,b.drew.cell? ((Addr.mk c 0 none).add 1)=some (.int .i64 m)/\(qa P 81 [(Value.agg e)] b.drew (fun t1 n0=>∃ o0:Bool,t1=(.bool o0)/\∃ p0:Int,n0.cell? (Addr.mk c 0 none)=some (.int .i64 p0)/\∃ q0:Array Value,(∀ wq,(Instr.build 97 #[(0,(Value.int .i64 d)),(1,(Value.int .i64 m)),(2,(Value.int .u32 g)),(3,(Value.bool o0)),(4,(Value.bool (p0==4)))]).run P wq=.ok (.agg q0) wq)/\qN 5 (Addr.mk a 0 none) q0 n0 (fun u1=>vh (Addr.mk a 0 none) u1 K)))/\(∃ r0:Int,b.drew.cell? (Addr.mk c 0 none)=some (.int .i64 r0)/\qa P 81 [(Value.agg e)] b.drew (fun v1 y1=>∃ s0:Bool,v1=(.bool s0)/\∃ t0:Array Value,(∀ wq,(Instr.build 97 #[(0,(Value.int .i64 d)),(1,(Value.int .i64 m)),(2,(Value.int .u32 g)),(3,(Value.bool s0)),(4,(Value.bool (r0==4)))]).run P wq=.ok (.agg t0) wq)/\qN 5 (Addr.mk a 0 none) t0 y1 (fun z1=>vh (Addr.mk a 0 none) z1 K))))/\(qa P 81 [(Value.agg e)] b.drew (fun A1 n=>∃ u0:Bool,A1=(.bool u0)/\∃ v0:Int,n.cell? ((Addr.mk c 0 none).add 1)=some (.int .i64 v0)/\∃ x0:Int,n.cell? (Addr.mk c 0 none)=some (.int .i64 x0)/\∃ y0:Array Value,(∀ wq,(Instr.build 97 #[(0,(Value.int .i64 d)),(1,(Value.int .i64 v0)),(2,(Value.int .u32 g)),(3,(Value.bool u0)),(4,(Value.bool (x0==4)))]).run P wq=.ok (.agg y0) wq)/\qN 5 (Addr.mk a 0 none) y0 n (fun B1=>vh (Addr.mk a 0 none) B1 K)))/\(∃ o:Int,b.drew.cell? (Addr.mk c 0 none)=some (.int .i64 o)/\(∃ z0:Int,b.drew.cell? ((Addr.mk c 0 none).add 1)=some (.int .i64 z0)/\qa P 81 [(Value.agg e)] b.drew (fun C1 D1=>∃ A0:Bool,C1=(.bool A0)/\∃ B0:Array Value,(∀ wq,(Instr.build 97 #[(0,(Value.int .i64 d)),(1,(Value.int .i64 z0)),(2,(Value.int .u32 g)),(3,(Value.bool A0)),(4,(Value.bool (o==4)))]).run P wq=.ok (.agg B0) wq)/\qN 5 (Addr.mk a 0 none) B0 D1 (fun E1=>vh (Addr.mk a 0 none) E1 K)))/\(qa P 81 [(Value.agg e)] b.drew (fun F1 C0=>∃ D0:Bool,F1=(.bool D0)/\∃ E0:Int,C0.cell? ((Addr.mk c 0 none).add 1)=some (.int .i64 E0)/\∃ F0:Array Value,(∀ wq,(Instr.build 97 #[(0,(Value.int .i64 d)),(1,(Value.int .i64 E0)),(2,(Value.int .u32 g)),(3,(Value.bool D0)),(4,(Value.bool (o==4)))]).run P wq=.ok (.agg F0) wq)/\qN 5 (Addr.mk a 0 none) F0 C0 (fun G1=>vh (Addr.mk a 0 none) G1 K)))))/\(qa P 81 [(Value.agg e)] b.drew (fun H1 i=>∃ G0:Bool,H1=(.bool G0)/\∃ H0:Int,i.cell? ((Addr.mk c 0 none).add 1)=some (.int .i64 H0)/\∃ I0:Int,i.cell? ((Addr.mk c 0 none).add 2)=some (.int .u32 I0)/\∃ J0:Int,i.cell? (Addr.mk c 0 none)=some (.int .i64 J0)/\∃ L0:Array Value,(∀ wq,(Instr.build 97 #[(0,(Value.int .i64 d)),(1,(Value.int .i64 H0)),(2,(Value.int .u32 I0)),(3,(Value.bool G0)),(4,(Value.bool (J0==4)))]).run P wq=.ok (.agg L0) wq)/\qN 5 (Addr.mk a 0 none) L0 i (fun I1=>vh (Addr.mk a 0 none) I1 K)))/\(∃ h:Int,b.drew.cell? (Addr.mk c 0 none)=some (.int .i64 h)/\(∃ p:Int,b.drew.cell? ((Addr.mk c 0 none).add 1)=some (.int .i64 p)/\(∃ M0:Int,b.drew.cell? ((Addr.mk c 0 none).add 2)=some (.int .u32 M0)/\qa P 81 [(Value.agg e)] b.drew (fun J1 L1=>∃ N0:Bool,J1=(.bool N0)/\∃ O0:Array Value,(∀ wq,(Instr.build 97 #[(0,(Value.int .i64 d)),(1,(Value.int .i64 p)),(2,(Value.int .u32 M0)),(3,(Value.bool N0)),(4,(Value.bool (h==4)))]).run P wq=.ok (.agg O0) wq)/\qN 5 (Addr.mk a 0 none) O0 L1 (fun M1=>vh (Addr.mk a 0 none) M1 K)))/\(qa P 81 [(Value.agg e)] b.drew (fun N1 Q0=>∃ R0:Bool,N1=(.bool R0)/\∃ S0:Int,Q0.cell? ((Addr.mk c 0 none).add 2)=some (.int .u32 S0)/\∃ T0:Array Value,(∀ wq,(Instr.build 97 #[(0,(Value.int .i64 d)),(1,(Value.int .i64 p)),(2,(Value.int .u32 S0)),(3,(Value.bool R0)),(4,(Value.bool (h==4)))]).run P wq=.ok (.agg T0) wq)/\qN 5 (Addr.mk a 0 none) T0 Q0 (fun O1=>vh (Addr.mk a 0 none) O1 K))))/\(∃ q:Int,b.drew.cell? ((Addr.mk c 0 none).add 2)=some (.int .u32 q)/\(∃ U0:Int,b.drew.cell? ((Addr.mk c 0 none).add 1)=some (.int .i64 U0)/\qa P 81 [(Value.agg e)] b.drew (fun Q1 R1=>∃ V0:Bool,Q1=(.bool V0)/\∃ W0:Array Value,(∀ wq,(Instr.build 97 #[(0,(Value.int .i64 d)),(1,(Value.int .i64 U0)),(2,(Value.int .u32 q)),(3,(Value.bool V0)),(4,(Value.bool (h==4)))]).run P wq=.ok (.agg W0) wq)/\qN 5 (Addr.mk a 0 none) W0 R1 (fun S1=>vh (Addr.mk a 0 none) S1 K)))/\(qa P 81 [(Value.agg e)] b.drew (fun T1 X0=>∃ Y0:Bool,T1=(.bool Y0)/\∃ Z0:Int,X0.cell? ((Addr.mk c 0 none).add 1)=some (.int .i64 Z0)/\∃ a1:Array Value,(∀ wq,(Instr.build 97 #[(0,(Value.int .i64 d)),(1,(Value.int .i64 Z0)),(2,(Value.int .u32 q)),(3,(Value.bool Y0)),(4,(Value.bool (h==4)))]).run P wq=.ok (.agg a1) wq)/\qN 5 (Addr.mk a 0 none) a1 X0 (fun U1=>vh (Addr.mk a 0 none) U1 K))))/\(qa P 81 [(Value.agg e)] b.drew (fun V1 r=>∃ b1:Bool,V1=(.bool b1)/\∃ c1:Int,r.cell? ((Addr.mk c 0 none).add 1)=some (.int .i64 c1)/\∃ d1:Int,r.cell? ((Addr.mk c 0 none).add 2)=some (.int .u32 d1)/\∃ e1:Array Value,(∀ wq,(Instr.build 97 #[(0,(Value.int .i64 d)),(1,(Value.int .i64 c1)),(2,(Value.int .u32 d1)),(3,(Value.bool b1)),(4,(Value.bool (h==4)))]).run P wq=.ok (.agg e1) wq)/\qN 5 (Addr.mk a 0 none) e1 r (fun W1=>vh (Addr.mk a 0 none) W1 K)))))))):=kr
theorem qFK a b w K(h:f62 a b w K):qa P 62 [(Value.agg a),(Value.int .i64 b)] w K:=zj c62 Tryz.func62 h
def c82:=qx Tryz.f82
def qLH:=Tryz.f82.results.toList
abbrev qx5 K:=qH P qLH K
def f82 a b w K:=CS P c82 none [4] [4] (qx5 K) (zh 27 [(Value.agg a),(Value.agg b)]) w
def q0l a w K:=SG c82 7 [4] [4] (qx5 K) 27 [(4,VB a)] w
theorem QH:q0l a w K=(K (Value.bool a) w):=kr
theorem qH1:f82 d e w K=(qt d 97 w (fun b n=>qt e 97 n (fun c a=>∃ f:Int,a.cell? ((Addr.mk b 0 none).add 1)=some (.int .i64 f)/\∃ g:Int,a.cell? ((Addr.mk c 0 none).add 1)=some (.int .i64 g)/\qC (f != g) (∃ h:Bool,a.cell? ((Addr.mk b 0 none).add 3)=some (.bool h)/\qC h (∃ i:Bool,a.cell? ((Addr.mk b 0 none).add 4)=some (.bool i)/\qC i (∃ j:Bool,a.cell? ((Addr.mk c 0 none).add 4)=some (.bool j)/\q0l (!j) a K) (q0l true a K)) (∃ k:Bool,a.cell? ((Addr.mk c 0 none).add 3)=some (.bool k)/\qC k (∃ l:Bool,a.cell? ((Addr.mk b 0 none).add 4)=some (.bool l)/\qC l (∃ m:Bool,a.cell? ((Addr.mk c 0 none).add 4)=some (.bool m)/\q0l (!m) a K) (q0l true a K)) (q0l false a K))) (q0l false a K)))):=kr
theorem qG4 a b w K(h:f82 a b w K):qa P 82 [(Value.agg a),(Value.agg b)] w K:=zj c82 Tryz.func82 h
def c57:=qx Tryz.f57
def qLD:=Tryz.f57.results.toList
abbrev qGZ K:=qH P qLD K
def f57 w K:=CS P c57 none [0] [0] (qGZ K) (zh 6 []) w
theorem qFM:f57 w K=(qt (qn P 64) 64 w (fun b f=>∃ c:Array Value,(∀ wq,(Instr.build 64 #[]).run P wq=.ok (.agg c) wq)/\qt (qn P 64) 64 f (fun a g=>qN 20 (Addr.mk a 0 none) c g (fun h=>0<=(0:Int)/\(0:Int)<(8:Nat)/\zG (((Addr.mk a 0 none).add 3).add (Int.toNat 0*1)) (Value.bool true) h (fun d=>qf 20 (Addr.mk a 0 none) d (fun i=>qN 20 (Addr.mk b 0 none) i d (fun e=>qf 20 (Addr.mk b 0 none) e (fun j=>K (Value.agg j) e)))))))):=kr
theorem qIN w K(h:f57 w K):qa P 57 [] w K:=zj c57 Tryz.func57 h
def qcr:=qx Tryz.f100
def qKj:=Tryz.f100.results.toList
abbrev q8m K:=qH P qKj K
def f100 a b c d w K:=CS P qcr none [4] [4] (q8m K) (zh 21 [(VS a b c),(Value.agg d)]) w
abbrev qAl K:=kq qcr 3 [4] [4] (q8m K)
abbrev ql2 K:=qq 0 (qAl K)
def quR K Y0 e w:=zJ (fun e w=>CS P (cA qcr 52) none [0,5,3,4] [4,0] (qw [0,5,3,4] Y0 (ql2 K)) e w) e w
abbrev q50 K Y0:=qw [0,5,3,4] Y0 (ql2 K)
def qbp a b c d f g w K Y0:=SG qcr 52 [0,5,3,4] [4,0] (q50 K Y0) 21 [(0,VS a b c),(5,VI d),(3,VQ f),(4,VI g)] w
def qkF a b c d f g w K Y0:=SG qcr 105 [0,5,3,4] [4,0] (q50 K Y0) 21 [(0,VS a b c),(3,VQ d),(5,VI f),(4,VI g)] w
def qiW a b c d f g w K Y0:=SG qcr 211 [0,5,3,4] [4,0] (q50 K Y0) 21 [(0,VS a b c),(3,VQ d),(4,VI f),(5,VI g)] w
theorem qhC:qiW a b c d e f w K Y0=(Y0 (ql.mk 21 [(0,(Value.slice a b c)),(5,(Value.int .i64 (IntKind.wrap .i64 (f+1)))),(3,(Value.pointer (some d))),(4,(Value.int .i64 e))] []) w):=kr
theorem qgR:qkF b c e d a f w K Y0=(qi b (fun j=>0<=a/\a<(c:Nat)/\qf 2 (j.add (Int.toNat a*2)) w.drew (fun g=>qf 2 d w.drew (fun h=>∃ i:Bool,(∀ wq,(do eqGuard .eql 170 (.tmp 15) (.tmp 16) (Value.agg g) (Value.agg h);binOp .eql 170 (Value.agg g) (Value.agg h):Sem Value).run P wq=.ok (.bool i) wq)/\qC i (K (Value.int .i64 a) w.drew) (qiW b c e d f a w.drew K Y0))))):=kr
def qjn a b c w K:=SG qcr 7 [4] [4] (q8m K) 21 [(0,VS a b c)] w
theorem qg6:qjn a b c w K=(∃ d:Int,(∀ wq,zZ w wq->(Builtin.len_ #[62] 3 #[(Value.slice a b c)]).run P wq=.ok (.int .i64 d) wq)/\K (Value.int .i64 d) w):=kr
theorem qc9:qbp a b c d e f w K Y0=(∃ g:Int,(∀ wq,zZ w wq->(Builtin.len_ #[62] 3 #[(Value.slice a b c)]).run P wq=.ok (.int .i64 g) wq)/\qC (decide (d<g)) (qkF a b c e d f w K Y0) (qjn a b c w K)):=kr
theorem qAH:f100 a b c d w K=(qt d 170 w (fun e f=>za (quR K) (ql.mk 21 [(0,(Value.slice a b c)),(5,(Value.int .i64 0)),(3,(Value.pointer (some (Addr.mk e 0 none)))),(4,(Value.int .i64 0))] []) f)):=kr
theorem qBS a b c d w K(h:f100 a b c d w K):qa P 100 [(Value.slice a b c),(Value.agg d)] w K:=zj qcr Tryz.func100 h
def q3Y:=qx Tryz.f101
def qJO:=Tryz.f101.results.toList
abbrev Zl K:=qH P qJO K
def f101 a b w K:=CS P q3Y none [4] [4] (Zl K) (zh 73 [(Value.agg a),(Value.agg b)]) w
abbrev qDB K:=kq q3Y 3 [4] [4] (Zl K)
def q15 a b c w K:=SG q3Y 13 [3,2] [4] (qDB K) 73 [(23,VB a),(3,VQ b),(2,VQ c)] w
def q8d a b w K:=SG q3Y 7 [4] [4] (Zl K) 73 [(3,VQ a),(2,VQ b)] w
abbrev qzh K:=kq q3Y 7 [4] [4] (Zl K)
def VX a b c w K:=SG q3Y 29 [3,2] [4] (qzh K) 73 [(45,VB a),(3,VQ b),(2,VQ c)] w
def q96 a b w K:=SG q3Y 15 [4] [4] (Zl K) 73 [(3,VQ a),(2,VQ b)] w
def q2H a b c w K:=SG q3Y 31 [4] [4] (Zl K) 73 [(3,VQ a),(2,VQ b),(5,VB c)] w
def q2G a b c d w K:=SG q3Y 63 [4] [4] (Zl K) 73 [(3,VQ a),(2,VQ b),(6,VB c),(5,VB d)] w
def q33 a w K:=SG q3Y 127 [4] [4] (Zl K) 73 [(4,VB a)] w
theorem JX:q33 a w K=(K (Value.bool a) w):=kr
theorem qfI:q2G a b c d w K=(qC d (qC c (∃ e:Int,w.cell? (b.add 3)=some (.int .i64 e)/\∃ f:Int,w.cell? (a.add 3)=some (.int .i64 f)/\q33 (e==f) w K) (q33 false w K)) (q33 false w K)):=kr
theorem qdY:q2H a b c w K=(∃ d:Int,w.cell? a=some (.int .i64 d)/\qC (d==3) (q2G a b true c w K) (∃ e:Int,w.cell? a=some (.int .i64 e)/\q2G a b (e==4) c w K)):=kr
theorem qg9:q96 b a w K=(∃ c:Int,w.cell? a=some (.int .i64 c)/\qC (c==2) (q2H b a true w K) (∃ d:Int,w.cell? a=some (.int .i64 d)/\q2H b a (d==4) w K)):=kr
theorem qeb:VX a b c w K=(qC a (K (Value.bool true) w) (q96 b c w K)):=kr
theorem qdK:q8d a b w K=(∃ c:Int,w.cell? a=some (.int .i64 c)/\qC (c==6) (∃ d:Int,w.cell? (b.add 1)=some (.int .i64 d)/\∃ e:Int,w.cell? (a.add 2)=some (.int .i64 e)/\qC (d==e) (VX true a b w K) (∃ f:Int,w.cell? b=some (.int .i64 f)/\qC (f==5) (∃ g:Int,w.cell? (b.add 2)=some (.int .i64 g)/\∃ h:Int,w.cell? (a.add 2)=some (.int .i64 h)/\VX (g==h) a b w K) (VX false a b w K))) (VX false a b w K)):=kr
theorem qh1:q15 a b c w K=(qC a (K (Value.bool true) w) (q8d b c w K)):=kr
theorem qCJ:f101 d e w K=(qt d 72 w (fun b k=>qt e 72 k (fun c a=>∃ f:Int,a.cell? ((Addr.mk b 0 none).add 1)=some (.int .i64 f)/\∃ g:Int,a.cell? ((Addr.mk c 0 none).add 1)=some (.int .i64 g)/\qC (f==g) (q15 true (Addr.mk c 0 none) (Addr.mk b 0 none) a K) (∃ h:Int,a.cell? (Addr.mk b 0 none)=some (.int .i64 h)/\qC (h==5) (∃ i:Int,a.cell? ((Addr.mk b 0 none).add 2)=some (.int .i64 i)/\∃ j:Int,a.cell? ((Addr.mk c 0 none).add 1)=some (.int .i64 j)/\q15 (i==j) (Addr.mk c 0 none) (Addr.mk b 0 none) a K) (q15 false (Addr.mk c 0 none) (Addr.mk b 0 none) a K))))):=kr
theorem qCs a b w K(h:f101 a b w K):qa P 101 [(Value.agg a),(Value.agg b)] w K:=zj q3Y Tryz.func101 h
end Go.Fx.Tryz
namespace Go.Fx.Mo
def ld(e:Ev):Bool:=e.kind==2||e.kind==23
def sto(e:Ev):Bool:=e.kind==3||(e.kind==22||e.kind==4)
def acs(e:Ev):Bool:=ld e||sto e
def has(e:Ev)(b:Int):Bool:=acs e&&decide (yk (jE (b-e.a))<e.n)
def yi(e:Ev)(i:Int):Qk:=⟨i,e.th,e.pc,sto e,e.kind==4⟩
def yt(a b:vH):Bool:=
 (a.th==b.th||(a.kind==5&&a.other==b.th))||((b.kind==6&&(a.th==b.other||(a.kind==5&&a.other==b.other))) ||
  ((a.kind==2||a.kind==4)&&(b.kind==3||b.kind==4)&&a.obj==b.obj))
end Go.Fx.Mo
namespace Go.Fx.Tryz
open Go Go.Fx Go.Fx.Mo
open Go.Proofs
variable {w0 w:World} {H:qP} {K:KT}
set_option maxRecDepth 20000
theorem qrh(h:St w0 w H)(e:Ev)(hK:∀ w',St w0 w' H->K (.bool (ld e)) w'):qa P 80 [.agg (qE e).toArray] w K:=by
 refine qJ8 _ _ _ ?_
 rw[qHC]
 refine h.newC fun n1 w1 hn1 h1=>⟨e.kind,by rw[h1.cell (k:=0) rfl];rfl,?_⟩
 have hk:=hK w1 (h1.tail hn1)
 unfold ld at hk
 cases h2:(e.kind==2)
 ·rw[qd]
  refine⟨e.kind,by rw[h1.cell (k:=0) rfl];rfl,?_⟩
  rw[q63]
  simpa [h2]using hk
 ·rw[qm,q63]
  simpa [h2]using hk
theorem q70(h:St w0 w H)(e:Ev)(hK:∀ w',St w0 w' H->K (.bool (sto e)) w'):qa P 81 [.agg (qE e).toArray] w K:=by
 refine qFB _ _ _ ?_
 rw[qJC]
 refine h.newC fun n1 w1 hn1 h1=>⟨e.kind,by rw[h1.cell (k:=0) rfl];rfl,?_⟩
 have hk:=hK w1 (h1.tail hn1)
 unfold sto at hk
 cases h2:(e.kind==3)
 ·rw[qd]
  refine⟨e.kind,by rw[h1.cell (k:=0) rfl];rfl,?_⟩
  cases h3:(e.kind==22)
  ·rw[qd]
   refine⟨e.kind,by rw[h1.cell (k:=0) rfl];rfl,?_⟩
   rw[q1Y]
   simpa [h2,h3]using hk
  ·rw[qm,q1Y]
   simpa [h2,h3]using hk
 ·rw[qm,q1Y]
  simpa [h2]using hk
theorem q9n(h:St w0 w H)(e:Ev)(hK:∀ w',St w0 w' H->K (.bool (acs e)) w'):qa P 50 [.agg (qE e).toArray] w K:=by
 refine qGG _ _ _ ?_
 rw[qGC]
 refine h.newC fun n1 w1 hn1 h1=>h1.ldA (k:=0) (i:=0) rfl (by simp[qu]) ?_
 refine qrh h1 e fun w2 h2=>⟨_,rfl,?_⟩
 have hk:∀ w',St w0 w' ((n1,Cs (qE e) 45)::H)->K (.bool (acs e)) w':=fun w' h'=>hK w' (h'.tail hn1)
 unfold acs at hk
 cases hl:ld e
 ·rw[qd]
  refine h2.ldA (k:=0) (i:=0) rfl (by simp[qu]) ?_
  refine q70 h2 e fun w3 h3=>⟨_,rfl,?_⟩
  rw[q61]
  simpa [hl]using hk w3 h3
 ·rw[qm,q61]
  simpa [hl]using hk w2 h2
theorem qz0(h:St w0 w H)(e:Ev)(b:Int)(hK:∀ w',St w0 w' H->K (.bool (has e b)) w'):qa P 61 [.agg (qE e).toArray,.int .u32 b] w K:=by
 refine qHP _ _ _ _ ?_
 rw[qGm]
 refine h.newC fun n1 w1 hn1 h1=>h1.ldA (k:=0) (i:=0) rfl (by simp[qu]) ?_
 refine q9n h1 e fun w2 h2=>⟨_,rfl,?_⟩
 have hk:=hK w2 (h2.tail hn1)
 unfold has at hk
 cases hl:acs e
 ·rw[qd,q5X]
  simpa [hl]using hk
 ·rw[qm]
  refine⟨e.a,by rw[qc,h2.cell (k:=0) rfl];rfl,e.n,by rw[qc,h2.cell (k:=0) rfl];rfl,?_⟩
  rw[q5X]
  rw[hl,Bool.true_and]at hk
  exact hk
theorem qI0(h:St w0 w H)(e:Ev)(i:Int)(hK:∀ w',St w0 w' H->K (.agg (qO (yi e i)).toArray) w'):qa P 62 [.agg (qE e).toArray,.int .i64 i] w K:=by
 refine qFK _ _ _ _ ?_
 rw[qGn,z45]
 refine h.newC fun n2 w3 hn2 h3=>h3.newC fun n4 w5 hn4 h5=>?_
 have hd:=h5.drew
 refine hd.ldA (k:=1) (i:=0) rfl (by simp[qu]) ?_
 let X:List (Nat × Obj):=(n4,Cs [qj 0,qj 0,.int .u32 0,.bool false,.bool false] 97)::(n2,Cs (qE e) 45)::H
 have hX:St w0 w5.drew X:=hd
 have rd:∀ {w':World} {j:Nat} {v:Value},St w0 w' X->(qE e)[j]?=some v->w'.cell? ((Addr.mk n2 0 none).add j)=some v:=fun h' hv=>by
  rw[qc,Nat.zero_add,h'.cell (k:=1) rfl];exact hv
 have rd0:∀ {w':World} {v:Value},St w0 w' X->(qE e)[0]?=some v->w'.cell? (Addr.mk n2 0 none)=some v:=fun h' hv=>by
  rw[h'.cell (k:=1) rfl];exact hv
 have call:∀ {w':World} {K':KT},St w0 w' X->(∀ w2,St w0 w2 X->K' (.bool (sto e)) w2)->qa P 81 [.agg (qE e).toArray] w' K':=fun h' hk=>q70 h' e hk
 have fin:∀ {w':World},St w0 w' X->∃ cs:Array Value,(∀ wq,(Instr.build 97 [(0,(Value.int .i64 i)),(1,(Value.int .i64 e.th)),(2,(Value.int .u32 e.pc)),(3,(Value.bool (sto e))),(4,(Value.bool (e.kind==4)))].toArray).run P wq=.ok (Value.agg cs) wq)/\qN 5 (Addr.mk n4 0 none) cs w' (fun w14=>vh (Addr.mk n4 0 none) w14 K):=by
  intro w' h'
  refine⟨_,fun wq=>qkb _ _ _ _ _ wq,?_⟩
  refine St.stA (H:=X) h' (k:=0) rfl rfl (by simp) (jN _) fun w14 h14=>?_
  have h14:St w0 w14 ((n4,Cs (qO (yi e i)) 97)::(n2,Cs (qE e) 45)::H):=h14
  rw[qpO]
  refine h14.ldA (k:=0) (i:=0) rfl (by simp[yz]) ?_
  exact hK w14 ((h14.tail hn4).tail hn2)
 clear hd h5 h3 h
 repeat' first
  | exact fin (by assumption)
  | refine call (by assumption) fun w' h'=>⟨_,rfl,?_⟩
  | refine⟨_,rd (by assumption) rfl,?_⟩
  | refine⟨_,rd0 (by assumption) rfl,?_⟩
  | refine⟨?_,?_⟩
theorem qyC(h:St w0 w H)(a b:Qk)(hK:∀ w',St w0 w' H->K (.bool (Mo.zE a b)) w'):qa P 82 [.agg (qO a).toArray,.agg (qO b).toArray] w K:=by
 refine qG4 _ _ _ _ ?_
 rw[qH1]
 refine h.newC fun n2 w3 hn2 h3=>h3.newC fun n4 w5 hn4 h5=>?_
 have hk:=hK w5 ((h5.tail hn4).tail hn2)
 have ra:∀ {j:Nat} {v:Value},(qO a)[j]?=some v->w5.cell? ((Addr.mk n2 0 none).add j)=some v:=fun hv=>by
  rw[qc,Nat.zero_add,h5.cell (k:=1) rfl];exact hv
 have rb:∀ {j:Nat} {v:Value},(qO b)[j]?=some v->w5.cell? ((Addr.mk n4 0 none).add j)=some v:=fun hv=>by
  rw[qc,Nat.zero_add,h5.cell (k:=0) rfl];exact hv
 refine⟨_,ra rfl,_,rb rfl,?_⟩
 unfold Mo.zE at hk
 cases h1:(a.th != b.th)
 ·rw[qd,QH];simpa [h1]using hk
 ·rw[qm]
  refine⟨_,ra rfl,?_⟩
  cases h2:a.st
  ·rw[qd]
   refine⟨_,rb rfl,?_⟩
   cases h3:b.st
   ·rw[qd,QH];simpa [h1,h2,h3]using hk
   ·rw[qm]
    refine⟨_,ra rfl,?_⟩
    cases h4:a.at'
    ·rw[qd,QH];simpa [h1,h2,h3,h4]using hk
    ·rw[qm]
     refine⟨_,rb rfl,?_⟩
     rw[QH];simpa [h1,h2,h3,h4]using hk
  ·rw[qm]
   refine⟨_,ra rfl,?_⟩
   cases h4:a.at'
   ·rw[qd,QH];simpa [h1,h2,h4]using hk
   ·rw[qm]
    refine⟨_,rb rfl,?_⟩
    rw[QH];simpa [h1,h2,h4]using hk
theorem qos(h:St w0 w H)(a b:vH)(hK:∀ w',St w0 w' H->K (.bool (yt a b)) w'):qa P 101 [.agg (zu a).toArray,.agg (zu b).toArray] w K:=by
 refine qCs _ _ _ _ ?_
 rw[qCJ]
 refine h.newC fun n2 w3 hn2 h3=>h3.newC fun n4 w5 hn4 h5=>?_
 have hk:=hK w5 ((h5.tail hn4).tail hn2)
 have ra:∀ {j:Nat} {v:Value},(zu a)[j]?=some v->w5.cell? ((Addr.mk n2 0 none).add j)=some v:=fun hv=>by
  rw[qc,Nat.zero_add,h5.cell (k:=1) rfl];exact hv
 have rb:∀ {j:Nat} {v:Value},(zu b)[j]?=some v->w5.cell? ((Addr.mk n4 0 none).add j)=some v:=fun hv=>by
  rw[qc,Nat.zero_add,h5.cell (k:=0) rfl];exact hv
 have ra0:∀ {v:Value},(zu a)[0]?=some v->w5.cell? (Addr.mk n2 0 none)=some v:=fun hv=>by
  rw[h5.cell (k:=1) rfl];exact hv
 have rb0:∀ {v:Value},(zu b)[0]?=some v->w5.cell? (Addr.mk n4 0 none)=some v:=fun hv=>by
  rw[h5.cell (k:=0) rfl];exact hv
 unfold yt at hk
 have e5:∀ r q,r=(a.kind==2||a.kind==4)->q=(b.kind==3||b.kind==4)->(r&&q&&(a.obj==b.obj))=true\/True->K (.bool (r&&q&&(a.obj==b.obj))) w5->q2G (Addr.mk n4 0 none) (Addr.mk n2 0 none) q r w5 K:=by
  intro r q _ _ _ hk
  rw[qfI]
  cases r
  ·rw[qd,JX];simpa using hk
  ·rw[qm]
   cases q
   ·rw[qd,JX];simpa using hk
   ·rw[qm]
    refine⟨_,ra rfl,_,rb rfl,?_⟩
    rw[JX];simpa using hk
 have e4:∀ r,r=(a.kind==2||a.kind==4)->K (.bool (r&&(b.kind==3||b.kind==4)&&(a.obj==b.obj))) w5->q2H (Addr.mk n4 0 none) (Addr.mk n2 0 none) r w5 K:=by
  intro r hr hk
  rw[qdY]
  refine⟨_,rb0 rfl,?_⟩
  cases h3:(b.kind==3)
  ·rw[qd]
   refine⟨_,rb0 rfl,?_⟩
   refine e5 r _ hr (by simp[h3]) (.inr trivial) ?_
   simpa [h3]using hk
  ·rw[qm]
   refine e5 r true hr (by simp[h3]) (.inr trivial) ?_
   simpa [h3]using hk
 have e3:K (.bool ((a.kind==2||a.kind==4)&&(b.kind==3||b.kind==4)&&(a.obj==b.obj))) w5->q96 (Addr.mk n4 0 none) (Addr.mk n2 0 none) w5 K:=by
  intro hk
  rw[qg9]
  refine⟨_,ra0 rfl,?_⟩
  cases h3:(a.kind==2)
  ·rw[qd]
   refine⟨_,ra0 rfl,?_⟩
   refine e4 _ (by simp[h3]) ?_
   simpa [h3]using hk
  ·rw[qm]
   refine e4 _ (by simp[h3]) ?_
   simpa [h3]using hk
 have e2:∀ r,K (.bool (r||((a.kind==2||a.kind==4)&&(b.kind==3||b.kind==4)&&(a.obj==b.obj)))) w5->VX r (Addr.mk n4 0 none) (Addr.mk n2 0 none) w5 K:=by
  intro r hk
  rw[qeb]
  cases r
  ·rw[qd];exact e3 (by simpa using hk)
  ·rw[qm];simpa using hk
 have e1:K (.bool ((b.kind==6&&(a.th==b.other||(a.kind==5&&a.other==b.other)))||((a.kind==2||a.kind==4)&&(b.kind==3||b.kind==4)&&(a.obj==b.obj)))) w5->q8d (Addr.mk n4 0 none) (Addr.mk n2 0 none) w5 K:=by
  intro hk
  rw[qdK]
  refine⟨_,rb0 rfl,?_⟩
  cases h6:(b.kind==6)
  ·rw[qd];exact e2 _ (by simpa [h6]using hk)
  ·rw[qm]
   refine⟨_,ra rfl,_,rb rfl,?_⟩
   cases h7:(a.th==b.other)
   ·rw[qd]
    refine⟨_,ra0 rfl,?_⟩
    cases h8:(a.kind==5)
    ·rw[qd];exact e2 _ (by simpa [h6,h7,h8]using hk)
    ·rw[qm]
     refine⟨_,ra rfl,_,rb rfl,?_⟩
     exact e2 _ (by simpa [h6,h7,h8]using hk)
   ·rw[qm];exact e2 _ (by simpa [h6,h7]using hk)
 have e0:∀ r,K (.bool (r||((b.kind==6&&(a.th==b.other||(a.kind==5&&a.other==b.other)))||((a.kind==2||a.kind==4)&&(b.kind==3||b.kind==4)&&(a.obj==b.obj))))) w5->q15 r (Addr.mk n4 0 none) (Addr.mk n2 0 none) w5 K:=by
  intro r hk
  rw[qh1]
  cases r
  ·rw[qd];exact e1 (by simpa using hk)
  ·rw[qm];simpa using hk
 refine⟨_,ra rfl,_,rb rfl,?_⟩
 cases h1:(a.th==b.th)
 ·rw[qd]
  refine⟨_,ra0 rfl,?_⟩
  cases h2:(a.kind==5)
  ·rw[qd];exact e0 _ (by simpa [h1,h2]using hk)
  ·rw[qm]
   refine⟨_,ra rfl,_,rb rfl,?_⟩
   exact e0 _ (by simpa [h1,h2]using hk)
 ·rw[qm];exact e0 _ (by simpa [h1]using hk)
end Go.Fx.Tryz
namespace Go.Fx.Tryz
set_option maxRecDepth 100000
open Go Go.Fx Go.Proofs
def c83:=qx Tryz.f83
def qLk:=Tryz.f83.results.toList
abbrev q1C K:=qH P qLk K
def f83 a w K:=CS P c83 none [2] [2] (q1C K) (zh 45 [(Value.agg a)]) w
abbrev qHK K:=kq c83 3 [2] [2] (q1C K)
def q1K a b w K:=SG c83 13 [1] [2] (qHK K) 45 [(20,VB a),(1,VQ b)] w
def qrA a w K:=SG c83 7 [2] [2] (q1C K) 45 [(1,VQ a)] w
abbrev qGi K:=kq c83 7 [2] [2] (q1C K)
def qdA a w K:=SG c83 117 [1] [2] (qGi K) 45 [(2,VB a)] w
theorem q6d:qdA a w K=(K (Value.bool a) w):=kr
def qwU a w K:=SG c83 15 [2] [2] (q1C K) 45 [(1,VQ a)] w
def q8K a w K:=SG c83 31 [2] [2] (q1C K) 45 [(2,VB a)] w
theorem q1z:q8K a w K=(K (Value.bool a) w):=kr
theorem qqf:qwU b w K=(qf 6 b w (fun f=>qa P 50 [(Value.agg f)] w (fun g a=>∃ c:Bool,g=(.bool c)/\qC (!c) (q8K true a K) (∃ d:Int,a.cell? (b.add 5)=some (.int .i64 d)/\qC (decide (d>=0)) (∃ e:Int,a.cell? (b.add 5)=some (.int .i64 e)/\q8K (decide (e<=65536)) a K) (q8K false a K))))):=kr
theorem qpT:qrA a w K=(∃ b:Int,w.cell? a=some (.int .i64 b)/\qC (b==4) (∃ c:Int,w.cell? (a.add 5)=some (.int .i64 c)/\qC (decide (c>=1)) (∃ d:Int,w.cell? (a.add 5)=some (.int .i64 d)/\qdA (decide (d<=16)) w K) (qdA false w K)) (qwU a w K)):=kr
theorem q6b:q1K a b w K=(qC a (K (Value.bool false) w) (qrA b w K)):=kr
theorem qH3:f83 c w K=(qt c 45 w (fun a b=>∃ d:Int,b.cell? (Addr.mk a 0 none)=some (.int .i64 d)/\qC (decide (d<1)) (q1K true (Addr.mk a 0 none) b K) (∃ e:Int,b.cell? (Addr.mk a 0 none)=some (.int .i64 e)/\qC (decide (e > 24)) (q1K true (Addr.mk a 0 none) b K) (∃ f:Int,b.cell? ((Addr.mk a 0 none).add 1)=some (.int .i64 f)/\qC (decide (f<0)) (q1K true (Addr.mk a 0 none) b K) (∃ g:Int,b.cell? ((Addr.mk a 0 none).add 1)=some (.int .i64 g)/\q1K (decide (g>=8)) (Addr.mk a 0 none) b K))))):=kr
theorem qIy a w K(h:f83 a w K):qa P 83 [(Value.agg a)] w K:=zj c83 Tryz.func83 h
def c84:=qx Tryz.f84
def qLG:=Tryz.f84.results.toList
abbrev Qm K:=qH P qLG K
def f84 a w K:=CS P c84 none [2] [2] (Qm K) (zh 38 [(Value.agg a)]) w
def qyF a w K:=SC c84 1 [2] [2] (Qm K) 38 [(0,Value.agg a)] w
abbrev qJH K:=kq c84 1 [2] [2] (Qm K)
def qxG a b c d e w K:=SC c84 3 [2] [2] (Qm K) 38 [(2,VS a b c),(1,VQ d),(0,Value.agg e)] w
abbrev qGL K:=kq c84 3 [2] [2] (Qm K)
def qx3 a b c d e f g h i j k w K:=SC c84 7 [2] [2] (Qm K) 38 [(3,VS a b c),(6,VS d e f),(2,VS g h i),(1,VQ j),(0,Value.agg k)] w
abbrev q5c K:=kq c84 7 [2] [2] (Qm K)
abbrev qHX K:=kq c84 14 [3] [2] (q5c K)
def qt1 a b c d e f g h i j k l w K:=SC c84 29 [3] [2] (q5c K) 38 [(4,VI a),(3,VS b c d),(6,VS e f g),(2,VS h i j),(1,VQ k),(0,Value.agg l)] w
abbrev qft K:=qq 0 (q5c K)
def qAo K Y4 e w:=zJ (fun e w=>CS P (cA c84 116) none [4,3,1,2] [2,3] (qw [4,3,1,2] Y4 (qft K)) e w) e w
abbrev q0B K Y4:=qw [4,3,1,2] Y4 (qft K)
def qjX a b c d f g h i w K Y4:=SG c84 116 [4,3,1,2] [2,3] (q0B K Y4) 38 [(4,VI a),(3,VS b c d),(1,VQ f),(2,VS g h i)] w
abbrev qyb K Y4:=kq c84 116 [4,3,1,2] [2,3] (q0B K Y4)
abbrev qGa K Y4:=kq c84 232 [1,2,4,3] [2,3] (qyb K Y4)
def qrP a b c d f g h i w K Y4:=SG c84 233 [4,3,1,2] [2,3] (q0B K Y4) 38 [(1,VQ a),(2,VS b c d),(4,VI f),(3,VS g h i)] w
abbrev qr4 K Y4:=kq c84 233 [4,3,1,2] [2,3] (q0B K Y4)
abbrev qgn K Y4:=qq 1 (qr4 K Y4)
abbrev qJn K Y4:=kq c84 932 [3,1,2,4] [2,3,1,4] (qgn K Y4)
def q3Z a b c d f g h i j k w K Y4:=SG c84 3731 [3,1,2,4] [2,3,1,4] (qgn K Y4) 38 [(32,VB a),(1,VQ b),(2,VS c d f),(4,VI g),(5,VQ h),(3,VS i j k)] w
def qfS a b c d f g h i w K Y4:=SG c84 467 [4,3,1,2] [2,3] (q0B K Y4) 38 [(3,VS a b c),(1,VQ d),(2,VS f g h),(4,VI i)] w
theorem q6n:qfS a c d e f g h i w K Y4=(Y4 (ql.mk 38 [(4,(Value.int .i64 (IntKind.wrap .i64 (i+1)))),(3,(Value.slice a c d)),(1,(Value.pointer (some e))),(2,(Value.slice f g h))] []) w):=qV kr
theorem q6p:q3Z j a c d e f k g h i w K Y4=(qC j (qf 2 k w (fun l=>qJ 2 [(Value.agg l)]/\qt (([(Value.agg l)].map fun(v:Value)=>v.cells.toList).flatten.toArray) 170 w (fun q r=>∃ (m:OA) (n o:Nat),∃ p:World,(Builtin.append_ #[62,62] 62 #[(Value.slice g h i),(Value.slice (some (Addr.mk q 0 none)) 1 1)]).run P r=.ok (.slice m n o) p/\qfS m n o a c d e f p K Y4))) (qfS g h i a c d e f w K Y4)):=qV kr
theorem qo0:qrP f h i j g c d e w K Y4=(∃ n:Int,w.cell? (f.add 3)=some (.int .u32 n)/\(4:Int)≠0/\∃ o:Array Value,(∀ wq,(Instr.build 170 #[(0,(Value.bool true)),(1,(Value.int .u32 (IntKind.wrap .u32 ((IntKind.wrap .u32 (n+(IntKind.wrap .u32 g))).tdiv 4))))]).run P wq=.ok (.agg o) wq)/\qt (qn P 170) 170 w (fun l t=>qN 2 (Addr.mk l 0 none) o t (fun k=>∃ p:Int,(∀ wq,zZ k.drew wq->(Builtin.len_ #[62] 3 #[(Value.slice c d e)]).run P wq=.ok (.int .i64 p) wq)/\qC (p==0) (q3Z true f h i j g (Addr.mk l 0 none) c d e k.drew K Y4) (∃ m:Int,(∀ wq,zZ k.drew wq->(Builtin.len_ #[62] 3 #[(Value.slice c d e)]).run P wq=.ok (.int .i64 m) wq)/\qi c (fun u=>0<=(IntKind.wrap .i64 (m-1))/\(IntKind.wrap .i64 (m-1))<(d:Nat)/\qf 2 (u.add (Int.toNat (IntKind.wrap .i64 (m-1))*2)) k.drew (fun q=>qf 2 (Addr.mk l 0 none) k.drew (fun r=>∃ s:Bool,(∀ wq,(do eqGuard .neq 170 (.tmp 29) (.tmp 30) (Value.agg q) (Value.agg r);binOp .neq 170 (Value.agg q) (Value.agg r):Sem Value).run P wq=.ok (.bool s) wq)/\q3Z s f h i j g (Addr.mk l 0 none) c d e k.drew K Y4))))))):=qV (qT [3,1,2,4] (qr4 K Y4) (QJ 1 [2,3,1,4] (qgn K Y4) (qT [1,2,4,5,3] (qJn K Y4) kr)))
def qxd a b c w K:=SG c84 15 [2] [2] (Qm K) 38 [(3,VS a b c)] w
abbrev qAL K:=kq c84 15 [2] [2] (Qm K)
theorem qlH:qxd c d e w K=(K (Value.slice c d e) w):=qV (qT [2] (qAL K) kr)
theorem qeq:qjX c d e f g h i j w K Y4=(∃ k:Int,w.cell? (g.add 5)=some (.int .i64 k)/\qC (decide (c<k)) (qrP g h i j c d e f w K Y4) (qxd d e f w K)):=qV (qT [1,2,4,3] (qyb K Y4) (qT [10,1,2,4,3] (qGa K Y4) kr))
theorem qpx:qt1 a c d e j k l f g h i m w K=(za (qAo K) (ql.mk 38 [(4,(Value.int .i64 a)),(3,(Value.slice c d e)),(1,(Value.pointer (some i))),(2,(Value.slice f g h))] []) w):=Eq.trans (b:=CS P (cA c84 29) none [3] [2] (q5c K) (ql.mk 38 [(4,(VI a)),(3,(VS c d e)),(6,(VS j k l)),(2,(VS f g h)),(1,(VP (some i))),(0,(Value.agg m))] []) w) kr (Eq.trans (YD 0 [2,3] (qft K) kr) ((qY (b:=(cA c84 116)) (X':=[2,3]) (H:=[4,3,1,2]) kr kr kr).trans kr))
theorem qmy:qx3 c d e f g h i j k l m w K=(qt1 0 c d e f g h i j k l m w K):=Eq.trans (b:=CS P (cA c84 7) none [2] [2] (Qm K) (ql.mk 38 [(3,(VS c d e)),(6,(VS f g h)),(2,(VS i j k)),(1,(VP (some l))),(0,(Value.agg m))] []) w) kr (Eq.trans (zN [3] (q5c K) kr) (Eq.trans (zN [4,3,1,2] (qHX K) kr) kr))
theorem qnE:qxG c d e f g w K=(∃ (h:OA) (i j:Nat),∃ k:World,(Instr.buildSlice 62 0 ([]:List (Nat × Value)).toArray).run P w=.ok (.slice h i j) k/\qx3 h i j h i j c d e f g k K):=Eq.trans (b:=CS P (cA c84 3) none [2] [2] (Qm K) (ql.mk 38 [(2,(VS c d e)),(1,(VP (some f))),(0,(Value.agg g))] []) w) kr (Eq.trans (zN [3,1,2] (qGL K) kr) kr)
theorem qlK:qyF c w K=(qt c 45 w (fun d e=>qxG none 0 0 (Addr.mk d 0 none) c e K)):=Eq.trans (b:=CS P (cA c84 1) none [2] [2] (Qm K) (ql.mk 38 [(0,(Value.agg c))] []) w) kr (Eq.trans (zN [1,2] (qJH K) kr) kr)
theorem qIw:f84 a w K=(qyF a w K):=kr
theorem qIK a w K(h:f84 a w K):qa P 84 [(Value.agg a)] w K:=zj c84 Tryz.func84 h
def c85:=qx Tryz.f85
def qLj:=Tryz.f85.results.toList
abbrev qgj K:=qH P qLj K
def f85 a b c d e w K:=CS P c85 none [10,11] [10,11] (qgj K) (zh 41 [(Value.agg a),(VI b),(Value.agg c),(Value.agg d),(VI e)]) w
def q78 a b c d f g w K:=SG c85 15 [10,11] [10,11] (qgj K) 41 [(10,VQ a),(5,VQ b),(4,VI c),(12,VI d),(7,VQ f),(1,VI g)] w
def qeX a b c d f g w K:=SG c85 31 [10,11] [10,11] (qgj K) 41 [(10,VQ a),(4,VI b),(12,VI c),(7,VQ d),(1,VI f),(5,VQ g)] w
theorem qp1:qeX a b c d e f w K=(qf 20 f w (fun l=>∃ g:Int,w.cell? (d.add 1)=some (.int .i64 g)/\∃ h:Array Value,(∀ wq,(Instr.build 72 #[(0,(Value.int .i64 e)),(1,(Value.int .i64 g)),(3,(Value.int .i64 c))]).run P wq=.ok (.agg h) wq)/\qa P 86 [(Value.agg l),(Value.agg h),(Value.int .i64 b)] w (fun m n=>∃ i:Array Value,∃ j:Bool,m=(.tuple #[(Value.agg i),(Value.bool j)])/\qN 20 a i n (fun k=>qf 20 a k (fun o=>K (Value.tuple #[(Value.agg o),(Value.bool j)]) k))))):=kr
theorem qo4:q78 a b d c e f w K=(qC (decide (c>=65536)) (qf 20 b w (fun h=>qN 20 a h w (fun g=>qf 20 a g (fun i=>K (Value.tuple #[(Value.agg i),(Value.bool false)]) g)))) (qeX a d c e f b w K)):=kr
theorem qIT:f85 g d h i e w K=(qt g 64 w (fun a d0=>qt h 45 d0 (fun j e0=>qt i 170 e0 (fun k f0=>qt (qn P 64) 64 f0 (fun l f=>∃ (m:OA) (n o:Nat),f.cell? ((Addr.mk a 0 none).add 2)=some (.slice m n o)/\qf 2 (Addr.mk k 0 none) f (fun g0=>qa P 100 [(Value.slice m n o),(Value.agg g0)] f (fun h0 b=>∃ c:Int,h0=(.int .i64 c)/\∃ (p:OA) (q r:Nat),b.cell? ((Addr.mk a 0 none).add 2)=some (.slice p q r)/\∃ s:Int,(∀ wq,zZ b wq->(Builtin.len_ #[62] 3 #[(Value.slice p q r)]).run P wq=.ok (.int .i64 s) wq)/\qC (c==s) (∃ (t:OA) (u x:Nat),b.cell? ((Addr.mk a 0 none).add 2)=some (.slice t u x)/\qf 2 (Addr.mk k 0 none) b (fun y=>qJ 2 [(Value.agg y)]/\qt (([(Value.agg y)].map fun(v:Value)=>v.cells.toList).flatten.toArray) 170 b (fun i0 j0=>∃ (z:OA) (a0 b0:Nat),∃ c0:World,(Builtin.append_ #[62,62] 62 #[(Value.slice t u x),(Value.slice (some (Addr.mk i0 0 none)) 1 1)]).run P j0=.ok (.slice z a0 b0) c0/\zG ((Addr.mk a 0 none).add 2) (Value.slice z a0 b0) c0 (fun l0=>q78 (Addr.mk l 0 none) (Addr.mk a 0 none) e c (Addr.mk j 0 none) d l0 K)))) (q78 (Addr.mk l 0 none) (Addr.mk a 0 none) e c (Addr.mk j 0 none) d b K)))))))):=kr
theorem qFh a b c d e w K(h:f85 a b c d e w K):qa P 85 [(Value.agg a),(Value.int .i64 b),(Value.agg c),(Value.agg d),(Value.int .i64 e)] w K:=zj c85 Tryz.func85 h
end Go.Fx.Tryz
namespace Go.Fx.Mo
structure RR where
 L:List vH
 of:List Int
 objs:List Ob
 begun:List Bool
 ended:List Bool
 deriving DecidableEq,Inhabited
def rr0:RR:=⟨[],[],[],true::List.replicate 7 false,List.replicate 8 false⟩
def vL(e:Ev):Bool:=
 if e.kind<1\/e.kind > 24\/e.th<0\/e.th>=8 then false else
 if e.kind=4 then decide (e.n>=1)&&decide (e.n<=16)else !acs e||(decide (e.n>=0)&&decide (e.n<=65536))
def yg(r:RR)(o:vH):Bool:=
 !zb r.begun o.th||zb r.ended o.th ||
 ((o.kind==5||o.kind==6)&&(decide (o.other<0)||decide (o.other>=8) ||
   ((o.kind==5&&zb r.begun o.other)||(o.kind==6&&(!zb r.begun o.other||zb r.ended o.other||o.other==o.th)))))
def vE(r:RR)(o:vH)(i:Int):Option RR:=
 if yg r o then none else
 some { L:=r.L++[o],of:=r.of++[i],objs:=r.objs,
        begun:=if o.kind=5 then r.begun.set o.other.toNat true else r.begun,ended:=if o.kind=6 then r.ended.set o.other.toNat true else r.ended }
def zL(l:List Ob)(x:Ob):Nat:=l.idxOf x
def come(r:RR)(x:Ob):RR:=if zL r.objs x=r.objs.length then { r with objs:=r.objs++[x] }else r
def ya(r:RR)(kind:Int)(e:Ev)(x:Ob)(i:Int):Option RR:=
 if zL r.objs x>=65536 then none else vE (come r x) ⟨kind,e.th,0,zL r.objs x⟩ i
end Go.Fx.Mo
namespace Go.Fx.Tryz
open Go Go.Fx Go.Fx.Mo
open Go.Proofs
variable {w0 w:World} {H:qP} {K:KT}
set_option maxRecDepth 20000
def vX(l:List Ob):List Value:=(l.map qR).flatten
theorem q7g{l:List Ob}{i:Nat}(hi:i<l.length):((vX l).drop (i*2)).take 2=qR l[i]:=yD (f:=qR) (fun x _=>rfl) hi
theorem q2d : P.fieldsOf 170 = #[{ name := "Word", type := 4, offset := 0, embedded := false, tag := "", pkgPath := "", byteOffset := 0 }, { name := "At", type := 43, offset := 1, embedded := false, tag := "", pkgPath := "", byteOffset := 4 }] := by kernel_rfl
theorem qE8(w:World)(x y:Ob):(Op.equal 170 (.agg (qR x).toArray) (.agg (qR y).toArray)).run P w=.ok (decide (x=y)) w:=by
 obtain⟨a,x⟩:=x
 obtain⟨b,y⟩:=y
 unfold Op.equal
 have h4:∀ d,(Op.equalIn (d+1) 4 (.bool a) (.bool b)).run P w=.ok (a==b) w:=fun d=>by simp[Op.equalIn,run_underlying Tryz.underlying4]
 have h33:∀ d,(Op.equalIn (d+1) 43 (.int .u32 x) (.int .u32 y)).run P w=.ok (x==y) w:=fun d=>by simp[Op.equalIn,run_underlying Tryz.underlying43]
 have hm:∃ d,Op.maxDepth=d+2:=⟨_,rfl⟩
 obtain⟨d,hd⟩:=hm
 rw[hd,run_equalIn_struct w (d+1) 170 _ _ (by rw[q2d];exact Tryz.underlying170) Tryz.stoodInHeld170,q2d]
 have p0:∀ (a:Bool) (x:Int),(part 4 #[.bool a,.int .u32 x] 0).run P w=.ok (.bool a) w:=fun a x=>by kernel_rfl
 have p1:∀ (a:Bool) (x:Int),(part 43 #[.bool a,.int .u32 x] 1).run P w=.ok (.int .u32 x) w:=fun a x=>by kernel_rfl
 simp[Op.eqFields,qR,p0,p1,h4,h33]
 by_cases hxy:x=y<;>cases a<;>cases b<;>simp[hxy]
theorem qCl(s t:Nat)(w:World)(x y:Ob):(do eqGuard .eql 170 (.tmp s) (.tmp t) (.agg (qR x).toArray) (.agg (qR y).toArray);binOp .eql 170 (.agg (qR x).toArray) (.agg (qR y).toArray):Sem Value).run P w=.ok (.bool (decide (x=y))) w:=by
 simp[eqGuard,binOp,qE8,Tryz.eqGuardType170]
theorem qBf(s t:Nat)(w:World)(x y:Ob):(do eqGuard .neq 170 (.tmp s) (.tmp t) (.agg (qR x).toArray) (.agg (qR y).toArray);binOp .neq 170 (.agg (qR x).toArray) (.agg (qR y).toArray):Sem Value).run P w=.ok (.bool (!decide (x=y))) w:=by
 simp[eqGuard,binOp,qE8,Tryz.eqGuardType170]
theorem jj{p:Option Addr}{l c:Nat}(wq:World):(Builtin.len_ #[62] 3 [Value.slice p l c].toArray).run P wq=.ok (.int .i64 l) wq:=qZ p l c Tryz.underlying62 3
theorem qvr{l:List Ob}{i:Nat}{x:Ob}(hi:i<l.length)(hn:∀ j,(hj:j<i)->l[j]≠x)(he:l[i]=x):l.idxOf x=i:=by
 unfold List.idxOf
 exact(List.findIdx_eq hi).2 ⟨by simp[he],fun j hj=>by simpa using hn j hj⟩
theorem qBW{l:List Ob}{ov:Value}(x:Ob)(h:St w0 w H)(hrow:∀ w',St w0 w' H->Qt w' 2 ov l.length (vX l))(hl63:l.length<9223372036854775807)
  (hK:∀ w',St w0 w' H->K (.int .i64 (zL l x:Nat)) w'):qa P 100 [ov,.agg (qR x).toArray] w K:=by
 obtain⟨sa,sc,hov⟩:=(hrow w h).form
 rw[hov]
 refine qBS _ _ _ _ _ _ ?_
 rw[qAH]
 refine h.newC fun n2 w3 hn2 h3=>?_
 refine⟨fun m ee w=>∃ (i:Nat),i<=l.length/\m=l.length-i/\ee=ql.mk 21 [(0,(Value.slice sa l.length sc)),(5,(Value.int .i64 i)),(3,(Value.pointer (some (Addr.mk n2 0 none)))),(4,(Value.int .i64 0))] []/\(∀ j,(hj:j<i)->(hjl:j<l.length)->l[j]≠x)/\St w0 w ((n2,Cs (qR x) 170)::H),
  ⟨l.length,0,by omega,rfl,rfl,fun j hj=>by omega,h3⟩,?_⟩
 rintro m ee w ⟨i,hi,rfl,rfl,hn,hw⟩
 show qbp ..
 rw[qc9]
 refine⟨l.length,fun wq _=>jj wq,?_⟩
 rw[qg]
 constructor
 ·intro hlt
  have hlt:i<l.length:=by simpa using hlt
  rw[qgR]
  have hd:=hw.drew
  obtain⟨a,c,hac,hld⟩:=(hrow _ (hd.tail hn2)).ldA hlt
  rw[hov]at hac
  obtain⟨hsa,-⟩:sa=some a/\sc=c:=by simpa using hac
  subst hsa
  refine⟨by omega,by omega,hld _ ?_⟩
  rw[q7g hlt]
  refine hd.ldA (k:=0) (i:=0) rfl (by simp[qR]) ?_
  rw[show((qR x).drop 0).take 2=qR x from rfl]
  refine⟨_,fun wq=>qCl 15 16 wq l[i] x,?_⟩
  by_cases he:l[i]=x
  ·rw[decide_eq_true he,qm]
   have:=hK _ (hd.tail hn2)
   rw[show zL l x=i from qvr hlt (fun j hj=>hn j hj om) he]at this
   exact this
  ·rw[decide_eq_false he,qd,qhC]
   refine⟨l.length-(i+1),by omega,i+1,by omega,rfl,?_,fun j hj hjl=>?_,hd⟩
   ·rw[qk om om];rfl
   ·rcases Nat.lt_or_ge j i with h | h
    ·exact hn j h hjl
    ·have:j=i:=by omega
     subst this;exact he
 ·intro hge
  have hge:l.length<=i:=by simpa using hge
  rw[qg6]
  refine⟨l.length,fun wq _=>jj wq,?_⟩
  have hni:x ∉ l:=by
   intro hx
   obtain⟨j,hj,he⟩:=List.getElem_of_mem hx
   exact hn j om hj he
  have:=hK w (hw.tail hn2)
  rw[show zL l x=l.length from List.idxOf_eq_length hni]at this
  exact this
theorem qnU(h:St w0 w H)(e:Ev)(hK:∀ w',St w0 w' H->K (.bool (vL e)) w'):qa P 83 [.agg (qE e).toArray] w K:=by
 refine qIy _ _ _ ?_
 rw[qH3]
 refine h.newC fun n1 w1 hn1 h1=>?_
 have rd:∀ {w':World} {j:Nat} {v:Value},St w0 w' ((n1,Cs (qE e) 45)::H)->(qE e)[j]?=some v->w'.cell? ((Addr.mk n1 0 none).add j)=some v:=fun h' hv=>by
  rw[qc,Nat.zero_add,h'.cell (k:=0) rfl];exact hv
 have rd0:∀ {w':World} {v:Value},St w0 w' ((n1,Cs (qE e) 45)::H)->(qE e)[0]?=some v->w'.cell? (Addr.mk n1 0 none)=some v:=fun h' hv=>by
  rw[h'.cell (k:=0) rfl];exact hv
 have hk:∀ w',St w0 w' ((n1,Cs (qE e) 45)::H)->K (.bool (vL e)) w':=fun w' h'=>hK w' (h'.tail hn1)
 have out:e.kind<1\/e.kind > 24\/e.th<0\/e.th>=8->q1K true (Addr.mk n1 0 none) w1 K:=by
  intro ho
  rw[q6b,qm]
  have:=hk w1 h1
  unfold vL at this
  rw[if_pos ho]at this
  exact this
 refine⟨e.kind,rd0 h1 rfl,?_⟩
 rw[qg]
 refine⟨fun hb=>out (.inl (by simpa using hb)),fun hb1=>⟨e.kind,rd0 h1 rfl,?_⟩⟩
 rw[qg]
 refine⟨fun hb=>out (.inr (.inl (by simpa using hb))),fun hb2=>⟨e.th,rd h1 rfl,?_⟩⟩
 rw[qg]
 refine⟨fun hb=>out (.inr (.inr (.inl (by simpa using hb)))),fun hb3=>⟨e.th,rd h1 rfl,?_⟩⟩
 cases hb4:decide (e.th>=8)
 ·have hin:¬ (e.kind<1\/e.kind > 24\/e.th<0\/e.th>=8):=by simp at hb1 hb2 hb3 hb4;omega
  rw[q6b,qd,qpT]
  refine⟨e.kind,rd0 h1 rfl,?_⟩
  unfold vL at hk
  simp only[if_neg hin]at hk
  cases h4:(e.kind==4)
  ·rw[qd,qqf]
   have h4:¬ e.kind=4:=by simpa using h4
   simp only[if_neg h4]at hk
   refine h1.ldA (k:=0) (i:=0) rfl (by simp[qu]) ?_
   refine q9n h1 e fun w2 h2=>⟨_,rfl,?_⟩
   cases ha:acs e
   ·rw[Bool.not_false,qm,q1z]
    simpa [ha]using hk w2 h2
   ·rw[Bool.not_true,qd]
    refine⟨e.n,rd h2 rfl,?_⟩
    cases h5:decide (e.n>=0)
    ·rw[qd,q1z]
     have:=hk w2 h2
     rw[ha,h5]at this
     exact this
    ·rw[qm]
     refine⟨e.n,rd h2 rfl,?_⟩
     rw[q1z]
     have:=hk w2 h2
     rw[ha,h5]at this
     exact this
  ·rw[qm]
   have h4:e.kind=4:=by simpa using h4
   simp only[if_pos h4]at hk
   refine⟨e.n,rd h1 rfl,?_⟩
   cases h5:decide (e.n>=1)
   ·rw[qd,q6d]
    have:=hk w1 h1
    rw[h5]at this
    exact this
   ·rw[qm]
    refine⟨e.n,rd h1 rfl,?_⟩
    rw[q6d]
    have:=hk w1 h1
    rw[h5]at this
    exact this
 ·exact out (.inr (.inr (.inr (by simpa using hb4))))
end Go.Fx.Tryz
namespace Go.Fx.Tryz
set_option maxRecDepth 100000
open Go Go.Fx Go.Proofs
def c86:=qx Tryz.f86
def qLT:=Tryz.f86.results.toList
abbrev q1y K:=qH P qLT K
def f86 a b c w K:=CS P c86 none [6,7] [6,7] (q1y K) (zh 101 [(Value.agg a),(Value.agg b),(VI c)]) w
abbrev qJ6 K:=kq c86 3 [6,7] [6,7] (q1y K)
def qgP a b c d f w K:=SG c86 13 [6,3,2,4] [6,7] (qJ6 K) 101 [(22,VB a),(6,VQ b),(3,VQ c),(2,VI d),(4,VQ f)] w
def qyG a b c d w K:=SG c86 7 [6,7] [6,7] (q1y K) 101 [(6,VQ a),(3,VQ b),(2,VI c),(4,VQ d)] w
abbrev YL K:=kq c86 7 [6,7] [6,7] (q1y K)
abbrev qGg K:=kq c86 14 [6,3,2,4] [6,7] (YL K)
def q7k a b c d f w K:=SG c86 29 [6,3,2,4] [6,7] (YL K) 101 [(31,VB a),(6,VQ b),(3,VQ c),(2,VI d),(4,VQ f)] w
abbrev qIC K:=kq c86 58 [6,3,2,4] [6,7] (YL K)
def qh0 a b c d f w K:=SG c86 233 [6,3,2,4] [6,7] (qIC K) 101 [(39,VB a),(6,VQ b),(3,VQ c),(2,VI d),(4,VQ f)] w
def qvI a b c d w K:=SG c86 117 [6,3,2,4] [6,7] (YL K) 101 [(6,VQ a),(3,VQ b),(2,VI c),(4,VQ d)] w
abbrev qII K:=kq c86 117 [6,3,2,4] [6,7] (YL K)
abbrev qD7 K:=kq c86 235 [6,3,2,4] [6,7] (YL K)
def jd a b c d f w K:=SG c86 941 [6,3,2,4] [6,7] (qD7 K) 101 [(75,VB a),(6,VQ b),(3,VQ c),(2,VI d),(4,VQ f)] w
def qeI a b c d w K:=SG c86 471 [6,3,2,4] [6,7] (YL K) 101 [(6,VQ a),(3,VQ b),(2,VI c),(4,VQ d)] w
abbrev qD3 K:=kq c86 471 [6,3,2,4] [6,7] (YL K)
def q4Q a b c d w K:=SG c86 15 [6,7] [6,7] (q1y K) 101 [(6,VQ a),(3,VQ b),(2,VI c),(4,VQ d)] w
abbrev qzV K:=kq c86 15 [6,7] [6,7] (q1y K)
theorem qpU:q4Q d c e f w K=(∃ (g:OA) (h i:Nat),w.cell? c=some (.slice g h i)/\qf 4 f w (fun j=>qJ 4 [(Value.agg j)]/\qt (([(Value.agg j)].map fun(v:Value)=>v.cells.toList).flatten.toArray) 72 w (fun a0 b0=>∃ (k:OA) (l m:Nat),∃ n:World,(Builtin.append_ #[60,60] 60 #[(Value.slice g h i),(Value.slice (some (Addr.mk a0 0 none)) 1 1)]).run P b0=.ok (.slice k l m) n/\zG c (Value.slice k l m) n (fun o=>∃ (p:OA) (q r:Nat),o.cell? (c.add 1)=some (.slice p q r)/\qJ 1 [(Value.int .i64 e)]/\qt (([(Value.int .i64 e)].map fun(v:Value)=>v.cells.toList).flatten.toArray) 3 o (fun c0 d0=>∃ (s:OA) (t u:Nat),∃ x:World,(Builtin.append_ #[61,61] 61 #[(Value.slice p q r),(Value.slice (some (Addr.mk c0 0 none)) 1 1)]).run P d0=.ok (.slice s t u) x/\zG (c.add 1) (Value.slice s t u) x (fun y=>qf 20 c y (fun e0=>qN 20 d e0 y (fun z=>qf 20 d z (fun f0=>K (Value.tuple #[(Value.agg f0),(Value.bool true)]) z))))))))):=qV (qT [6,3,2] (qzV K) kr)
theorem qoB:qeI e d f c w K=(∃ i:Int,w.cell? c=some (.int .i64 i)/\qC (i==5) (∃ g:Int,w.cell? (c.add 2)=some (.int .i64 g)/\0<=g/\g<(8:Nat)/\zG ((d.add 3).add (Int.toNat g*1)) (Value.bool true) w (fun j=>q4Q e d f c j K)) (∃ h:Int,w.cell? (c.add 2)=some (.int .i64 h)/\0<=h/\h<(8:Nat)/\zG ((d.add 11).add (Int.toNat h*1)) (Value.bool true) w (fun k=>q4Q e d f c k K))):=qV (qT [79,6,3,2,4] (qD3 K) kr)
theorem qlU:jd d a c e f w K=(qC d (qf 20 c w (fun h=>qN 20 a h w (fun g=>qf 20 a g (fun i=>K (Value.tuple #[(Value.agg i),(Value.bool false)]) g)))) (qeI a c e f w K)):=qV kr
theorem qoZ:qvI e d f c w K=(∃ g:Int,w.drew.cell? (c.add 2)=some (.int .i64 g)/\0<=g/\g<(8:Nat)/\∃ h:Bool,w.drew.cell? ((d.add 3).add (Int.toNat g*1))=some (.bool h)/\∃ i:Int,w.drew.cell? (c.add 2)=some (.int .i64 i)/\0<=i/\i<(8:Nat)/\∃ j:Bool,w.drew.cell? ((d.add 11).add (Int.toNat i*1))=some (.bool j)/\∃ k:Int,w.drew.cell? c=some (.int .i64 k)/\qC (k==5) (qC h (jd true e d f c w.drew K) (∃ l:Int,w.drew.cell? c=some (.int .i64 l)/\qC (l==6) (qC (!h) (jd true e d f c w.drew K) (qC j (jd true e d f c w.drew K) (∃ m:Int,w.drew.cell? (c.add 2)=some (.int .i64 m)/\∃ n:Int,w.drew.cell? (c.add 1)=some (.int .i64 n)/\jd (m==n) e d f c w.drew K))) (jd false e d f c w.drew K))) (∃ o:Int,w.drew.cell? c=some (.int .i64 o)/\qC (o==6) (qC (!h) (jd true e d f c w.drew K) (qC j (jd true e d f c w.drew K) (∃ p:Int,w.drew.cell? (c.add 2)=some (.int .i64 p)/\∃ q:Int,w.drew.cell? (c.add 1)=some (.int .i64 q)/\jd (p==q) e d f c w.drew K))) (jd false e d f c w.drew K))):=qV (qT [6,3,2,4,9,8] (qII K) kr)
theorem q6M:qh0 d a c e f w K=(qC d (qf 20 c w (fun h=>qN 20 a h w (fun g=>qf 20 a g (fun i=>K (Value.tuple #[(Value.agg i),(Value.bool false)]) g)))) (qvI a c e f w K)):=qV kr
theorem qqw:q7k f c d e a w K=(qC f (∃ g:Int,w.cell? (a.add 2)=some (.int .i64 g)/\qC (decide (g<0)) (qh0 true c d e a w K) (∃ h:Int,w.cell? (a.add 2)=some (.int .i64 h)/\qh0 (decide (h>=8)) c d e a w K)) (q4Q c d e a w K)):=qV kr
theorem qnC:qyG d e f c w K=(∃ g:Int,w.cell? c=some (.int .i64 g)/\qC (g==5) (q7k true d e f c w K) (∃ h:Int,w.cell? c=some (.int .i64 h)/\q7k (h==6) d e f c w K)):=qV (qT [6,3,2,4] (YL K) (qT [31,6,3,2,4] (qGg K) kr))
theorem q6k:qgP d a c e f w K=(qC d (qf 20 c w (fun h=>qN 20 a h w (fun g=>qf 20 a g (fun i=>K (Value.tuple #[(Value.agg i),(Value.bool false)]) g)))) (qyG a c e f w K)):=qV kr
theorem qEv:f86 g h f w K=(qt g 64 w (fun b l=>qt h 72 l (fun c m=>qt (qn P 64) 64 m (fun i a=>∃ d:Int,a.cell? ((Addr.mk c 0 none).add 1)=some (.int .i64 d)/\0<=d/\d<(8:Nat)/\∃ j:Bool,a.cell? (((Addr.mk b 0 none).add 3).add (Int.toNat d*1))=some (.bool j)/\qC (!j) (qgP true (Addr.mk i 0 none) (Addr.mk b 0 none) f (Addr.mk c 0 none) a K) (∃ e:Int,a.cell? ((Addr.mk c 0 none).add 1)=some (.int .i64 e)/\0<=e/\e<(8:Nat)/\∃ k:Bool,a.cell? (((Addr.mk b 0 none).add 11).add (Int.toNat e*1))=some (.bool k)/\qgP k (Addr.mk i 0 none) (Addr.mk b 0 none) f (Addr.mk c 0 none) a K))))):=kr
theorem qFi a b c w K(h:f86 a b c w K):qa P 86 [(Value.agg a),(Value.agg b),(Value.int .i64 c)] w K:=zj c86 Tryz.func86 h
def Yh:=qx Tryz.f58
def qLI:=Tryz.f58.results.toList
abbrev QX K:=qH P qLI K
def f58 a b c w K:=CS P Yh none [6,7] [6,7] (QX K) (zh 98 [(Value.agg a),(Value.agg b),(VI c)]) w
def qu6 a b c w K:=SC Yh 1 [6,7] [6,7] (QX K) 98 [(0,Value.agg a),(1,Value.agg b),(2,VI c)] w
abbrev qGt K:=kq Yh 1 [6,7] [6,7] (QX K)
def qy2 a b c d e f w K:=SC Yh 3 [6,7] [6,7] (QX K) 98 [(7,VB false),(6,VQ a),(4,VQ b),(3,VQ c),(0,Value.agg d),(1,Value.agg e),(2,VI f)] w
abbrev qzd K:=kq Yh 3 [6,7] [6,7] (QX K)
abbrev qJ3 K:=kq Yh 6 [6,2,4,3,7] [6,7] (qzd K)
def qs7 a b c d f w K:=SG Yh 7 [6,7] [6,7] (QX K) 98 [(6,VQ a),(2,VI b),(4,VQ c),(3,VQ d),(7,VB f)] w
abbrev q4N K:=kq Yh 7 [6,7] [6,7] (QX K)
abbrev qG6 K:=kq Yh 14 [6,2,4,3] [6,7] (q4N K)
def qth a b c d e f g w K:=SC Yh 29 [6,2,4,3] [6,7] (q4N K) 98 [(17,VI a),(16,VQ b),(6,VQ c),(2,VI d),(4,VQ e),(3,VQ f),(7,VB g)] w
abbrev ZA K:=qq 0 (q4N K)
abbrev qI6 K:=kq Yh 58 [6,2,4,3] [6,7,2,4,3] (ZA K)
def qyX a b c d e f g h i w K:=SC Yh 234 [6,2,4,3] [6,7,2,4,3] (ZA K) 98 [(18,VB true),(18,VB a),(19,VB b),(17,VI c),(16,VQ d),(6,VQ e),(2,VI f),(4,VQ g),(3,VQ h),(7,VB i)] w
abbrev qFu K:=kq Yh 234 [6,2,4,3] [6,7,2,4,3] (ZA K)
def qtn a b c d e f g h i j k l m n o p w K:=SC Yh 469 [6,2,4,3] [6,7,2,4,3] (ZA K) 98 [(8,VS a b c),(21,VS d e f),(20,Value.agg g),(18,VB true),(18,VB h),(19,VB i),(17,VI j),(16,VQ k),(6,VQ l),(2,VI m),(4,VQ n),(3,VQ o),(7,VB p)] w
abbrev q4e K:=kq Yh 469 [6,2,4,3] [6,7,2,4,3] (ZA K)
abbrev qAB K:=kq Yh 938 [6,2,4,3] [6,7,2,4,3] (q4e K)
def qrj a b c d e f g h i j k l m n o p q w K:=SC Yh 1877 [6,2,4,3] [6,7,2,4,3] (q4e K) 98 [(9,VI a),(8,VS b c d),(21,VS e f g),(20,Value.agg h),(18,VB true),(18,VB i),(19,VB j),(17,VI k),(16,VQ l),(6,VQ m),(2,VI n),(4,VQ o),(3,VQ p),(7,VB q)] w
abbrev q7L K:=qq 1 (q4e K)
def qjY K Y7 e w:=zJ (fun e w=>CS P (cA Yh 7508) none [6,2,4,3,9,8,7] [6,7,2,4,3] (qw [6,2,4,3,9,8,7] Y7 (q7L K)) e w) e w
abbrev q1o K Y7:=qw [6,2,4,3,9,8,7] Y7 (q7L K)
def qiJ a b c d f g h i j w K Y7:=SG Yh 7508 [6,2,4,3,9,8,7] [6,7,2,4,3] (q1o K Y7) 98 [(6,VQ a),(2,VI b),(4,VQ c),(3,VQ d),(9,VI f),(8,VS g h i),(7,VB j)] w
abbrev qj9 K Y7:=kq Yh 7508 [6,2,4,3,9,8,7] [6,7,2,4,3] (q1o K Y7)
abbrev qBD K Y7:=kq Yh 15016 [6,2,4,3,8,9,7] [6,7,2,4,3] (qj9 K Y7)
def quH a b c d f g h i j w K Y7:=SG Yh 15017 [6,2,4,3,9,8,7] [6,7,2,4,3] (q1o K Y7) 98 [(6,VQ a),(2,VI b),(4,VQ c),(3,VQ d),(8,VS f g h),(9,VI i),(7,VB j)] w
abbrev qj6 K Y7:=kq Yh 15017 [6,2,4,3,9,8,7] [6,7,2,4,3] (q1o K Y7)
abbrev q0M K Y7:=qq 2 (qj6 K Y7)
abbrev qCq K Y7:=kq Yh 60068 [6,2,4,3,8,7,9] [6,7,2,4,3,8,9] (q0M K Y7)
def q5a a b c d f g h i j k l w K Y7:=SG Yh 120137 [6,2,4,3,8,7,9] [6,7,2,4,3,8,9] (q0M K Y7) 98 [(6,VQ a),(2,VI b),(4,VQ c),(3,VQ d),(8,VS f g h),(9,VI i),(7,VB j),(10,VQ k),(11,VB l)] w
abbrev qkY K Y7:=kq Yh 120137 [6,2,4,3,8,7,9] [6,7,2,4,3,8,9] (q0M K Y7)
abbrev qCy K Y7:=kq Yh 240274 [6,2,4,3,8,7,9,10] [6,7,2,4,3,8,9] (qkY K Y7)
def qkQ a b c d f g h i j k w K Y7:=SG Yh 240275 [6,2,4,3,8,7,9] [6,7,2,4,3,8,9] (q0M K Y7) 98 [(6,VQ a),(2,VI b),(4,VQ c),(3,VQ d),(8,VS f g h),(7,VB i),(9,VI j),(10,VQ k)] w
def qjD a b c d f g h i j w K Y7:=SG Yh 30035 [6,2,4,3,9,8,7] [6,7,2,4,3] (q1o K Y7) 98 [(6,VQ a),(2,VI b),(4,VQ c),(3,VQ d),(8,VS f g h),(7,VB i),(9,VI j)] w
theorem qeg:qjD a c d e f g h i j w K Y7=(Y7 (ql.mk 98 [(6,(Value.pointer (some a))),(2,(Value.int .i64 c)),(4,(Value.pointer (some d))),(3,(Value.pointer (some e))),(9,(Value.int .i64 (IntKind.wrap .i64 (j+1)))),(8,(Value.slice f g h)),(7,(Value.bool i))] []) w):=qV kr
theorem qfh:qkQ c d e a f g h i j k w K Y7=(qf 20 k w (fun l=>qN 20 a l w (fun m=>qjD c d e a f g h i j m K Y7))):=qV kr
theorem q6P:q5a c e f d g h i j k l m w K Y7=(qC (!m) (qf 20 d w (fun o=>qN 20 c o w (fun n=>qf 20 c n (fun p=>K (Value.tuple #[(Value.agg p),(Value.bool false)]) n)))) (qkQ c e f d g h i k j l w K Y7)):=qV (qT [6,2,4,3,8,7,9,10] (qkY K Y7) (qT [40,6,2,4,3,8,9,7,10] (qCy K Y7) kr))
theorem qnn:quH i d e f g h j c k w K Y7=(qi g (fun u=>0<=c/\c<(h:Nat)/\qf 20 f w.drew (fun l=>qf 6 e w.drew (fun m=>qf 2 (u.add (Int.toNat c*2)) w.drew (fun n=>(qa P 85 [(Value.agg l),(Value.int .i64 4),(Value.agg m),(Value.agg n),(Value.int .i64 d)] w.drew (fun v x=>∃ o:Array Value,∃ p:Bool,v=(.tuple #[(Value.agg o),(Value.bool p)])/\qt (qn P 64) 64 x (fun q y=>qN 20 (Addr.mk q 0 none) o y (fun z=>q5a i d e f g h j c k (Addr.mk q 0 none) p z K Y7))))/\(qt (qn P 64) 64 w.drew (fun r a0=>qa P 85 [(Value.agg l),(Value.int .i64 4),(Value.agg m),(Value.agg n),(Value.int .i64 d)] a0 (fun b0 c0=>∃ s:Array Value,∃ t:Bool,b0=(.tuple #[(Value.agg s),(Value.bool t)])/\qN 20 (Addr.mk r 0 none) s c0 (fun d0=>q5a i d e f g h j c k (Addr.mk r 0 none) t d0 K Y7))))))))):=qV (qT [6,2,4,3,8,7,9] (qj6 K Y7) (QJ 2 [6,7,2,4,3,8,9] (q0M K Y7) (qT [6,2,4,3,8,9,7,10,11] (qCq K Y7) kr)))
def qiy a b c d w K:=SG Yh 939 [6,2,4,3] [6,7,2,4,3] (ZA K) 98 [(6,VQ a),(2,VI b),(4,VQ c),(3,VQ d)] w
abbrev qBL K:=kq Yh 939 [6,2,4,3] [6,7,2,4,3] (ZA K)
theorem qdt:qiy c e f d w K=(qf 20 d w (fun h=>qN 20 c h w (fun g=>qf 20 c g (fun i=>K (Value.tuple #[(Value.agg i),(Value.bool true)]) g)))):=qV (qT [6,7,2,4,3] (qBL K) kr)
theorem qeC:qiJ c d e f g h i j k w K Y7=(∃ l:Int,(∀ wq,zZ w wq->(Builtin.len_ #[62] 3 #[(Value.slice h i j)]).run P wq=.ok (.int .i64 l) wq)/\qC (decide (g<l)) (quH c d e f h i j g k w K Y7) (qiy c d e f w K)):=qV (qT [6,2,4,3,8,9,7] (qj9 K Y7) (qT [25,6,2,4,3,8,9,7] (qBD K Y7) kr))
theorem qqq:qrj a c d e k l m n o p q r f g h i j w K=(za (qjY K) (ql.mk 98 [(6,(Value.pointer (some f))),(2,(Value.int .i64 g)),(4,(Value.pointer (some h))),(3,(Value.pointer (some i))),(9,(Value.int .i64 a)),(8,(Value.slice c d e)),(7,(Value.bool j))] []) w):=Eq.trans (b:=CS P (cA Yh 1877) none [6,2,4,3] [6,7,2,4,3] (q4e K) (ql.mk 98 [(9,(VI a)),(8,(VS c d e)),(21,(VS k l m)),(20,(Value.agg n)),(18,(VB true)),(18,(VB o)),(19,(VB p)),(17,(VI q)),(16,(VP (some r))),(6,(VP (some f))),(2,(VI g)),(4,(VP (some h))),(3,(VP (some i))),(7,(VB j))] []) w) kr (Eq.trans (YD 1 [6,7,2,4,3] (q7L K) kr) ((qY (b:=(cA Yh 7508)) (X':=[6,7,2,4,3]) (H:=[6,2,4,3,9,8,7]) kr kr kr).trans kr))
theorem qmH:qtn c d e f g h i j k l m n o p q r w K=(qrj 0 c d e f g h i j k l m n o p q r w K):=Eq.trans (b:=CS P (cA Yh 469) none [6,2,4,3] [6,7,2,4,3] (ZA K) (ql.mk 98 [(8,(VS c d e)),(21,(VS f g h)),(20,(Value.agg i)),(18,(VB true)),(18,(VB j)),(19,(VB k)),(17,(VI l)),(16,(VP (some m))),(6,(VP (some n))),(2,(VI o)),(4,(VP (some p))),(3,(VP (some q))),(7,(VB r))] []) w) kr (Eq.trans (zN [6,2,4,3] (q4e K) kr) (Eq.trans (zN [6,2,4,3,9,8,7] (qAB K) kr) kr))
theorem qnI:qyX d e f g h i c j k w K=(qf 6 c w (fun o=>qa P 84 [(Value.agg o)] w (fun p q=>∃ (l:OA) (m n:Nat),p=(.slice l m n)/\qtn l m n l m n o d e f g h i c j k q K))):=Eq.trans (b:=CS P (cA Yh 234) none [6,2,4,3] [6,7,2,4,3] (ZA K) (ql.mk 98 [(18,(VB true)),(18,(VB d)),(19,(VB e)),(17,(VI f)),(16,(VP (some g))),(6,(VP (some h))),(2,(VI i)),(4,(VP (some c))),(3,(VP (some j))),(7,(VB k))] []) w) kr (Eq.trans (zN [6,2,4,3,8,7] (qFu K) kr) kr)
def qi1 a b c d w K:=SG Yh 15 [6,7] [6,7] (QX K) 98 [(6,VQ a),(2,VI b),(4,VQ c),(3,VQ d)] w
abbrev qAT K:=kq Yh 15 [6,7] [6,7] (QX K)
theorem qhe:qi1 c d e f w K=(qf 20 f w (fun l=>∃ g:Int,w.cell? (e.add 1)=some (.int .i64 g)/\∃ h:Array Value,(∀ wq,(Instr.build 72 #[(0,(Value.int .i64 1)),(1,(Value.int .i64 g))]).run P wq=.ok (.agg h) wq)/\qa P 86 [(Value.agg l),(Value.agg h),(Value.int .i64 d)] w (fun m n=>∃ i:Array Value,∃ j:Bool,m=(.tuple #[(Value.agg i),(Value.bool j)])/\qN 20 c i n (fun k=>qf 20 c k (fun o=>K (Value.tuple #[(Value.agg o),(Value.bool j)]) k))))):=qV (qT [6,7] (qAT K) kr)
theorem qmc:qth e h c f d g i w K=(qC (e==4) (qyX (e==4) (e==4) e h c f d g i w K) (qC (e==14) (qf 20 g w (fun g0=>qf 6 d w (fun h0=>∃ j:Int,w.cell? (d.add 3)=some (.int .u32 j)/\∃ k:Array Value,(∀ wq,(Instr.build 170 #[(1,(Value.int .u32 j))]).run P wq=.ok (.agg k) wq)/\qa P 85 [(Value.agg g0),(Value.int .i64 3),(Value.agg h0),(Value.agg k),(Value.int .i64 f)] w (fun i0 j0=>∃ l:Array Value,∃ m:Bool,i0=(.tuple #[(Value.agg l),(Value.bool m)])/\qN 20 c l j0 (fun n=>qf 20 c n (fun l0=>K (Value.tuple #[(Value.agg l0),(Value.bool m)]) n)))))) (qC (e==15) (qf 20 g w (fun m0=>qf 6 d w (fun n0=>∃ o:Int,w.cell? (d.add 3)=some (.int .u32 o)/\∃ p:Array Value,(∀ wq,(Instr.build 170 #[(1,(Value.int .u32 o))]).run P wq=.ok (.agg p) wq)/\qa P 85 [(Value.agg m0),(Value.int .i64 2),(Value.agg n0),(Value.agg p),(Value.int .i64 f)] w (fun o0 p0=>∃ q:Array Value,∃ r:Bool,o0=(.tuple #[(Value.agg q),(Value.bool r)])/\qN 20 c q p0 (fun s=>qf 20 c s (fun q0=>K (Value.tuple #[(Value.agg q0),(Value.bool r)]) s)))))) (qC (e==11) (qf 20 g w (fun r0=>∃ t:Int,w.cell? (d.add 1)=some (.int .i64 t)/\∃ u:Int,w.cell? (d.add 5)=some (.int .i64 u)/\∃ v:Array Value,(∀ wq,(Instr.build 72 #[(0,(Value.int .i64 5)),(1,(Value.int .i64 t)),(2,(Value.int .i64 u))]).run P wq=.ok (.agg v) wq)/\qa P 86 [(Value.agg r0),(Value.agg v),(Value.int .i64 f)] w (fun s0 t0=>∃ x:Array Value,∃ y:Bool,s0=(.tuple #[(Value.agg x),(Value.bool y)])/\qN 20 c x t0 (fun z=>qf 20 c z (fun u0=>K (Value.tuple #[(Value.agg u0),(Value.bool y)]) z))))) (qC (e==13) (qf 20 g w (fun v0=>∃ a0:Int,w.cell? (d.add 1)=some (.int .i64 a0)/\∃ b0:Int,w.cell? (d.add 5)=some (.int .i64 b0)/\∃ c0:Array Value,(∀ wq,(Instr.build 72 #[(0,(Value.int .i64 6)),(1,(Value.int .i64 a0)),(2,(Value.int .i64 b0))]).run P wq=.ok (.agg c0) wq)/\qa P 86 [(Value.agg v0),(Value.agg c0),(Value.int .i64 f)] w (fun x0 y0=>∃ d0:Array Value,∃ e0:Bool,x0=(.tuple #[(Value.agg d0),(Value.bool e0)])/\qN 20 c d0 y0 (fun f0=>qf 20 c f0 (fun z0=>K (Value.tuple #[(Value.agg z0),(Value.bool e0)]) f0))))) (qi1 c f d g w K)))))):=Eq.trans (b:=CS P (cA Yh 29) none [6,2,4,3] [6,7] (q4N K) (ql.mk 98 [(17,(VI e)),(16,(VP (some h))),(6,(VP (some c))),(2,(VI f)),(4,(VP (some d))),(3,(VP (some g))),(7,(VB i))] []) w) kr (Eq.trans (YD 0 [6,7,2,4,3] (ZA K) kr) (Eq.trans (zN [18,6,2,4,3,7,17] (qI6 K) kr) kr))
theorem qof:qs7 d e c f g w K=(∃ h:Int,w.cell? c=some (.int .i64 h)/\qth h c d e c f g w K):=qV (qT [6,2,4,3] (q4N K) (qT [6,2,4,3,7,17] (qG6 K) kr))
theorem qm8:qy2 c d e g h f w K=(qf 6 d w (fun l=>qa P 83 [(Value.agg l)] w (fun m i=>∃ j:Bool,m=(.bool j)/\qC (!j) (qf 20 e i (fun n=>qN 20 c n i (fun k=>qf 20 c k (fun o=>K (Value.tuple #[(Value.agg o),(Value.bool false)]) k)))) (qs7 c f d e false i K)))):=Eq.trans (b:=CS P (cA Yh 3) none [6,7] [6,7] (QX K) (ql.mk 98 [(7,(VB false)),(6,(VP (some c))),(4,(VP (some d))),(3,(VP (some e))),(0,(Value.agg g)),(1,(Value.agg h)),(2,(VI f))] []) w) kr (Eq.trans (zN [6,2,4,3,7] (qzd K) kr) (Eq.trans (zN [14,6,3,2,4,7] (qJ3 K) kr) kr))
theorem qlI:qu6 c d e w K=(qt c 64 w (fun f g=>qt d 45 g (fun h i=>qt (qn P 64) 64 i (fun j k=>qy2 (Addr.mk j 0 none) (Addr.mk h 0 none) (Addr.mk f 0 none) c d e k K)))):=Eq.trans (b:=CS P (cA Yh 1) none [6,7] [6,7] (QX K) (ql.mk 98 [(0,(Value.agg c)),(1,(Value.agg d)),(2,(VI e))] []) w) kr (Eq.trans (zN [6,3,2,4,7] (qGt K) kr) kr)
theorem qHw:f58 a b c w K=(qu6 a b c w K):=kr
theorem qIo a b c w K(h:f58 a b c w K):qa P 58 [(Value.agg a),(Value.agg b),(Value.int .i64 c)] w K:=zj Yh Tryz.func58 h
def JR:=qx Tryz.f17
def qM1:=Tryz.f17.results.toList
abbrev ju K:=qH P qM1 K
def f17 a b c w K:=CS P JR none [2] [2] (ju K) (zh 33 [(VS a b c)]) w
def qty a b c w K:=SC JR 1 [2] [2] (ju K) 33 [(0,VS a b c)] w
abbrev qFe K:=kq JR 1 [2] [2] (ju K)
def qsb a b c d w K:=SC JR 3 [2] [2] (ju K) 33 [(2,VQ a),(0,VS b c d)] w
abbrev qrz K:=kq JR 3 [2] [2] (ju K)
abbrev qG3 K:=kq JR 6 [2,0] [2] (qrz K)
def qys a b c d w K:=SG JR 7 [2] [2] (ju K) 33 [(2,VQ a),(0,VS b c d)] w
abbrev qI9 K:=kq JR 7 [2] [2] (ju K)
def qwT a b c d e f w K:=SC JR 15 [2] [2] (ju K) 33 [(3,VQ a),(11,Value.agg b),(2,VQ c),(0,VS d e f)] w
abbrev q4p K:=kq JR 15 [2] [2] (ju K)
abbrev qHA K:=kq JR 30 [2,3] [2] (q4p K)
def qul a b c d e f g w K:=SC JR 61 [2,3] [2] (q4p K) 33 [(4,VI a),(3,VQ b),(11,Value.agg c),(2,VQ d),(0,VS e f g)] w
abbrev qdf K:=qq 0 (q4p K)
def qB6 K Y5 e w:=zJ (fun e w=>CS P (cA JR 244) none [2,3,4,0] [2,3] (qw [2,3,4,0] Y5 (qdf K)) e w) e w
abbrev q1b K Y5:=qw [2,3,4,0] Y5 (qdf K)
def qhQ a b c d f g w K Y5:=SG JR 244 [2,3,4,0] [2,3] (q1b K Y5) 33 [(2,VQ a),(3,VQ b),(4,VI c),(0,VS d f g)] w
abbrev qr6 K Y5:=kq JR 244 [2,3,4,0] [2,3] (q1b K Y5)
abbrev qFU K Y5:=kq JR 488 [2,3,0,4] [2,3] (qr6 K Y5)
def qyt a b c d f g w K Y5:=SG JR 489 [2,3,4,0] [2,3] (q1b K Y5) 33 [(2,VQ a),(3,VQ b),(0,VS c d f),(4,VI g)] w
abbrev qkA K Y5:=kq JR 489 [2,3,4,0] [2,3] (q1b K Y5)
abbrev q0S K Y5:=qq 1 (qkA K Y5)
abbrev qBd K Y5:=kq JR 1956 [2,3,0,4] [2,3,0,4] (q0S K Y5)
def q4M a b c d f g h i w K Y5:=SG JR 3913 [2,3,0,4] [2,3,0,4] (q0S K Y5) 33 [(2,VQ a),(3,VQ b),(0,VS c d f),(4,VI g),(5,VQ h),(6,VB i)] w
abbrev qkU K Y5:=kq JR 3913 [2,3,0,4] [2,3,0,4] (q0S K Y5)
abbrev qDs K Y5:=kq JR 7826 [2,3,0,4,5] [2,3,0,4] (qkU K Y5)
def qvJ a b c d f g h w K Y5:=SG JR 7827 [2,3,0,4] [2,3,0,4] (q0S K Y5) 33 [(2,VQ a),(3,VQ b),(0,VS c d f),(4,VI g),(5,VQ h)] w
def qrB a b c d f g w K Y5:=SG JR 979 [2,3,4,0] [2,3] (q1b K Y5) 33 [(2,VQ a),(3,VQ b),(0,VS c d f),(4,VI g)] w
theorem qmS:qrB a c d e f g w K Y5=(Y5 (ql.mk 33 [(2,(Value.pointer (some a))),(3,(Value.pointer (some c))),(4,(Value.int .i64 (IntKind.wrap .i64 (g+1)))),(0,(Value.slice d e f))] []) w):=qV kr
theorem qoJ:qvJ c a d e f g h w K Y5=(qf 20 h w (fun i=>qN 20 a i w (fun j=>qrB c a d e f g j K Y5))):=qV kr
theorem q6W:q4M c d e f g h i j w K Y5=(qC (!j) (∃ k:Array Value,(∀ wq,(Instr.build 64 #[(5,(Value.int .i64 300))]).run P wq=.ok (.agg k) wq)/\qN 20 c k w (fun l=>qf 20 c l (fun m=>K (Value.agg m) l))) (qvJ c d e f g h i w K Y5)):=qV (qT [2,3,0,4,5] (qkU K Y5) (qT [29,2,3,0,4,5] (qDs K Y5) kr))
theorem qnj:qyt g d e f h c w K Y5=(qi e (fun q=>0<=c/\c<(f:Nat)/\qf 20 d w.drew (fun i=>qf 6 (q.add (Int.toNat c*6)) w.drew (fun j=>(qa P 58 [(Value.agg i),(Value.agg j),(Value.int .i64 c)] w.drew (fun r s=>∃ k:Array Value,∃ l:Bool,r=(.tuple #[(Value.agg k),(Value.bool l)])/\qt (qn P 64) 64 s (fun m t=>qN 20 (Addr.mk m 0 none) k t (fun u=>q4M g d e f h c (Addr.mk m 0 none) l u K Y5))))/\(qt (qn P 64) 64 w.drew (fun n v=>qa P 58 [(Value.agg i),(Value.agg j),(Value.int .i64 c)] v (fun x y=>∃ o:Array Value,∃ p:Bool,x=(.tuple #[(Value.agg o),(Value.bool p)])/\qN 20 (Addr.mk n 0 none) o y (fun z=>q4M g d e f h c (Addr.mk n 0 none) p z K Y5)))))))):=qV (qT [2,3,0,4] (qkA K Y5) (QJ 1 [2,3,0,4] (q0S K Y5) (qT [2,3,0,4,5,6] (qBd K Y5) kr)))
def qjM a b w K:=SG JR 31 [2] [2] (ju K) 33 [(2,VQ a),(3,VQ b)] w
abbrev qAp K:=kq JR 31 [2] [2] (ju K)
theorem qfP:qjM c d w K=(qf 20 d w (fun f=>qN 20 c f w (fun e=>qf 20 c e (fun g=>K (Value.agg g) e)))):=qV (qT [2] (qAp K) kr)
theorem qfD:qhQ c d e f g h w K Y5=(∃ i:Int,(∀ wq,zZ w wq->(Builtin.len_ #[22] 3 #[(Value.slice f g h)]).run P wq=.ok (.int .i64 i) wq)/\qC (decide (e<i)) (qyt c d f g h e w K Y5) (qjM c d w K)):=qV (qT [2,3,0,4] (qr6 K Y5) (qT [15,2,3,0,4] (qFU K Y5) kr))
theorem qo7:qul a c h d e f g w K=(za (qB6 K) (ql.mk 33 [(2,(Value.pointer (some d))),(3,(Value.pointer (some c))),(4,(Value.int .i64 a)),(0,(Value.slice e f g))] []) w):=Eq.trans (b:=CS P (cA JR 61) none [2,3] [2] (q4p K) (ql.mk 33 [(4,(VI a)),(3,(VP (some c))),(11,(Value.agg h)),(2,(VP (some d))),(0,(VS e f g))] []) w) kr (Eq.trans (YD 0 [2,3] (qdf K) kr) ((qY (b:=(cA JR 244)) (X':=[2,3]) (H:=[2,3,4,0]) kr kr kr).trans kr))
theorem qnD:qwT c d e f g h w K=(qul 0 c d e f g h w K):=Eq.trans (b:=CS P (cA JR 15) none [2] [2] (ju K) (ql.mk 33 [(3,(VP (some c))),(11,(Value.agg d)),(2,(VP (some e))),(0,(VS f g h))] []) w) kr (Eq.trans (zN [2,3] (q4p K) kr) (Eq.trans (zN [2,3,4,0] (qHA K) kr) kr))
theorem qmt:qys c d e f w K=(qa P 57 [] w (fun i j=>∃ g:Array Value,i=(.agg g)/\qt (qn P 64) 64 j (fun h k=>qN 20 (Addr.mk h 0 none) g k (fun l=>qwT (Addr.mk h 0 none) g c d e f l K)))):=qV (qT [2,3,0] (qI9 K) kr)
theorem qps:qsb c d e f w K=(∃ g:Int,(∀ wq,zZ w wq->(Builtin.len_ #[22] 3 #[(Value.slice d e f)]).run P wq=.ok (.int .i64 g) wq)/\qC (decide (g > 20000)) (∃ h:Array Value,(∀ wq,(Instr.build 64 #[(5,(Value.int .i64 2))]).run P wq=.ok (.agg h) wq)/\qN 20 c h w (fun i=>qf 20 c i (fun j=>K (Value.agg j) i))) (qys c d e f w K)):=Eq.trans (b:=CS P (cA JR 3) none [2] [2] (ju K) (ql.mk 33 [(2,(VP (some c))),(0,(VS d e f))] []) w) kr (Eq.trans (zN [2,0] (qrz K) kr) (Eq.trans (zN [9,2,0] (qG3 K) kr) kr))
theorem qmU:qty c d e w K=(qt (qn P 64) 64 w (fun f g=>qsb (Addr.mk f 0 none) c d e g K)):=Eq.trans (b:=CS P (cA JR 1) none [2] [2] (ju K) (ql.mk 33 [(0,(VS c d e))] []) w) kr (Eq.trans (zN [2,0] (qFe K) kr) kr)
theorem qIv:f17 a b c w K=(qty a b c w K):=kr
theorem qIp a b c w K(h:f17 a b c w K):qa P 17 [(Value.slice a b c)] w K:=zj JR Tryz.func17 h
end Go.Fx.Tryz
namespace Go.Fx.Tryz
open Go Go.Fx Go.Fx.Mo
open Go.Proofs
variable {w0 w:World} {H Y:qP} {K:KT}
set_option maxRecDepth 20000
theorem qGM:∃ cs:List Value,qn P 64=cs.toArray/\cs.length=20:=⟨_,rfl,by kernel_rfl⟩
def vw(r:RR)(x:Int):List Value:=r.begun.map .bool++(r.ended.map .bool++[qj x])
def qS(r:RR)(x:Int)(lv ov xv:Value):List Value:=lv::ov::xv::vw r x
structure q6u (w0:World) (r:RR) (lv ov xv:Value) (LL LO LX:qP):Prop where
 sl:zC 4 72 lv r.L.length (Qh r.L) LL
 so:zC 1 3 ov r.of.length (r.of.map qj) LO
 sx:zC 2 170 xv r.objs.length (vX r.objs) LX
 nl:zr w0 LL
 no:zr w0 LO
 nx:zr w0 LX
 bl:r.begun.length=8
 el:r.ended.length=8
theorem jg{r:RR}{x:Int}{lv ov xv:Value}(hb:r.begun.length=8)(he:r.ended.length=8):(qS r x lv ov xv).length=20:=by
 simp[qS,vw,hb,he]
theorem zW{size:Nat}{e:TypeId}{ov:Value}{n:Nat}{xs:List Value}{L:qP}(h:zC size e ov n xs L):ov.oneCell'=true:=by
 obtain⟨a,c,rfl⟩:=h.form
 rfl
theorem jl{r:RR}{x:Int}{lv ov xv:Value}(h1:lv.oneCell'=true)(h2:ov.oneCell'=true)(h3:xv.oneCell'=true):∀ v∈(qS r x lv ov xv).toArray.toList,v.oneCell'=true:=by
 intro v hv
 simp only[qS,vw,List.mem_cons,List.mem_append,List.mem_map,List.not_mem_nil,or_false]at hv
 rcases hv with rfl | rfl | rfl | ⟨_,_,rfl⟩ | ⟨_,_,rfl⟩ | rfl
 ·exact h1
 ·exact h2
 ·exact h3
 all_goals rfl
theorem qCk{r:RR}{x t:Int}{lv ov xv:Value}(hb:r.begun.length=8)(h0:0<=t)(h8:t<8):(qS r x lv ov xv)[3+t.toNat]?=some (.bool (zb r.begun t)):=by
 have h:t.toNat<r.begun.length:=by omega
 rw[show 3+t.toNat=t.toNat+3 by omega]
 show(vw r x)[t.toNat]?=_
 unfold vw
 rw[List.getElem?_append_left (by simpa using h),List.getElem?_map,List.getElem?_eq_getElem h]
 simp[zb,List.getD,h]
theorem qA3{r:RR}{x t:Int}{lv ov xv:Value}(hb:r.begun.length=8)(he:r.ended.length=8)(h0:0<=t)(h8:t<8):(qS r x lv ov xv)[11+t.toNat]?=some (.bool (zb r.ended t)):=by
 have h:t.toNat<r.ended.length:=by omega
 rw[show 11+t.toNat=(8+t.toNat)+3 by omega]
 show(vw r x)[8+t.toNat]?=_
 unfold vw
 rw[List.getElem?_append_right (by simp[hb]),List.getElem?_append_left (by simp[hb];omega)]
 simp[zb,List.getD,h,hb]
theorem qGW{r:RR}{x t:Int}{lv ov xv:Value}(hb:r.begun.length=8)(h0:0<=t)(h8:t<8):(qS r x lv ov xv).set (3+t.toNat) (.bool true)=qS { r with begun:=r.begun.set t.toNat true } x lv ov xv:=by
 rw[show 3+t.toNat=t.toNat+3 by omega]
 show lv::ov::xv::(vw r x).set t.toNat (.bool true)=_
 unfold vw qS vw
 rw[List.set_append_left _ _ (by simp[hb];omega),List.map_set]
theorem qIX{r:RR}{x t:Int}{lv ov xv:Value}(hb:r.begun.length=8)(he:r.ended.length=8)(h0:0<=t)(h8:t<8):(qS r x lv ov xv).set (11+t.toNat) (.bool true)=qS { r with ended:=r.ended.set t.toNat true } x lv ov xv:=by
 rw[show 11+t.toNat=(8+t.toNat)+3 by omega]
 show lv::ov::xv::(vw r x).set (8+t.toNat) (.bool true)=_
 unfold vw qS vw
 rw[List.set_append_right _ _ (by simp[hb]),List.set_append_left _ _ (by simp[hb,he];omega),List.map_set]
 simp[hb]
section
variable {n7 n5 n3:Nat} {r:RR} {lv ov xv:Value} {LL LO LX:qP} {z:List Value} {o:vH} {x i:Int}
abbrev Zy(n7 n5 n3:Nat)(z:List Value)(o:vH)(cs:List Value)(R:qP):List (Nat × Obj):=(n7,Cs z 64)::(n5,Cs (zu o) 72)::(n3,Cs cs 64)::R
theorem qDO{b:Bool}{cs:List Value}{R:qP}(hz:z.length=20)(h:St w0 w (Zy n7 n5 n3 z o cs R))(hl:cs.length=20)(h1:∀ v∈cs.toArray.toList,v.oneCell'=true)
  (hK:∀ w',St w0 w' (Zy n7 n5 n3 cs o cs R)->K (.tuple [.agg cs.toArray,.bool b].toArray) w') :
  qf 20 (Addr.mk n3 0 none) w (fun c=>qN 20 (Addr.mk n7 0 none) c w (fun w'=>qf 20 (Addr.mk n7 0 none) w' (fun c'=>K (.tuple [.agg c',.bool b].toArray) w'))):=by
 refine h.ldA (k:=2) (i:=0) rfl (by simp[hl]) ?_
 rw[List.drop_zero,List.take_of_length_le om]
 refine h.stA (k:=0) rfl (by simp[hl]) (by simp[hl,hz]) h1 fun w' h'=>?_
 have h':St w0 w' (Zy n7 n5 n3 (qI z 0 cs) o cs R):=h'
 rw[qB om]at h'
 refine h'.ldA (k:=0) (i:=0) rfl (by simp[hl]) ?_
 rw[List.drop_zero,List.take_of_length_le om]
 exact hK w' h'
theorem qe7(l:List vH)(o:vH):Qh (l++[o])=Qh l++zu o:=by simp[Qh]
theorem qfQ(hz:z.length=20)(h:St w0 w (Zy n7 n5 n3 z o (qS r x lv ov xv) (LL++(LO++(LX++H)))))(hr:q6u w0 r lv ov xv LL LO LX)(h7:w0.heap.size<=n7)(h5:w0.heap.size<=n5)(h3:w0.heap.size<=n3)
  (hb:r.L.length<1000000000/\r.of.length<1000000000)
  (hK:∀ w' lv' ov' LL' LO',q6u w0 { r with L:=r.L++[o],of:=r.of++[i] } lv' ov' xv LL' LO' LX->St w0 w' (LL'++(LO'++(LX++H)))->
   K (.tuple [.agg (qS { r with L:=r.L++[o],of:=r.of++[i] } x lv' ov' xv).toArray,.bool true].toArray) w') :
  q4Q (Addr.mk n7 0 none) (Addr.mk n3 0 none) i (Addr.mk n5 0 none) w K:=by
 rw[qpU]
 obtain⟨la,lc,hlv⟩:=hr.sl.form
 obtain⟨oa,oc,hov⟩:=hr.so.form
 refine⟨la,_,lc,by rw[h.cell (k:=2) rfl,<-hlv];rfl,?_⟩
 refine h.ldA (k:=1) (i:=0) rfl (by simp[zu]) ⟨⟨rfl,trivial⟩,?_⟩
 refine h.newC fun n71 w1 hn71 g1=>?_
 have g1:St w0 w1 (((n71,Cs (zu o) 72)::Zy n7 n5 n3 z o (qS r x lv ov xv) [])++(LL++(LO++(LX++H)))):=g1
 obtain⟨g,cap,w2,LL',hru,hS,g2,hN⟩:=St.append (P:=P) 60 60 72 Tryz.t72 (.agg #[qj 0,qj 0,qj 0,qj 0]) 4 32 Tryz.underlying60 qh4 rfl rfl rfl rfl om g1 hr.sl hr.nl (j:=0) rfl (by simp[zu]) (by simp[zu,Value.oneCell']) (by simp[maxLen];omega) om
 rw[hlv]at hru
 refine⟨_,_,_,w2,hru,?_⟩
 refine g2.st1 (k:=3) rfl (by simp[qS]) rfl fun w3 g3=>?_
 generalize hlv':Value.slice (some ⟨g,0,none⟩) (r.L.length+1) cap=lv' at *
 have g3:St w0 w3 ((n71,Cs (zu o) 72)::Zy n7 n5 n3 z o (qS r x lv' ov xv) (LL'++(LO++(LX++H)))):=g3
 refine⟨oa,_,oc,by rw[qc,Nat.zero_add,g3.cell (k:=3) rfl,<-hov];rfl,⟨rfl,trivial⟩,?_⟩
 refine g3.newC fun n79 w4 hn79 g4=>?_
 have g4:St w0 w4 (((n79,Cs [qj i] 3)::(n71,Cs (zu o) 72)::Zy n7 n5 n3 z o (qS r x lv' ov xv) LL')++(LO++(LX++H))):=by
  have e:((n79,Cs [qj i] 3)::(n71,Cs (zu o) 72)::Zy n7 n5 n3 z o (qS r x lv' ov xv) LL')++(LO++(LX++H))=(n79,Cs [qj i] 3)::(n71,Cs (zu o) 72)::Zy n7 n5 n3 z o (qS r x lv' ov xv) (LL'++(LO++(LX++H))):=by simp
  rw[e]
  exact g4
 obtain⟨g',cap',w5,LO',hru',hS',g5,hN'⟩:=St.append (P:=P) 61 61 3 Tryz.t3 (qj 0) 1 8 Tryz.underlying61 qxi rfl rfl rfl rfl om g4 hr.so hr.no (j:=0) rfl (by simp) (by simp[Value.oneCell']) (by simp[maxLen];omega) om
 rw[hov]at hru'
 refine⟨_,_,_,w5,hru',?_⟩
 have g5:St w0 w5 ((n79,Cs [qj i] 3)::(n71,Cs (zu o) 72)::Zy n7 n5 n3 z o (qS r x lv' ov xv) (LL'++(LO'++(LX++H)))):=by
  refine g5.perm (qK fun c=>?_)
  simp only[List.map_append,List.map_cons,List.sum_append,List.sum_cons];omega
 simp only[qc,Nat.zero_add]
 refine g5.st1 (k:=4) rfl (by simp[qS]) rfl fun w6 g6=>?_
 generalize hov':Value.slice (some ⟨g',0,none⟩) (r.of.length+1) cap'=ov' at *
 have g6:St w0 w6 ((n79,Cs [qj i] 3)::(n71,Cs (zu o) 72)::Zy n7 n5 n3 z o (qS r x lv' ov' xv) (LL'++(LO'++(LX++H)))):=g6
 have g7:=(g6.tail hn79).tail hn71
 have hS:zC 4 72 lv' (r.L++[o]).length (Qh (r.L++[o])) LL':=by rw[qe7,List.length_append];exact hS
 have hS':zC 1 3 ov' (r.of++[i]).length ((r.of++[i]).map qj) LO':=by rw[List.map_append,List.length_append];exact hS'
 refine qDO (b:=true) hz g7 (jg hr.bl hr.el) (jl (zW hS) (zW hS') (zW hr.sx)) fun w8 g8=>?_
 exact hK w8 lv' ov' LL' LO' ⟨hS,hS',hr.sx,hN,hN',hr.nx,hr.bl,hr.el⟩ (((g8.tail h7).tail h5).tail h3)
theorem qG0(h:St w0 w (LL++(LO++(LX++H))))(hr:q6u w0 r lv ov xv LL LO LX)(ho:0<=o.th/\o.th<8)(hb:r.L.length<1000000000/\r.of.length<1000000000)
  (hno:vE r o i=none->∀ w' (cs:List Value),cs.length=20->(∀ v∈cs.toArray.toList,v.oneCell'=true)->St w0 w' H->K (.tuple [.agg cs.toArray,.bool false].toArray) w')
  (hyes:∀ r',vE r o i=some r'->∀ w' lv' ov' LL' LO',q6u w0 r' lv' ov' xv LL' LO' LX->St w0 w' (LL'++(LO'++(LX++H)))->K (.tuple [.agg (qS r' x lv' ov' xv).toArray,.bool true].toArray) w') :
  qa P 86 [.agg (qS r x lv ov xv).toArray,.agg (zu o).toArray,.int .i64 i] w K:=by
 refine qFi _ _ _ _ _ ?_
 obtain⟨z,hz,hzl⟩:=qGM
 rw[qEv,hz]
 refine h.newC fun n3 w4 hn3 h4=>h4.newC fun n5 w6 hn5 h6=>h6.newC fun n7 w8 hn7 h8=>?_
 have hl:=jg (x:=x) (lv:=lv) (ov:=ov) (xv:=xv) hr.bl hr.el
 have h1:=jl (r:=r) (x:=x) (zW hr.sl) (zW hr.so) (zW hr.sx)
 have h8:St w0 w8 (Zy n7 n5 n3 z o (qS r x lv ov xv) (LL++(LO++(LX++H)))):=h8
 have bad:∀ w',St w0 w' (Zy n7 n5 n3 z o (qS r x lv ov xv) (LL++(LO++(LX++H))))->yg r o=true->
   qf 20 (Addr.mk n3 0 none) w' (fun c=>qN 20 (Addr.mk n7 0 none) c w' (fun w'=>qf 20 (Addr.mk n7 0 none) w' (fun c'=>K (.tuple [.agg c',.bool false].toArray) w'))):=fun w' h' hbad=>
  qDO hzl h' hl h1 fun w2 h2=>hno (by simp[vE,hbad]) w2 _ hl h1 ((((((h2.tail hn7).tail hn5).tail hn3).sub hr.nl).sub hr.no).sub hr.nx)
 have ro:∀ {w':World} {j:Nat} {v:Value},St w0 w' (Zy n7 n5 n3 z o (qS r x lv ov xv) (LL++(LO++(LX++H))))->(zu o)[j]?=some v->w'.cell? ((Addr.mk n5 0 none).add j)=some v:=fun h' hv=>by
  rw[qc,Nat.zero_add,h'.cell (k:=1) rfl];exact hv
 have ro0:∀ {w':World} {v:Value},St w0 w' (Zy n7 n5 n3 z o (qS r x lv ov xv) (LL++(LO++(LX++H))))->(zu o)[0]?=some v->w'.cell? (Addr.mk n5 0 none)=some v:=fun h' hv=>by
  rw[h'.cell (k:=1) rfl];exact hv
 have rb:∀ {w':World} {t:Int},St w0 w' (Zy n7 n5 n3 z o (qS r x lv ov xv) (LL++(LO++(LX++H))))->0<=t->t<8->w'.cell? (((Addr.mk n3 0 none).add 3).add (Int.toNat t*1))=some (.bool (zb r.begun t)):=fun h' h0 h8=>by
  rw[qc,qc,Nat.zero_add,Nat.mul_one,h'.cell (k:=2) rfl];exact qCk hr.bl h0 h8
 have re:∀ {w':World} {t:Int},St w0 w' (Zy n7 n5 n3 z o (qS r x lv ov xv) (LL++(LO++(LX++H))))->0<=t->t<8->w'.cell? (((Addr.mk n3 0 none).add 11).add (Int.toNat t*1))=some (.bool (zb r.ended t)):=fun h' h0 h8=>by
  rw[qc,qc,Nat.zero_add,Nat.mul_one,h'.cell (k:=2) rfl];exact qA3 hr.bl hr.el h0 h8
 refine⟨_,ro h8 rfl,ho.1,by have:=ho.2;omega,_,rb h8 ho.1 ho.2,?_⟩
 cases hbg:zb r.begun o.th
 ·rw[Bool.not_false,qm,q6k,qm]
  exact bad w8 h8 (by simp[yg,hbg])
 rw[Bool.not_true,qd]
 refine⟨_,ro h8 rfl,ho.1,by have:=ho.2;omega,_,re h8 ho.1 ho.2,?_⟩
 rw[q6k]
 cases hen:zb r.ended o.th
 ·rw[qd,qnC]
  have s6:∀ w',St w0 w' (Zy n7 n5 n3 z o (qS r x lv ov xv) (LL++(LO++(LX++H))))->yg r o=false->(o.kind=5\/o.kind=6)->0<=o.other->o.other<8->qeI (Addr.mk n7 0 none) (Addr.mk n3 0 none) i (Addr.mk n5 0 none) w' K:=by
   intro w' h' hbar hk h0 h8
   rw[qoB]
   refine⟨_,ro0 h' rfl,?_⟩
   cases h5:(o.kind==5)
   ·have h5':¬ o.kind=5:=by simpa using h5
    have h6':o.kind=6:=by omega
    rw[qd]
    refine⟨_,ro h' rfl,h0,by omega,?_⟩
    rw[qc,qc,Nat.zero_add,Nat.mul_one]
    refine h'.st1 (k:=2) rfl (by rw[hl];omega) rfl fun w2 h2=>?_
    have h2:St w0 w2 (Zy n7 n5 n3 z o ((qS r x lv ov xv).set (11+o.other.toNat) (.bool true)) (LL++(LO++(LX++H)))):=h2
    rw[qIX hr.bl hr.el h0 h8]at h2
    refine qfQ (r:={ r with ended:=r.ended.set o.other.toNat true }) hzl h2 ⟨hr.sl,hr.so,hr.sx,hr.nl,hr.no,hr.nx,hr.bl,by simp[hr.el]⟩ hn7 hn5 hn3 hb fun w3 lv' ov' LL' LO' hr' h3=>?_
    exact hyes _ (by simp[vE,hbar,h5',h6']) w3 lv' ov' LL' LO' hr' h3
   ·have h5':o.kind=5:=by simpa using h5
    rw[qm]
    refine⟨_,ro h' rfl,h0,by omega,?_⟩
    rw[qc,qc,Nat.zero_add,Nat.mul_one]
    refine h'.st1 (k:=2) rfl (by rw[hl];omega) rfl fun w2 h2=>?_
    have h2:St w0 w2 (Zy n7 n5 n3 z o ((qS r x lv ov xv).set (3+o.other.toNat) (.bool true)) (LL++(LO++(LX++H)))):=h2
    rw[qGW hr.bl h0 h8]at h2
    refine qfQ (r:={ r with begun:=r.begun.set o.other.toNat true }) hzl h2 ⟨hr.sl,hr.so,hr.sx,hr.nl,hr.no,hr.nx,by simp[hr.bl],hr.el⟩ hn7 hn5 hn3 hb fun w3 lv' ov' LL' LO' hr' h3=>?_
    exact hyes _ (by simp[vE,hbar,h5']) w3 lv' ov' LL' LO' hr' h3
  have s5:∀ b w',St w0 w' (Zy n7 n5 n3 z o (qS r x lv ov xv) (LL++(LO++(LX++H))))->yg r o=b->(o.kind=5\/o.kind=6)->0<=o.other->o.other<8->jd b (Addr.mk n7 0 none) (Addr.mk n3 0 none) i (Addr.mk n5 0 none) w' K:=by
   intro b w' h' hbar hk h0 h8
   rw[qlU]
   cases b
   ·rw[qd];exact s6 w' h' hbar hk h0 h8
   ·rw[qm];exact bad w' h' hbar
  have s2:∀ b,(o.kind==5||o.kind==6)=b->q7k b (Addr.mk n7 0 none) (Addr.mk n3 0 none) i (Addr.mk n5 0 none) w8 K:=by
   intro b hk
   rw[qqw]
   cases b
   ·rw[qd]
    have h5':¬ o.kind=5:=fun h=>by simp[h]at hk
    have h6':¬ o.kind=6:=fun h=>by simp[h]at hk
    have hbar:yg r o=false:=by simp[yg,hbg,hen,h5',h6']
    refine qfQ hzl h8 hr hn7 hn5 hn3 hb fun w3 lv' ov' LL' LO' hr' h3=>?_
    exact hyes _ (by simp[vE,hbar,h5',h6']) w3 lv' ov' LL' LO' hr' h3
   ·rw[qm]
    have hk':o.kind=5\/o.kind=6:=by simpa using hk
    refine⟨_,ro h8 rfl,?_⟩
    cases h0:decide (o.other<0)
    ·rw[qd]
     refine⟨_,ro h8 rfl,?_⟩
     rw[q6M]
     cases h88:decide (o.other>=8)
     ·rw[qd,qoZ]
      have h0':0<=o.other:=by simpa using h0
      have h8':o.other<8:=by simpa using h88
      have hd:=h8.drew
      have hbar:yg r o=((o.kind==5&&zb r.begun o.other)||(o.kind==6&&(!zb r.begun o.other||zb r.ended o.other||o.other==o.th))):=by
       unfold yg
       rw[hbg,hen,hk,h0,h88]
       simp
      refine⟨_,ro hd rfl,h0',by omega,_,rb hd h0' h8',_,ro hd rfl,h0',by omega,_,re hd h0' h8',_,ro0 hd rfl,?_⟩
      have six:qC (o.kind==6) (qC (!zb r.begun o.other) (jd true (Addr.mk n7 0 none) (Addr.mk n3 0 none) i (Addr.mk n5 0 none) w8.drew K) (qC (zb r.ended o.other) (jd true (Addr.mk n7 0 none) (Addr.mk n3 0 none) i (Addr.mk n5 0 none) w8.drew K)
        (∃ x89:Int,w8.drew.cell? ((Addr.mk n5 0 none).add 2)=some (qj x89)/\∃ x90:Int,w8.drew.cell? ((Addr.mk n5 0 none).add 1)=some (qj x90)/\jd (x89==x90) (Addr.mk n7 0 none) (Addr.mk n3 0 none) i (Addr.mk n5 0 none) w8.drew K)))
        (jd false (Addr.mk n7 0 none) (Addr.mk n3 0 none) i (Addr.mk n5 0 none) w8.drew K)\/(o.kind==5&&zb r.begun o.other)=true:=by
       cases h5b:(o.kind==5&&zb r.begun o.other)
       ·left
        rw[h5b,Bool.false_or]at hbar
        cases h6:(o.kind==6)
        ·rw[qd]
         exact s5 _ _ hd (by rw[hbar,h6];rfl) hk' h0' h8'
        ·rw[qm]
         rw[h6,Bool.true_and]at hbar
         cases hb2:zb r.begun o.other
         ·rw[Bool.not_false,qm]
          exact s5 _ _ hd (by rw[hbar,hb2];rfl) hk' h0' h8'
         ·rw[Bool.not_true,qd]
          cases he2:zb r.ended o.other
          ·rw[qd]
           refine⟨_,ro hd rfl,_,ro hd rfl,?_⟩
           exact s5 _ _ hd (by rw[hbar,hb2,he2];rfl) hk' h0' h8'
          ·rw[qm]
           exact s5 _ _ hd (by rw[hbar,hb2,he2];rfl) hk' h0' h8'
       ·right;rfl
      cases h5:(o.kind==5)
      ·rw[qd]
       refine⟨_,ro0 hd rfl,?_⟩
       rcases six with h | h
       ·exact h
       ·rw[h5]at h;cases h
      ·rw[qm]
       cases hb2:zb r.begun o.other
       ·rw[qd]
        refine⟨_,ro0 hd rfl,?_⟩
        rcases six with h | h
        ·rw[hb2]at h;exact h
        ·rw[hb2]at h;simp at h
       ·rw[qm]
        exact s5 _ _ hd (by rw[hbar,h5,hb2];rfl) hk' h0' h8'
     ·rw[qm]
      exact bad w8 h8 (by unfold yg;rw[hk,h88];simp)
    ·rw[qm,q6M,qm]
     exact bad w8 h8 (by unfold yg;rw[hk,h0];simp)
  refine⟨_,ro0 h8 rfl,?_⟩
  cases h5:(o.kind==5)
  ·rw[qd]
   refine⟨_,ro0 h8 rfl,s2 _ (by rw[h5];rfl)⟩
  ·rw[qm]
   exact s2 true (by rw[h5];rfl)
 ·rw[qm]
  exact bad w8 h8 (by simp[yg,hen])
end
end Go.Fx.Tryz
namespace Go.Fx.Mo
structure Bd (r:RR) (n:Nat):Prop where
 l:r.L.length<=n
 o:r.of.length<=n
 x:r.objs.length<=n
theorem q8X{r r':RR}{o:vH}{i:Int}{n:Nat}(h:vE r o i=some r')(hb:Bd r n):Bd r' (n+1):=by
 unfold vE at h
 split at h
 ·cases h
 ·cases h
  exact⟨by have:=hb.l;simp;omega,by have:=hb.o;simp;omega,by have:=hb.x;simp;omega⟩
theorem qiC{r:RR}{x:Ob}{n:Nat}(hb:Bd r n):(come r x).L=r.L/\(come r x).of=r.of/\(come r x).objs.length<=n+1:=by
 unfold come
 split
 ·exact⟨rfl,rfl,by have:=hb.x;simp;omega⟩
 ·exact⟨rfl,rfl,by have:=hb.x;omega⟩
theorem Jh{r r':RR}{k:Int}{e:Ev}{x:Ob}{i:Int}{n:Nat}(h:ya r k e x i=some r')(hb:Bd r n):Bd r' (n+1):=by
 unfold ya at h
 split at h
 ·cases h
 ·obtain⟨h1,h2,h3⟩:=qiC (x:=x) hb
  unfold vE at h
  split at h
  ·cases h
  ·cases h
   refine⟨?_,?_,h3⟩
   ·simp[h1];exact hb.l
   ·simp[h2];exact hb.o
end Go.Fx.Mo
namespace Go.Fx.Tryz
open Go Go.Fx Go.Fx.Mo
open Go.Proofs
variable {w0 w:World} {H Y:qP} {K:KT}
set_option maxRecDepth 20000
def vt(w0 w:World)(r:RR)(cs:List Value)(H:qP):Prop:=
 ∃ lv ov xv LL LO LX,cs=qS r 0 lv ov xv/\q6u w0 r lv ov xv LL LO LX/\St w0 w (LL++(LO++(LX++H)))
structure jL (cs:List Value):Prop where
 len:cs.length=20
 one:∀ v∈cs.toArray.toList,v.oneCell'=true
theorem vt.any{r:RR}{cs:List Value}(h:vt w0 w r cs H):jL cs:=by
 obtain⟨lv,ov,xv,LL,LO,LX,rfl,hr,_⟩:=h
 exact⟨jg hr.bl hr.el,jl (zW hr.sl) (zW hr.so) (zW hr.sx)⟩
theorem vt.base{r:RR}{cs:List Value}(h:vt w0 w r cs H):St w0 w H:=by
 obtain⟨lv,ov,xv,LL,LO,LX,rfl,hr,hs⟩:=h
 exact((hs.sub hr.nl).sub hr.no).sub hr.nx
theorem vt.newC{r:RR}{cs news:List Value}{t:TypeId}{Q:Nat->World->Prop}(h:vt w0 w r cs H)(hK:∀ n w',w0.heap.size<=n->vt w0 w' r cs ((n,Cs news t)::H)->Q n w'):qt news.toArray t w Q:=by
 obtain⟨lv,ov,xv,LL,LO,LX,rfl,hr,hs⟩:=h
 refine hs.newC fun n w' hn h'=>hK n w' hn ⟨lv,ov,xv,LL,LO,LX,rfl,hr,h'.perm (qK fun c=>?_)⟩
 simp only[List.map_append,List.map_cons,List.sum_append,List.sum_cons];omega
theorem vt.tail{r:RR}{cs:List Value}{n:Nat}{o:Obj}(h:vt w0 w r cs ((n,o)::H))(hn:w0.heap.size<=n):vt w0 w r cs H:=by
 obtain⟨lv,ov,xv,LL,LO,LX,rfl,hr,hs⟩:=h
 refine⟨lv,ov,xv,LL,LO,LX,rfl,hr,St.tail (b:=n) (o:=o) (hs.perm (qK fun c=>?_)) hn⟩
 simp only[List.map_append,List.map_cons,List.sum_append,List.sum_cons];omega
theorem vt.open'{r:RR}{cs:List Value}(h:vt w0 w r cs H):∃ Z,zr w0 Z/\St w0 w (H++Z)/\∀ w' H',St w0 w' (H'++Z)->vt w0 w' r cs H':=by
 obtain⟨lv,ov,xv,LL,LO,LX,rfl,hr,hs⟩:=h
 refine⟨LL++(LO++LX),?_,hs.perm (qK fun c=>?_),fun w' H' h'=>⟨lv,ov,xv,LL,LO,LX,rfl,hr,h'.perm (qK fun c=>?_)⟩⟩
 ·intro y hy
  rcases List.mem_append.1 hy with h | h
  ·exact hr.nl y h
  ·rcases List.mem_append.1 h with h | h
   ·exact hr.no y h
   ·exact hr.nx y h
 ·simp only[List.map_append,List.sum_append];omega
 ·simp only[List.map_append,List.sum_append];omega
theorem q32{r:RR}{cs:List Value}{o:vH}{i:Int}{n:Nat}(h:vt w0 w r cs H)(ho:0<=o.th/\o.th<8)(hb:Bd r n)(hn:n<100000000)
  (hno:vE r o i=none->∀ w' cs',jL cs'->St w0 w' H->K (.tuple [.agg cs'.toArray,.bool false].toArray) w')
  (hyes:∀ r',vE r o i=some r'->∀ w' cs',vt w0 w' r' cs' H->K (.tuple [.agg cs'.toArray,.bool true].toArray) w') :
  qa P 86 [.agg cs.toArray,.agg (zu o).toArray,.int .i64 i] w K:=by
 obtain⟨lv,ov,xv,LL,LO,LX,rfl,hr,hs⟩:=h
 exact qG0 hs hr ho ⟨by have:=hb.l;omega,by have:=hb.o;omega⟩ (fun h w' cs' h1 h2 h3=>hno h w' cs' ⟨h1,h2⟩ h3) fun r' h w' lv' ov' LL' LO' hr' hs'=>hyes r' h w' _ ⟨lv',ov',xv,LL',LO',LX,rfl,hr',hs'⟩
theorem qwy(k t n:Int)(wq:World):(Instr.build 72 [(0,(Value.int .i64 k)),(1,(Value.int .i64 t)),(3,(Value.int .i64 n))].toArray).run P wq=.ok (.agg (zu ⟨k,t,0,n⟩).toArray) wq:=kr
theorem qjs:P.info? 170=some Tryz.t170:=kr
section
variable {n11 n9 n7 n5:Nat} {z:List Value} {e:Ev} {ob:List Value} {kind i:Int} {r:RR} {x:Ob} {m:Nat}
theorem qv7{cs:List Value}(hz:z.length=20)(h:vt w0 w r cs ((n11,Cs z 64)::(n9,Cs ob 170)::(n7,Cs (qE e) 45)::(n5,Cs cs 64)::H))(hn:∀ y∈[n11,n9,n7,n5],w0.heap.size<=y)(he:0<=e.th/\e.th<8)(hb:Bd r m)(hm:m<100000000)
  (hno:vE r ⟨kind,e.th,0,zL r.objs x⟩ i=none->∀ w' cs',jL cs'->St w0 w' H->K (.tuple [.agg cs'.toArray,.bool false].toArray) w')
  (hyes:∀ r',vE r ⟨kind,e.th,0,zL r.objs x⟩ i=some r'->∀ w' cs',vt w0 w' r' cs' H->K (.tuple [.agg cs'.toArray,.bool true].toArray) w') :
  qeX (Addr.mk n11 0 none) i (zL r.objs x:Nat) (Addr.mk n7 0 none) kind (Addr.mk n5 0 none) w K:=by
 have ha:=h.any
 have h11:=hn n11 (by simp)
 have h9:=hn n9 (by simp)
 have h7:=hn n7 (by simp)
 have h5:=hn n5 (by simp)
 rw[qp1]
 obtain⟨Z,hZ,hs,hback⟩:=h.open'
 refine hs.ldA (k:=3) (i:=0) rfl (by simp[ha.len]) ?_
 rw[List.drop_zero,List.take_of_length_le (by rw[ha.len];omega)]
 refine⟨e.th,by rw[qc,Nat.zero_add,hs.cell (k:=2) rfl];rfl,_,fun wq=>qwy kind e.th _ wq,?_⟩
 have tail:∀ (b:Bool) (w':World) (cs':List Value) (J:qP),jL cs'->St w0 w' ((n11,Cs z 64)::J)->(∀ w2,St w0 w2 ((n11,Cs cs' 64)::J)->K (.tuple [.agg cs'.toArray,.bool b].toArray) w2)->
   qN 20 (Addr.mk n11 0 none) cs'.toArray w' (fun w51=>qf 20 (Addr.mk n11 0 none) w51 (fun cs52=>K (.tuple [.agg cs52,.bool b].toArray) w51)):=by
  intro b w' cs' J hc h' hk
  refine h'.stA (k:=0) rfl (by simp[hc.len]) (by simp[hz,hc.len]) hc.one fun w2 h2=>?_
  have h2:St w0 w2 ((n11,Cs (qI z 0 cs') 64)::J):=h2
  rw[qB (by rw[hc.len,hz])]at h2
  refine h2.ldA (k:=0) (i:=0) rfl (by simp[hc.len]) ?_
  rw[List.drop_zero,List.take_of_length_le (by rw[hc.len];omega)]
  exact hk w2 h2
 refine q32 (hback w _ hs) he hb hm (fun hf w' cs' hc h'=>⟨_,false,rfl,?_⟩) (fun r' hf w' cs' h'=>⟨_,true,rfl,?_⟩)
 ·refine tail false w' cs' _ hc h' fun w2 h2=>hno hf w2 cs' hc ((((h2.tail h11).tail h9).tail h7).tail h5)
 ·obtain⟨Z',hZ',hs',hback'⟩:=h'.open'
  refine tail true w' cs' _ h'.any hs' fun w2 h2=>hyes r' hf w2 cs' ((((hback' w2 ((n11,Cs cs' 64)::(n9,Cs ob 170)::(n7,Cs (qE e) 45)::(n5,Cs cs 64)::H) h2).tail h11).tail h9 |>.tail h7).tail h5)
end
theorem q0A{r:RR}{cs:List Value}{e:Ev}{kind i:Int}{x:Ob}{n:Nat}(h:vt w0 w r cs H)(he:0<=e.th/\e.th<8)(hb:Bd r n)(hn:n<10000000)
  (hno:ya r kind e x i=none->∀ w' cs',jL cs'->St w0 w' H->K (.tuple [.agg cs'.toArray,.bool false].toArray) w')
  (hyes:∀ r',ya r kind e x i=some r'->∀ w' cs',vt w0 w' r' cs' H->K (.tuple [.agg cs'.toArray,.bool true].toArray) w') :
  qa P 85 [.agg cs.toArray,.int .i64 kind,.agg (qE e).toArray,.agg (qR x).toArray,.int .i64 i] w K:=by
 refine qFh _ _ _ _ _ _ _ ?_
 obtain⟨z,hz,hzl⟩:=qGM
 rw[qIT,hz]
 refine h.newC fun n5 w1 hn5 g1=>g1.newC fun n7 w2 hn7 g2=>g2.newC fun n9 w3 hn9 g3=>g3.newC fun n11 w4 hn11 g4=>?_
 have hall:∀ y∈[n11,n9,n7,n5],w0.heap.size<=y:=by
  intro y hy
  simp at hy
  rcases hy with rfl | rfl | rfl | rfl<;>assumption
 obtain⟨lv,ov,xv,LL,LO,LX,rfl,hr,hs⟩:=g4
 have hx:=hr.sx
 have hs1:=hs.perm (H':=(n11,Cs z 64)::(n9,Cs (qR x) 170)::(n7,Cs (qE e) 45)::(n5,Cs (qS r 0 lv ov xv) 64)::(LX++(LL++(LO++H)))) (qK fun c=>by
  simp only[List.map_append,List.map_cons,List.sum_append,List.sum_cons];omega)
 obtain⟨xa,xc,hxv⟩:=hx.form
 have rx:∀ {w':World} {J:qP},St w0 w' ((n11,Cs z 64)::(n9,Cs (qR x) 170)::(n7,Cs (qE e) 45)::(n5,Cs (qS r 0 lv ov xv) 64)::J)->w'.cell? ((Addr.mk n5 0 none).add 2)=some (.slice xa r.objs.length xc):=fun h'=>by
  rw[qc,Nat.zero_add,h'.cell (k:=3) rfl,<-hxv];rfl
 refine⟨xa,_,xc,rx hs1,?_⟩
 refine hs1.ldA (k:=1) (i:=0) rfl (by simp[qR]) ?_
 rw[show((qR x).drop 0).take 2=qR x from rfl,<-hxv]
 have hxl:r.objs.length<100000000:=by have:=hb.x;omega
 refine qBW x hs1 (fun w' h'=>hx.row fun y hy=>h'.has _ _ (by simp[hy])) om fun w5 h5=>⟨_,rfl,xa,_,xc,rx h5,r.objs.length,fun wq _=>jj wq,?_⟩
 have fin:∀ w' xv' LX',(come r x).objs.length=(come r x).objs.length->q6u w0 (come r x) lv ov xv' LL LO LX'->St w0 w' ((n11,Cs z 64)::(n9,Cs (qR x) 170)::(n7,Cs (qE e) 45)::(n5,Cs (qS (come r x) 0 lv ov xv') 64)::(LX'++(LL++(LO++H))))->zL (come r x).objs x=zL r.objs x->
   q78 (Addr.mk n11 0 none) (Addr.mk n5 0 none) i (zL r.objs x:Nat) (Addr.mk n7 0 none) kind w' K:=by
  intro w' xv' LX' _ hr' h' hnu
  have hl:=jg (x:=0) (lv:=lv) (ov:=ov) (xv:=xv') hr'.bl hr'.el
  have h1:=jl (r:=come r x) (x:=0) (zW hr'.sl) (zW hr'.so) (zW hr'.sx)
  rw[qo4,qg]
  constructor
  ·intro hge
   have hge:zL r.objs x>=65536:=by simp at hge;omega
   refine h'.ldA (k:=3) (i:=0) rfl (by simp[hl]) ?_
   rw[List.drop_zero,List.take_of_length_le om]
   refine h'.stA (k:=0) rfl (by simp[hl]) (by simp[hl,hzl]) h1 fun w2 h2=>?_
   have h2:St w0 w2 ((n11,Cs (qI z 0 (qS (come r x) 0 lv ov xv')) 64)::(n9,Cs (qR x) 170)::(n7,Cs (qE e) 45)::(n5,Cs (qS (come r x) 0 lv ov xv') 64)::(LX'++(LL++(LO++H)))):=h2
   rw[qB om]at h2
   refine h2.ldA (k:=0) (i:=0) rfl (by simp[hl]) ?_
   rw[List.drop_zero,List.take_of_length_le om]
   exact hno (by unfold ya;rw[if_pos hge]) w2 _ ⟨hl,h1⟩ (((((((h2.tail hn11).tail hn9).tail hn7).tail hn5).sub hr'.nx).sub hr'.nl).sub hr'.no)
  ·intro hlt
   have hlt:¬ zL r.objs x>=65536:=by simp at hlt;omega
   obtain⟨c1,c2,c3⟩:=qiC (x:=x) hb
   have hb':Bd (come r x) (n+1):=⟨by rw[c1];have:=hb.l;omega,by rw[c2];have:=hb.o;omega,c3⟩
   rw[<-hnu]
   refine qv7 (ob:=qR x) (m:=n+1) hzl ⟨lv,ov,xv',LL,LO,LX',rfl,hr',h'.perm (qK fun c=>?_)⟩ hall he hb' om (fun hf=>hno ?_) fun r' hf=>hyes r' ?_
   ·simp only[List.map_append,List.map_cons,List.sum_append,List.sum_cons];omega
   ·unfold ya;rw[if_neg hlt,<-hnu];exact hf
   ·unfold ya;rw[if_neg hlt,<-hnu];exact hf
 rw[qg]
 constructor
 ·intro heq
  have heq:zL r.objs x=r.objs.length:=by simp at heq;omega
  refine⟨xa,_,xc,rx h5,?_⟩
  refine h5.ldA (k:=1) (i:=0) rfl (by simp[qR]) ⟨⟨rfl,trivial⟩,?_⟩
  refine h5.newC fun n25 w6 hn25 h6=>?_
  have h6:St w0 w6 (((n25,Cs (qR x) 170)::(n11,Cs z 64)::(n9,Cs (qR x) 170)::(n7,Cs (qE e) 45)::[(n5,Cs (qS r 0 lv ov xv) 64)])++(LX++(LL++(LO++H)))):=h6
  obtain⟨g,cap,w7,LX',hru,hS,g7,hN⟩:=St.append (P:=P) 62 62 170 Tryz.t170 (.agg #[.bool false,.int .u32 0]) 2 8 Tryz.underlying62 qjs rfl rfl rfl rfl om h6 hx hr.nx (j:=0) rfl (by simp[qR]) (by simp[qR,Value.oneCell']) (by simp[maxLen];omega) om
  rw[hxv]at hru
  refine⟨_,_,_,w7,hru,?_⟩
  rw[qc,Nat.zero_add]
  refine g7.st1 (k:=4) rfl (by simp[qS]) rfl fun w8 g8=>?_
  have hcome:come r x={ r with objs:=r.objs++[x] }:=by unfold come;rw[if_pos heq]
  have hS:zC 2 170 (.slice (some ⟨g,0,none⟩) (r.objs.length+1) cap) (come r x).objs.length (vX (come r x).objs) LX':=by
   rw[hcome]
   show zC 2 170 _ (r.objs++[x]).length (vX (r.objs++[x])) LX'
   rw[List.length_append,show vX (r.objs++[x])=vX r.objs++qR x by simp[vX]]
   exact hS
  generalize hxv':Value.slice (some ⟨g,0,none⟩) (r.objs.length+1) cap=xv' at *
  have hni:x ∉ r.objs:=by
   intro hm
   have:=List.idxOf_lt_length_of_mem hm
   unfold zL at heq;omega
  refine fin w8 xv' LX' rfl ⟨by rw[hcome];exact hr.sl,by rw[hcome];exact hr.so,hS,hr.nl,hr.no,hN,by rw[hcome];exact hr.bl,by rw[hcome];exact hr.el⟩ ?_ ?_
  ·rw[hcome]
   exact g8.tail hn25
  ·rw[hcome]
   show(r.objs++[x]).idxOf x=r.objs.idxOf x
   rw[List.idxOf_append,if_neg hni,List.idxOf_eq_length hni]
   simp
 ·intro hne
  have hne:¬ zL r.objs x=r.objs.length:=by simp at hne;omega
  have hcome:come r x=r:=by unfold come;rw[if_neg hne]
  refine fin w5 xv LX rfl (by rw[hcome];exact hr) ?_ (by rw[hcome])
  rw[hcome]
  exact h5
end Go.Fx.Tryz
namespace Go.Fx.Mo
def vo(e:Ev)(i:Int):Ob:=(true,jE ((jE (e.a+jE i)).tdiv 4))
def Vf(e:Ev)(l:List Ob)(i:Nat):List Ob:=if l.getLast?=some (vo e i)then l else l++[vo e i]
def vJ(e:Ev):List Ob:=(List.range e.n.toNat).foldl (Vf e) []
theorem qqA(e:Ev)(l:List Ob)(i:Nat):(Vf e l i).length<=l.length+1:=by
 unfold Vf
 split<;>simp
theorem Yf(e:Ev):∀ i:Nat,((List.range i).foldl (Vf e) []).length<=i
 | 0=>by simp
 | i+1=>by
  rw[List.range_succ,List.foldl_append]
  have:=Yf e i
  refine Nat.le_trans (qqA _ _ _) ?_
  omega
def zF(e:Ev)(i:Int):List Ob->RR->Option RR
 | [],r=>some r
 | x::t,r=>match ya r 4 e x i with
  | none=>none
  | some r'=>zF e i t r'
def jt(r:RR)(e:Ev)(i:Int):Option RR:=
 if vL e=false then none else
 if e.kind=4 then zF e i (vJ e) r else
 if e.kind=14 then ya r 3 e (false,e.a) i else
 if e.kind=15 then ya r 2 e (false,e.a) i else
 if e.kind=11 then vE r ⟨5,e.th,e.n,0⟩ i else
 if e.kind=13 then vE r ⟨6,e.th,e.n,0⟩ i else vE r ⟨1,e.th,0,0⟩ i
theorem q2a{e:Ev}{i:Int}:∀ {l:List Ob} {r r':RR} {n:Nat},zF e i l r=some r'->Bd r n->Bd r' (n+l.length)
 | [],r,r',n,h,hb=>by
  cases h
  exact hb
 | x::t,r,r',n,h,hb=>by
  unfold zF at h
  split at h
  ·cases h
  ·rename_i r2 h2
   have:=q2a h (Jh h2 hb)
   rw[List.length_cons,show n+(t.length+1)=n+1+t.length by omega]
   exact this
theorem Jf{e:Ev}(h:vL e=true):0<=e.th/\e.th<8/\(e.kind=4->e.n<=16):=by
 unfold vL at h
 split at h
 ·cases h
 ·rename_i hk
  refine⟨by omega,by omega,fun h4=>?_⟩
  rw[if_pos h4]at h
  simp at h
  exact h.2
theorem Bd.more{r:RR}{n m:Nat}(h:Bd r n)(hm:n<=m):Bd r m:=⟨by have:=h.l;omega,by have:=h.o;omega,by have:=h.x;omega⟩
theorem qaJ{r r':RR}{e:Ev}{i:Int}{n:Nat}(h:jt r e i=some r')(hb:Bd r n):Bd r' (n+16):=by
 unfold jt at h
 cases hs:vL e
 ·rw[if_pos hs]at h;cases h
 ·rw[if_neg (by simp[hs])]at h
  split at h
  ·rename_i h4
   have h16:=(Jf hs).2.2 h4
   refine(q2a h hb).more ?_
   have:=Yf e e.n.toNat
   unfold vJ
   omega
  ·split at h
   ·exact(Jh h hb).more om
   ·split at h
    ·exact(Jh h hb).more om
    ·split at h
     ·exact(q8X h hb).more om
     ·split at h
      ·exact(q8X h hb).more om
      ·exact(q8X h hb).more om
end Go.Fx.Mo
namespace Go.Fx.Tryz
open Go Go.Fx Go.Fx.Mo
open Go.Proofs
variable {w0 w:World} {H Y:qP} {K:KT}
set_option maxRecDepth 20000
theorem qJM(w:World):(Instr.buildSlice 62 0 ([]:List (Nat × Value)).toArray).run P w=.ok (.slice (some ⟨w.heap.size,0,none⟩) 0 0) (w.alloc (.cells #[] 170 (0,0))):=kr
theorem qus(b:Bool)(x:Int)(wq:World):(Instr.build 170 [(0,(Value.bool b)),(1,(Value.int .u32 x))].toArray).run P wq=.ok (.agg (qR (b,x)).toArray) wq:=kr
theorem q69(x:Int)(wq:World):(Instr.build 170 [(1,(Value.int .u32 x))].toArray).run P wq=.ok (.agg (qR (false,x)).toArray) wq:=kr
theorem qMp:qn P 170=#[.bool false,.int .u32 0]:=kr
theorem Qg(size:Nat)(e:TypeId)(n:Nat):zC size e (.slice (some ⟨n,0,none⟩) 0 0) 0 [] [(n,Cs [] e)]:=⟨by simp,.inr ⟨n,0,[],rfl,rfl,by omega,by simp[maxLen],by simp,by simp⟩⟩
theorem qxj{e:Ev}(h:St w0 w H)(h16:e.n<=16)(hK:∀ w' a c Lo,zC 2 170 (.slice a (vJ e).length c) (vJ e).length (vX (vJ e)) Lo->zr w0 Lo->St w0 w' (Lo++H)->K (.slice a (vJ e).length c) w') :
  qa P 84 [.agg (qE e).toArray] w K:=by
 refine qIK _ _ _ ?_
 rw[qIw,qlK]
 refine h.newC fun n2 w1 hn2 h1=>?_
 rw[qnE]
 refine⟨_,_,_,_,qJM w1,?_⟩
 have h2:=h1.alloc (.cells #[] 170 (0,0))
 have hn:=h1.le
 generalize w1.heap.size=n at h2 hn
 have h2:St w0 (w1.alloc (.cells #[] 170 (0,0))) ([(n,Cs [] 170)]++((n2,Cs (qE e) 45)::H)):=h2
 rw[qmy,qpx]
 refine⟨fun m ee w=>∃ (i:Nat) (l:List Ob) (a:Option Addr) (c:Nat) (Lt:qP),l=(List.range i).foldl (Vf e) []/\i<=e.n.toNat/\m=e.n.toNat-i/\
  ee=ql.mk 38 [(4,(Value.int .i64 i)),(3,(Value.slice a l.length c)),(1,(Value.pointer (some (Addr.mk n2 0 none)))),(2,(Value.slice none 0 0))] []/\
  zC 2 170 (.slice a l.length c) l.length (vX l) Lt/\zr w0 Lt/\St w0 w (Lt++((n2,Cs (qE e) 45)::H)),
  ⟨e.n.toNat,0,[],_,_,[(n,Cs [] 170)],rfl,by omega,rfl,rfl,Qg 2 170 n,by simpa [zr]using hn,h2⟩,?_⟩
 rintro m ee w ⟨i,l,a,c,Lt,hl,hi,rfl,rfl,hS,hN,hw⟩
 show qjX ..
 rw[qeq]
 have hln:l.length<=i:=by rw[hl];exact Yf e i
 have rd:∀ {w':World} {Z:qP} {j:Nat} {v:Value},St w0 w' (Z++((n2,Cs (qE e) 45)::H))->(qE e)[j]?=some v->w'.cell? ((Addr.mk n2 0 none).add j)=some v:=fun h' hv=>by
  rw[qc,Nat.zero_add,qv (h'.has n2 (Cs (qE e) 45) (by simp))];exact hv
 refine⟨_,rd hw rfl,?_⟩
 rw[qg]
 constructor
 ·intro hlt
  have hlt:(i:Int)<e.n:=by simpa using hlt
  rw[qo0]
  refine⟨_,rd hw rfl,by decide,_,fun wq=>qus true _ wq,?_⟩
  rw[qMp]
  refine hw.newC fun n35 w3 hn35 h3=>h3.stA (k:=0) rfl rfl (by simp) (by simp[qR,Value.oneCell']) fun w4 h4=>?_
  have h4:St w0 w4 ((n35,Cs (qR (vo e i)) 170)::(Lt++((n2,Cs (qE e) 45)::H))):=h4
  have hd:=h4.drew
  generalize hY:(fun e' w'=>∃ m,m<e.n.toNat-i/\∃ (i:Nat) (l:List Ob) (a:Option Addr) (c:Nat) (Lt:qP),l=(List.range i).foldl (Vf e) []/\i<=e.n.toNat/\m=e.n.toNat-i/\
   e'=ql.mk 38 [(4,(Value.int .i64 i)),(3,(Value.slice a l.length c)),(1,(Value.pointer (some (Addr.mk n2 0 none)))),(2,(Value.slice none 0 0))] []/\
   zC 2 170 (.slice a l.length c) l.length (vX l) Lt/\zr w0 Lt/\St w0 w' (Lt++((n2,Cs (qE e) 45)::H)))=Y
  have hstep:(List.range (i+1)).foldl (Vf e) []=Vf e l i:=by rw[List.range_succ,List.foldl_append,<-hl];rfl
  have wr:IntKind.wrap .i64 ((i:Int)+1)=((i+1:Nat):Int):=by rw[qk om om];rfl
  have new:∀ w5,St w0 w5 ((n35,Cs (qR (vo e i)) 170)::(Lt++((n2,Cs (qE e) 45)::H)))->l.getLast?≠some (vo e i)->q3Z true (Addr.mk n2 0 none) none 0 0 (i:Int) (Addr.mk n35 0 none) a l.length c w5 K Y:=by
   intro w5 h5 hne
   rw[q6p,qm]
   refine h5.ldA (k:=0) (i:=0) rfl (by simp[qR]) ⟨⟨rfl,trivial⟩,?_⟩
   refine h5.newC fun n49 w6 hn49 h6=>?_
   have h6:St w0 w6 (((n49,Cs (qR (vo e i)) 170)::[(n35,Cs (qR (vo e i)) 170)])++(Lt++((n2,Cs (qE e) 45)::H))):=h6
   obtain⟨g,cap,w7,L',hru,hS',g7,hN'⟩:=St.append (P:=P) 62 62 170 Tryz.t170 (.agg #[.bool false,.int .u32 0]) 2 8 Tryz.underlying62 qjs rfl rfl rfl rfl om h6 hS hN (j:=0) rfl (by simp[qR]) (by simp[qR,Value.oneCell']) (by simp[maxLen];omega) om
   refine⟨_,_,_,w7,hru,?_⟩
   have e1:Vf e l i=l++[vo e i]:=by unfold Vf;rw[if_neg hne]
   have e2:l.length+1=(l++[vo e i]).length:=by simp
   rw[e2]at hS' ⊢
   rw[q6n,<-hY]
   refine⟨e.n.toNat-(i+1),by omega,i+1,l++[vo e i],some ⟨g,0,none⟩,cap,L',by rw[hstep,e1],by omega,rfl,by rw[wr],?_,hN',(g7.tail hn49).tail hn35⟩
   rw[show vX (l++[vo e i])=vX l++qR (vo e i)by simp[vX]]
   exact hS'
  have old:∀ w5,St w0 w5 ((n35,Cs (qR (vo e i)) 170)::(Lt++((n2,Cs (qE e) 45)::H)))->l.getLast?=some (vo e i)->q3Z false (Addr.mk n2 0 none) none 0 0 (i:Int) (Addr.mk n35 0 none) a l.length c w5 K Y:=by
   intro w5 h5 heq
   rw[q6p,qd,q6n,<-hY]
   refine⟨e.n.toNat-(i+1),by omega,i+1,l,a,c,Lt,?_,by omega,rfl,by rw[wr],hS,hN,h5.tail hn35⟩
   rw[hstep];unfold Vf;rw[if_pos heq]
  refine⟨l.length,fun wq _=>jj wq,?_⟩
  rcases List.eq_nil_or_concat l with h0 | ⟨l0,x0,h0⟩
  ·have hl0:l.length=0:=by rw[h0];rfl
   have hb:(((l.length:Nat):Int)==0)=true:=by rw[hl0];rfl
   rw[hb,qm]
   exact new _ hd (by rw[h0];simp)
  ·have hl0:l.length=l0.length+1:=by rw[h0];simp
   have hb:(((l.length:Nat):Int)==0)=false:=by rw[hl0];simp;omega
   rw[hb,qd]
   refine⟨l.length,fun wq _=>jj wq,?_⟩
   have hw1:IntKind.wrap .i64 (((l.length:Nat):Int)-1)=(l0.length:Int):=by rw[qk om om];omega
   rw[hw1]
   obtain⟨g,cc,hg,hld⟩:=QC hS (w:=w4.drew) (i:=l0.length) (fun y hy=>hd.has _ _ (by simp[hy])) om
   obtain⟨hsa,-⟩:a=some ⟨g,0,none⟩/\c=cc:=by simpa using hg
   subst hsa
   refine⟨by omega,by omega,hld _ ?_⟩
   have hlast:l[l0.length]'om=x0:=by subst h0;simp
   rw[q7g om,hlast]
   refine hd.ldA (k:=0) (i:=0) rfl (by simp[qR]) ?_
   rw[show((qR (vo e i)).drop 0).take 2=qR (vo e i) from rfl]
   refine⟨_,fun wq=>qBf 29 30 wq x0 (vo e i),?_⟩
   have hgl:l.getLast?=some x0:=by rw[h0];simp
   by_cases hx:x0=vo e i
   ·rw[decide_eq_true hx,Bool.not_true]
    exact old _ hd (by rw[hgl,hx])
   ·rw[decide_eq_false hx,Bool.not_false]
    exact new _ hd (by rw[hgl];simpa using hx)
 ·intro hge
  have hge:e.n<=(i:Int):=by simpa using hge
  have:i=e.n.toNat:=by omega
  subst this
  rw[qlH]
  have hl:l=vJ e:=hl
  subst hl
  refine hK w a c Lt hS hN (St.tail (b:=n2) (o:=Cs (qE e) 45) (hw.perm List.perm_middle) hn2)
end Go.Fx.Tryz
namespace Go.Fx.Tryz
open Go Go.Fx Go.Fx.Mo
open Go.Proofs
variable {w0 w:World} {H Y:qP} {K:KT}
set_option maxRecDepth 20000
theorem qct(k t n:Int)(wq:World):(Instr.build 72 [(0,(Value.int .i64 k)),(1,(Value.int .i64 t)),(2,(Value.int .i64 n))].toArray).run P wq=.ok (.agg (zu ⟨k,t,n,0⟩).toArray) wq:=kr
theorem qur(k t:Int)(wq:World):(Instr.build 72 [(0,(Value.int .i64 k)),(1,(Value.int .i64 t))].toArray).run P wq=.ok (.agg (zu ⟨k,t,0,0⟩).toArray) wq:=kr
theorem q7U{n:Nat}{z cs:List Value}{J:qP}{Q:Array Value->World->Prop}(hz:z.length=20)(hc:jL cs)(h:St w0 w ((n,Cs z 64)::J))(hk:∀ w2,St w0 w2 ((n,Cs cs 64)::J)->Q cs.toArray w2) :
  qN 20 (Addr.mk n 0 none) cs.toArray w (fun w'=>qf 20 (Addr.mk n 0 none) w' (fun c=>Q c w')):=by
 refine h.stA (k:=0) rfl (by simp[hc.len]) (by simp[hz,hc.len]) hc.one fun w2 h2=>?_
 have h2:St w0 w2 ((n,Cs (qI z 0 cs) 64)::J):=h2
 rw[qB (by rw[hc.len,hz])]at h2
 refine h2.ldA (k:=0) (i:=0) rfl (by simp[hc.len]) ?_
 rw[List.drop_zero,List.take_of_length_le (by rw[hc.len];omega)]
 exact hk w2 h2
theorem Jz{k n:Nat}{cs:List Value}{J:qP}{Q:Array Value->Prop}(h:St w0 w J)(hk:J[k]?=some (n,Cs cs 64))(hc:jL cs)(hq:Q cs.toArray):qf 20 (Addr.mk n 0 none) w Q:=by
 refine h.ldA hk (i:=0) (by simp[hc.len]) ?_
 rw[List.drop_zero,List.take_of_length_le (by rw[hc.len];omega)]
 exact hq
section
variable {n10 n8 n6:Nat} {z:List Value} {e:Ev} {r:RR} {n:Nat} {i:Int} {ws:List Ob} {Lo:qP}
abbrev VM(n10 n8 n6:Nat)(z:List Value)(e:Ev)(cs:List Value)(R:qP):List (Nat × Obj):=(n10,Cs z 64)::(n8,Cs (qE e) 45)::(n6,Cs cs 64)::R
theorem q3F{Q:Option RR->Prop}{cs:List Value}(hz:z.length=20)(hn:∀ y∈[n10,n8,n6],w0.heap.size<=y) :
  (∀ (b:Bool) w' cs',jL cs'->St w0 w' (VM n10 n8 n6 z e cs H)->(∀ w2,St w0 w2 H->K (.tuple [.agg cs'.toArray,.bool b].toArray) w2)->
   qN 20 (Addr.mk n10 0 none) cs'.toArray w' (fun w2=>qf 20 (Addr.mk n10 0 none) w2 (fun c=>K (.tuple [.agg c,.bool b].toArray) w2)))/\
  (∀ w' cs' r',vt w0 w' r' cs' (VM n10 n8 n6 z e cs H)->(∀ w2,vt w0 w2 r' cs' H->K (.tuple [.agg cs'.toArray,.bool true].toArray) w2)->
   qN 20 (Addr.mk n10 0 none) cs'.toArray w' (fun w2=>qf 20 (Addr.mk n10 0 none) w2 (fun c=>K (.tuple [.agg c,.bool true].toArray) w2))):=by
 have h10:=hn n10 (by simp)
 have h8:=hn n8 (by simp)
 have h6:=hn n6 (by simp)
 refine⟨fun b w' cs' hc h' hk=>q7U (Q:=fun c w2=>K (.tuple [.agg c,.bool b].toArray) w2) hz hc h' fun w2 h2=>hk w2 (((h2.tail h10).tail h8).tail h6),fun w' cs' r' h' hk=>?_⟩
 obtain⟨Z,hZ,hs,hback⟩:=h'.open'
 refine q7U (Q:=fun c w2=>K (.tuple [.agg c,.bool true].toArray) w2) hz h'.any hs fun w2 h2=>hk w2 ?_
 exact(((hback w2 ((n10,Cs cs' 64)::(n8,Cs (qE e) 45)::(n6,Cs cs 64)::H) h2).tail h10).tail h8).tail h6
theorem q9Z{cs:List Value}{wa:Option Addr}{wc:Nat}(hz:z.length=20)(hzc:qn P 64=z.toArray)(hn:∀ y∈[n10,n8,n6],w0.heap.size<=y)(he:0<=e.th/\e.th<8)(hb:Bd r n)(hm:n<1000000)
  (hS:zC 2 170 (.slice wa ws.length wc) ws.length (vX ws) Lo) (hN:zr w0 Lo) (hwl:ws.length<=16) (h:vt w0 w r cs (VM n10 n8 n6 z e cs (Lo++H)))
  (hno:zF e i ws r=none->∀ w' cs',jL cs'->St w0 w' H->K (.tuple [.agg cs'.toArray,.bool false].toArray) w')
  (hyes:∀ r',zF e i ws r=some r'->∀ w' cs',vt w0 w' r' cs' H->K (.tuple [.agg cs'.toArray,.bool true].toArray) w') (b0:Bool) :
  za (qjY K) (ql.mk 98 [(6,(Value.pointer (some (Addr.mk n10 0 none)))),(2,qj i),(4,(Value.pointer (some (Addr.mk n8 0 none)))),(3,(Value.pointer (some (Addr.mk n6 0 none)))),(9,qj 0),(8,(Value.slice wa ws.length wc)),(7,(Value.bool b0))] []) w:=by
 have h10:=hn n10 (by simp)
 have h8:=hn n8 (by simp)
 have h6:=hn n6 (by simp)
 refine⟨fun m ee w=>∃ (j:Nat) (rj:RR) (csj:List Value),j<=ws.length/\m=ws.length-j/\ee=ql.mk 98 [(6,(Value.pointer (some (Addr.mk n10 0 none)))),(2,qj i),(4,(Value.pointer (some (Addr.mk n8 0 none)))),(3,(Value.pointer (some (Addr.mk n6 0 none)))),(9,qj (j:Nat)),(8,(Value.slice wa ws.length wc)),(7,(Value.bool b0))] []/\
   zF e i (ws.drop j) rj=zF e i ws r/\Bd rj (n+j)/\vt w0 w rj csj (VM n10 n8 n6 z e csj (Lo++H)),
  ⟨ws.length,0,r,cs,by omega,rfl,rfl,rfl,hb,h⟩,?_⟩
 rintro m ee w1 ⟨j,rj,csj,hj,rfl,rfl,hrt,hbj,hw⟩
 show qiJ ..
 rw[qeC]
 refine⟨ws.length,fun wq _=>jj wq,?_⟩
 rw[qg]
 constructor
 ·intro hlt
  have hlt:j<ws.length:=by simpa using hlt
  rw[qnn]
  obtain⟨Z,hZ,hs,hback⟩:=hw.open'
  have hd:=hs.drew
  obtain⟨g,cc,hg,hld⟩:=QC hS (w:=w1.drew) (i:=j) (fun y hy=>hd.has _ _ (by simp[hy])) hlt
  obtain⟨hsa,-⟩:wa=some ⟨g,0,none⟩/\wc=cc:=by simpa using hg
  subst hsa
  refine⟨by omega,by omega,?_⟩
  refine Jz hd (k:=2) rfl hw.any ?_
  refine hd.ldA (k:=1) (i:=0) rfl (by simp[qu]) (hld _ ?_)
  rw[q7g hlt]
  have hwd:=hback w1.drew _ hd
  have hdrop:ws.drop j=ws[j]::ws.drop (j+1):=List.drop_eq_getElem_cons hlt
  rw[hdrop,zF]at hrt
  generalize hY:(fun e' w'=>∃ m,m<ws.length-j/\∃ (j:Nat) (rj:RR) (csj:List Value),j<=ws.length/\m=ws.length-j/\e'=ql.mk 98 [(6,(Value.pointer (some (Addr.mk n10 0 none)))),(2,qj i),(4,(Value.pointer (some (Addr.mk n8 0 none)))),(3,(Value.pointer (some (Addr.mk n6 0 none)))),(9,qj (j:Nat)),(8,(Value.slice (some ⟨g,0,none⟩) ws.length wc)),(7,(Value.bool b0))] []/\
   zF e i (ws.drop j) rj=zF e i ws r/\Bd rj (n+j)/\vt w0 w' rj csj (VM n10 n8 n6 z e csj (Lo++H)))=Y
  have bad:∀ (w':World) (n99:Nat) (cs':List Value),w0.heap.size<=n99->ya rj 4 e ws[j] i=none->jL cs'->St w0 w' ((n99,Cs z 64)::VM n10 n8 n6 z e csj (Lo++H))->
    qN 20 (Addr.mk n99 0 none) cs'.toArray w' (fun w2=>q5a (Addr.mk n10 0 none) i (Addr.mk n8 0 none) (Addr.mk n6 0 none) (some ⟨g,0,none⟩) ws.length wc (j:Nat) b0 (Addr.mk n99 0 none) false w2 K Y):=by
   intro w' n99 cs' hn99 hf hc h'
   refine h'.stA (k:=0) rfl (by simp[hc.len]) (by simp[hz,hc.len]) hc.one fun w2 h2=>?_
   have h2:St w0 w2 ((n99,Cs (qI z 0 cs') 64)::VM n10 n8 n6 z e csj (Lo++H)):=h2
   rw[q6P,Bool.not_false,qm]
   have h3:=h2.tail hn99
   refine Jz h3 (k:=2) rfl hw.any ?_
   refine(q3F (Q:=fun _=>True) (H:=Lo++H) hz hn).1 false w2 csj hw.any h3 fun w4 h4=>hno ?_ w4 csj hw.any (h4.sub hN)
   rw[<-hrt,hf]
  have good:∀ (w':World) (n99:Nat) (cs':List Value) (r':RR),w0.heap.size<=n99->ya rj 4 e ws[j] i=some r'->vt w0 w' r' cs' ((n99,Cs z 64)::VM n10 n8 n6 z e csj (Lo++H))->
    qN 20 (Addr.mk n99 0 none) cs'.toArray w' (fun w2=>q5a (Addr.mk n10 0 none) i (Addr.mk n8 0 none) (Addr.mk n6 0 none) (some ⟨g,0,none⟩) ws.length wc (j:Nat) b0 (Addr.mk n99 0 none) true w2 K Y):=by
   intro w' n99 cs' r' hn99 hf h'
   have hc:=h'.any
   obtain⟨Z',hZ',hs',hback'⟩:=h'.open'
   refine hs'.stA (k:=0) rfl (by simp[hc.len]) (by simp[hz,hc.len]) hc.one fun w2 h2=>?_
   have h2:St w0 w2 ((n99,Cs (qI z 0 cs') 64)::(VM n10 n8 n6 z e csj (Lo++H)++Z')):=h2
   rw[qB (by rw[hc.len,hz])]at h2
   rw[q6P,Bool.not_true,qd,qfh]
   refine Jz h2 (k:=0) rfl hc ?_
   refine h2.stA (k:=3) rfl (by simp[hc.len]) (by simp[hw.any.len,hc.len]) hc.one fun w3 h3=>?_
   have h3:St w0 w3 ((n99,Cs cs' 64)::(VM n10 n8 n6 z e (qI csj 0 cs') (Lo++H)++Z')):=h3
   rw[qB (by rw[hc.len,hw.any.len])]at h3
   rw[qeg,<-hY]
   refine⟨ws.length-(j+1),by omega,j+1,r',cs',by omega,rfl,?_,?_,Jh hf hbj,hback' w3 _ (h3.tail hn99)⟩
   ·rw[qk om om];rfl
   ·rw[<-hrt,hf]
  constructor
  ·refine q0A hwd he hbj om (fun hf w' cs' hc h'=>⟨_,false,rfl,?_⟩) (fun r' hf w' cs' h'=>⟨_,true,rfl,?_⟩)
   ·rw[hzc]
    exact h'.newC fun n99 w2 hn99 h2=>bad w2 n99 cs' hn99 hf hc h2
   ·rw[hzc]
    exact h'.newC fun n99 w2 hn99 h2=>good w2 n99 cs' r' hn99 hf h2
  ·rw[hzc]
   refine hwd.newC fun n131 w2 hn131 h2=>?_
   refine q0A h2 he hbj om (fun hf w' cs' hc h'=>⟨_,false,rfl,bad w' n131 cs' hn131 hf hc h'⟩) (fun r' hf w' cs' h'=>⟨_,true,rfl,good w' n131 cs' r' hn131 hf h'⟩)
 ·intro hge
  have hge:ws.length<=j:=by simpa using hge
  have:j=ws.length:=by omega
  subst this
  rw[qdt]
  rw[List.drop_length,zF]at hrt
  obtain⟨Z,hZ,hs,hback⟩:=hw.open'
  refine Jz hs (k:=2) rfl hw.any ?_
  refine(q3F (Q:=fun _=>True) (H:=Lo++H) hz hn).2 w1 csj rj hw fun w2 h2=>hyes rj hrt.symm w2 csj ?_
  obtain⟨Z',hZ',hs',hback'⟩:=h2.open'
  exact hback' w2 H (St.sub (L:=Lo) (by rw[List.append_assoc]at hs';exact hs') hN)
end
theorem qiT{cs:List Value}{r:RR}{e:Ev}{i:Int}{n:Nat}(h:vt w0 w r cs H)(hb:Bd r n)(hm:n<1000000)
  (hno:jt r e i=none->∀ w' cs',jL cs'->St w0 w' H->K (.tuple [.agg cs'.toArray,.bool false].toArray) w')
  (hyes:∀ r',jt r e i=some r'->∀ w' cs',vt w0 w' r' cs' H->K (.tuple [.agg cs'.toArray,.bool true].toArray) w') :
  qa P 58 [.agg cs.toArray,.agg (qE e).toArray,.int .i64 i] w K:=by
 refine qIo _ _ _ _ _ ?_
 obtain⟨z,hz,hzl⟩:=qGM
 rw[qHw,qlI,hz]
 refine h.newC fun n6 w1 hn6 g1=>g1.newC fun n8 w2 hn8 g2=>g2.newC fun n10 w3 hn10 g3=>?_
 have g3:vt w0 w3 r cs (VM n10 n8 n6 z e cs H):=g3
 have hn:∀ y∈[n10,n8,n6],w0.heap.size<=y:=by
  intro y hy
  simp at hy
  rcases hy with rfl | rfl | rfl<;>assumption
 obtain⟨Z,hZ,hs,hback⟩:=g3.open'
 rw[qm8]
 refine hs.ldA (k:=1) (i:=0) rfl (by simp[qu]) ?_
 refine qnU hs e fun w4 h4=>⟨_,rfl,?_⟩
 have g4:=hback w4 _ h4
 have ends:=q3F (w0:=w0) (K:=K) (e:=e) (cs:=cs) (H:=H) (Q:=fun _=>True) hzl hn
 cases hsh:vL e
 ·rw[Bool.not_false,qm]
  refine Jz h4 (k:=2) rfl g4.any ?_
  exact ends.1 false w4 cs g4.any g4.base fun w5 h5=>hno (by unfold jt;rw[if_pos hsh]) w5 cs g4.any h5
 ·rw[Bool.not_true,qd,qof]
  obtain⟨h0,h8,h16⟩:=Jf hsh
  have hsf:¬ vL e=false:=by simp[hsh]
  unfold jt at hno hyes
  simp only[if_neg hsf]at hno hyes
  have rd:∀ {j:Nat} {v:Value},(qE e)[j]?=some v->w4.cell? ((Addr.mk n8 0 none).add j)=some v:=fun hv=>by
   rw[qc,Nat.zero_add,h4.cell (k:=1) rfl];exact hv
  have rd0:∀ {v:Value},(qE e)[0]?=some v->w4.cell? (Addr.mk n8 0 none)=some v:=fun hv=>by
   rw[h4.cell (k:=1) rfl];exact hv
  refine⟨_,rd0 rfl,?_⟩
  rw[qmc]
  cases k4:(e.kind==4)
  ·have k4':¬ e.kind=4:=by simpa using k4
   simp only[if_neg k4']at hno hyes
   rw[qd]
   cases k14:(e.kind==14)
   ·have k14':¬ e.kind=14:=by simpa using k14
    simp only[if_neg k14']at hno hyes
    rw[qd]
    cases k15:(e.kind==15)
    ·have k15':¬ e.kind=15:=by simpa using k15
     simp only[if_neg k15']at hno hyes
     rw[qd]
     cases k11:(e.kind==11)
     ·have k11':¬ e.kind=11:=by simpa using k11
      simp only[if_neg k11']at hno hyes
      rw[qd]
      cases k13:(e.kind==13)
      ·have k13':¬ e.kind=13:=by simpa using k13
       simp only[if_neg k13']at hno hyes
       rw[qd,qhe]
       refine Jz h4 (k:=2) rfl g4.any ?_
       refine⟨_,rd rfl,_,fun wq=>qur 1 e.th wq,?_⟩
       exact q32 g4 ⟨h0,h8⟩ hb om (fun hf w' cs' hc h'=>⟨_,false,rfl,ends.1 false w' cs' hc h' fun w2 h2=>hno hf w2 cs' hc h2⟩) (fun r' hf w' cs' h'=>⟨_,true,rfl,ends.2 w' cs' r' h' fun w2 h2=>hyes r' hf w2 cs' h2⟩)
      ·have k13':e.kind=13:=by simpa using k13
       simp only[if_pos k13']at hno hyes
       rw[qm]
       refine Jz h4 (k:=2) rfl g4.any ?_
       refine⟨_,rd rfl,_,rd rfl,_,fun wq=>qct 6 e.th e.n wq,?_⟩
       exact q32 g4 ⟨h0,h8⟩ hb om (fun hf w' cs' hc h'=>⟨_,false,rfl,ends.1 false w' cs' hc h' fun w2 h2=>hno hf w2 cs' hc h2⟩) (fun r' hf w' cs' h'=>⟨_,true,rfl,ends.2 w' cs' r' h' fun w2 h2=>hyes r' hf w2 cs' h2⟩)
     ·have k11':e.kind=11:=by simpa using k11
      simp only[if_pos k11']at hno hyes
      rw[qm]
      refine Jz h4 (k:=2) rfl g4.any ?_
      refine⟨_,rd rfl,_,rd rfl,_,fun wq=>qct 5 e.th e.n wq,?_⟩
      exact q32 g4 ⟨h0,h8⟩ hb om (fun hf w' cs' hc h'=>⟨_,false,rfl,ends.1 false w' cs' hc h' fun w2 h2=>hno hf w2 cs' hc h2⟩) (fun r' hf w' cs' h'=>⟨_,true,rfl,ends.2 w' cs' r' h' fun w2 h2=>hyes r' hf w2 cs' h2⟩)
    ·have k15':e.kind=15:=by simpa using k15
     simp only[if_pos k15']at hno hyes
     rw[qm]
     refine Jz h4 (k:=2) rfl g4.any ?_
     refine h4.ldA (k:=1) (i:=0) rfl (by simp[qu]) ?_
     refine⟨_,rd rfl,_,fun wq=>q69 e.a wq,?_⟩
     exact q0A g4 ⟨h0,h8⟩ hb om (fun hf w' cs' hc h'=>⟨_,false,rfl,ends.1 false w' cs' hc h' fun w2 h2=>hno hf w2 cs' hc h2⟩) (fun r' hf w' cs' h'=>⟨_,true,rfl,ends.2 w' cs' r' h' fun w2 h2=>hyes r' hf w2 cs' h2⟩)
   ·have k14':e.kind=14:=by simpa using k14
    simp only[if_pos k14']at hno hyes
    rw[qm]
    refine Jz h4 (k:=2) rfl g4.any ?_
    refine h4.ldA (k:=1) (i:=0) rfl (by simp[qu]) ?_
    refine⟨_,rd rfl,_,fun wq=>q69 e.a wq,?_⟩
    exact q0A g4 ⟨h0,h8⟩ hb om (fun hf w' cs' hc h'=>⟨_,false,rfl,ends.1 false w' cs' hc h' fun w2 h2=>hno hf w2 cs' hc h2⟩) (fun r' hf w' cs' h'=>⟨_,true,rfl,ends.2 w' cs' r' h' fun w2 h2=>hyes r' hf w2 cs' h2⟩)
  ·have k4':e.kind=4:=by simpa using k4
   simp only[if_pos k4']at hno hyes
   rw[qm,qnI]
   refine h4.ldA (k:=1) (i:=0) rfl (by simp[qu]) ?_
   refine qxj h4 (h16 k4') fun w5 a c Lo hS hN h5=>⟨a,_,c,rfl,?_⟩
   rw[qmH,qqq]
   have hwl:(vJ e).length<=16:=by
    have:=Yf e e.n.toNat
    have:=h16 k4'
    unfold vJ;omega
   refine q9Z hzl hz hn ⟨h0,h8⟩ hb hm hS hN hwl (hback w5 _ (h5.perm (qK fun f=>?_))) hno hyes false
   simp only[List.map_append,List.map_cons,List.sum_append,List.sum_cons];omega
end Go.Fx.Tryz
namespace Go.Fx.Mo
def yq:List Ev->Int->RR->Option RR
 | [],_,r=>some r
 | e::t,i,r=>match jt r e i with
  | none=>none
  | some r'=>yq t (i+1) r'
def QA(l:List Ev):RR ⊕ Int:=if l.length > 20000 then .inr 2 else match yq l 0 rr0 with
 | none=>.inr 300
 | some r=>.inl r
end Go.Fx.Mo
namespace Go.Fx.Tryz
open Go Go.Fx Go.Fx.Mo
open Go.Proofs
variable {w0 w:World} {H Y:qP} {K:KT}
set_option maxRecDepth 20000
def zU(x:Int):List Value:=[qy,qy,qy]++(List.replicate 16 (.bool false)++[qj x])
theorem JG:qn P 64=(zU 0).toArray:=kr
theorem qt5(wq:World):(Instr.build 64 [].toArray).run P wq=.ok (.agg (zU 0).toArray) wq:=kr
theorem q60(x:Int)(wq:World):(Instr.build 64 [(5,(Value.int .i64 x))].toArray).run P wq=.ok (.agg (zU x).toArray) wq:=kr
theorem jT(x:Int):jL (zU x):=⟨by simp[zU],fun v hv=>by
 simp[zU]at hv
 rcases hv with rfl | rfl | rfl<;>rfl⟩
theorem qGy:qS rr0 0 qy qy qy=(zU 0).set 3 (.bool true):=kr
theorem qxK(h:St w0 w H)(hK:∀ w' cs,vt w0 w' rr0 cs H->K (.agg cs.toArray) w'):qa P 57 [] w K:=by
 refine qIN _ _ ?_
 rw[qFM,JG]
 have h0:=jT 0
 refine h.newC fun n0 w1 hn0 h1=>⟨_,qt5,?_⟩
 refine h1.newC fun n3 w2 hn3 h2=>h2.stA (k:=0) rfl (by simp[h0.len]) (by simp[h0.len]) h0.one fun w3 h3=>?_
 have h3:St w0 w3 ((n3,Cs (qI (zU 0) 0 (zU 0)) 64)::(n0,Cs (zU 0) 64)::H):=h3
 rw[qB rfl]at h3
 refine⟨by decide,by decide,?_⟩
 rw[qc,qc]
 refine h3.st1 (k:=0) rfl (by rw[h0.len];decide) rfl fun w4 h4=>?_
 have h4:St w0 w4 ((n3,Cs ((zU 0).set 3 (.bool true)) 64)::(n0,Cs (zU 0) 64)::H):=h4
 rw[<-qGy]at h4
 have ha:jL (qS rr0 0 qy qy qy):=⟨jg rfl rfl,jl rfl rfl rfl⟩
 refine Jz h4 (k:=0) rfl ha ?_
 refine h4.stA (k:=1) rfl (by simp[ha.len]) (by simp[ha.len,h0.len]) ha.one fun w5 h5=>?_
 have h5:St w0 w5 ((n3,Cs (qS rr0 0 qy qy qy) 64)::(n0,Cs (qI (zU 0) 0 (qS rr0 0 qy qy qy)) 64)::H):=h5
 rw[qB (by rw[ha.len,h0.len])]at h5
 refine Jz h5 (k:=1) rfl ha ?_
 exact hK w5 _ ⟨qy,qy,qy,[],[],[],rfl,⟨zC.nil 4 72,zC.nil 1 3,zC.nil 2 170,zr.nil _,zr.nil _,zr.nil _,rfl,rfl⟩,(h5.tail hn3).tail hn0⟩
theorem q22{l:List Ev}{ov:Value}(h:St w0 w H)(hrow:∀ w',St w0 w' H->Qt w' 6 ov l.length (zq l))
  (hbad:∀ x,QA l=.inr x->x≠0->∀ w',St w0 w' H->K (.agg (zU x).toArray) w')
  (hok:∀ r,QA l=.inl r->l.length<=20000->Bd r (16*l.length)->∀ w' cs,vt w0 w' r cs H->K (.agg cs.toArray) w'):qa P 17 [ov] w K:=by
 obtain⟨sa,sc,hov⟩:=(hrow w h).form
 rw[hov]
 refine qIp _ _ _ _ _ ?_
 rw[qIv,qmU,JG]
 have h0:=jT 0
 refine h.newC fun n2 w1 hn2 h1=>?_
 rw[qps]
 refine⟨l.length,fun wq _=>yb wq,?_⟩
 rw[qg]
 have giveup:∀ (x:Int) (w':World) (z:List Value) (J:qP),jL z->St w0 w' ((n2,Cs z 64)::J)->(∀ w2,St w0 w2 ((n2,Cs (zU x) 64)::J)->K (.agg (zU x).toArray) w2)->
   qN 20 (Addr.mk n2 0 none) (zU x).toArray w' (fun w8=>qf 20 (Addr.mk n2 0 none) w8 (fun cs9=>K (Value.agg cs9) w8)):=fun x w' z J hz h' hk=>
  q7U (Q:=fun c w2=>K (.agg c) w2) hz.len (jT x) h' hk
 constructor
 ·intro hgt
  have hgt:l.length > 20000:=by simp at hgt;omega
  refine⟨_,q60 2,giveup 2 w1 _ _ h0 h1 fun w2 h2=>hbad 2 (by unfold QA;rw[if_pos hgt]) (by decide) w2 (h2.tail hn2)⟩
 ·intro hle
  have hle:l.length<=20000:=by simp at hle;omega
  rw[qmt]
  refine qxK h1 fun w2 cs0 g2=>⟨_,rfl,?_⟩
  rw[JG]
  refine g2.newC fun n15 w3 hn15 g3=>?_
  obtain⟨Z,hZ,hs,hback⟩:=g3.open'
  refine hs.stA (k:=0) rfl (by simp[g2.any.len]) (by simp[g2.any.len,h0.len]) g2.any.one fun w4 h4=>?_
  have h4:St w0 w4 ((n15,Cs (qI (zU 0) 0 cs0) 64)::((n2,Cs (zU 0) 64)::H++Z)):=h4
  rw[qB (by rw[g2.any.len,h0.len])]at h4
  have g4:vt w0 w4 rr0 cs0 ((n15,Cs cs0 64)::(n2,Cs (zU 0) 64)::H):=hback w4 _ h4
  rw[qnD,qo7]
  have hrr:QA l=match yq l 0 rr0 with
    | none=>.inr 300
    | some r=>.inl r:=by unfold QA;rw[if_neg om]
  refine⟨fun m ee w=>∃ (j:Nat) (rj:RR) (csj:List Value),j<=l.length/\m=l.length-j/\ee=ql.mk 33 [(2,(Value.pointer (some (Addr.mk n2 0 none)))),(3,(Value.pointer (some (Addr.mk n15 0 none)))),(4,qj (j:Nat)),(0,(Value.slice sa l.length sc))] []/\
    yq (l.drop j) (j:Nat) rj=yq l 0 rr0/\Bd rj (16*j)/\vt w0 w rj csj ((n15,Cs csj 64)::(n2,Cs (zU 0) 64)::H),
   ⟨l.length,0,rr0,cs0,by omega,rfl,rfl,rfl,⟨by simp[rr0],by simp[rr0],by simp[rr0]⟩,g4⟩,?_⟩
  rintro m ee w5 ⟨j,rj,csj,hj,rfl,rfl,hrt,hbj,hw⟩
  show qhQ ..
  rw[qfD]
  refine⟨l.length,fun wq _=>yb wq,?_⟩
  rw[qg]
  constructor
  ·intro hlt
   have hlt:j<l.length:=by simpa using hlt
   rw[qnj]
   obtain⟨Z',hZ',hs',hback'⟩:=hw.open'
   have hd:=hs'.drew
   obtain⟨a,c,hac,hld⟩:=(hrow _ (((hback' w5.drew _ hd).tail hn15).tail hn2).base).ldA hlt
   rw[hov]at hac
   obtain⟨hsa,-⟩:sa=some a/\sc=c:=by simpa using hac
   subst hsa
   refine⟨by omega,by omega,?_⟩
   refine Jz hd (k:=0) rfl hw.any (hld _ ?_)
   rw[QM hlt]
   have hwd:=hback' w5.drew _ hd
   have hdrop:l.drop j=l[j]::l.drop (j+1):=List.drop_eq_getElem_cons hlt
   rw[hdrop,yq]at hrt
   generalize hY:(fun e' w'=>∃ m,m<l.length-j/\∃ (j:Nat) (rj:RR) (csj:List Value),j<=l.length/\m=l.length-j/\e'=ql.mk 33 [(2,(Value.pointer (some (Addr.mk n2 0 none)))),(3,(Value.pointer (some (Addr.mk n15 0 none)))),(4,qj (j:Nat)),(0,(Value.slice (some a) l.length sc))] []/\
    yq (l.drop j) (j:Nat) rj=yq l 0 rr0/\Bd rj (16*j)/\vt w0 w' rj csj ((n15,Cs csj 64)::(n2,Cs (zU 0) 64)::H))=Y
   have bad:∀ (w':World) (n99:Nat) (cs':List Value),w0.heap.size<=n99->jt rj l[j] (j:Nat)=none->jL cs'->St w0 w' ((n99,Cs (zU 0) 64)::(n15,Cs csj 64)::(n2,Cs (zU 0) 64)::H)->
     qN 20 (Addr.mk n99 0 none) cs'.toArray w' (fun w2=>q4M (Addr.mk n2 0 none) (Addr.mk n15 0 none) (some a) l.length sc (j:Nat) (Addr.mk n99 0 none) false w2 K Y):=by
    intro w' n99 cs' hn99 hf hc h'
    refine h'.stA (k:=0) rfl (by simp[hc.len]) (by simp[h0.len,hc.len]) hc.one fun w2 h2=>?_
    have h2:St w0 w2 ((n99,Cs (qI (zU 0) 0 cs') 64)::(n15,Cs csj 64)::(n2,Cs (zU 0) 64)::H):=h2
    rw[q6W,Bool.not_false,qm]
    have h3:=(h2.tail hn99).tail hn15
    refine⟨_,q60 300,giveup 300 w2 _ _ h0 h3 fun w3 h4=>hbad 300 ?_ (by decide) w3 (h4.tail hn2)⟩
    rw[hrr,<-hrt,hf]
   have good:∀ (w':World) (n99:Nat) (cs':List Value) (r':RR),w0.heap.size<=n99->jt rj l[j] (j:Nat)=some r'->vt w0 w' r' cs' ((n99,Cs (zU 0) 64)::(n15,Cs csj 64)::(n2,Cs (zU 0) 64)::H)->
     qN 20 (Addr.mk n99 0 none) cs'.toArray w' (fun w2=>q4M (Addr.mk n2 0 none) (Addr.mk n15 0 none) (some a) l.length sc (j:Nat) (Addr.mk n99 0 none) true w2 K Y):=by
    intro w' n99 cs' r' hn99 hf h'
    have hc:=h'.any
    obtain⟨Z2,hZ2,hs2,hback2⟩:=h'.open'
    refine hs2.stA (k:=0) rfl (by simp[hc.len]) (by simp[h0.len,hc.len]) hc.one fun w2 h2=>?_
    have h2:St w0 w2 ((n99,Cs (qI (zU 0) 0 cs') 64)::((n15,Cs csj 64)::(n2,Cs (zU 0) 64)::H++Z2)):=h2
    rw[qB (by rw[hc.len,h0.len])]at h2
    rw[q6W,Bool.not_true,qd,qoJ]
    refine Jz h2 (k:=0) rfl hc ?_
    refine h2.stA (k:=1) rfl (by simp[hc.len]) (by simp[hw.any.len,hc.len]) hc.one fun w3 h3=>?_
    have h3:St w0 w3 ((n99,Cs cs' 64)::((n15,Cs (qI csj 0 cs') 64)::(n2,Cs (zU 0) 64)::H++Z2)):=h3
    rw[qB (by rw[hc.len,hw.any.len])]at h3
    rw[qmS,<-hY]
    refine⟨l.length-(j+1),by omega,j+1,r',cs',by omega,rfl,?_,?_,(qaJ hf hbj).more om,hback2 w3 _ (h3.tail hn99)⟩
    ·rw[qk om om];rfl
    ·rw[<-hrt,hf];rfl
   constructor
   ·refine qiT hwd hbj om (fun hf w' cs' hc h'=>⟨_,false,rfl,?_⟩) (fun r' hf w' cs' h'=>⟨_,true,rfl,?_⟩)
    ·rw[JG]
     exact h'.newC fun n99 w2 hn99 h2=>bad w2 n99 cs' hn99 hf hc h2
    ·rw[JG]
     exact h'.newC fun n99 w2 hn99 h2=>good w2 n99 cs' r' hn99 hf h2
   ·rw[JG]
    refine hwd.newC fun n131 w2 hn131 h2=>?_
    exact qiT h2 hbj om (fun hf w' cs' hc h'=>⟨_,false,rfl,bad w' n131 cs' hn131 hf hc h'⟩) (fun r' hf w' cs' h'=>⟨_,true,rfl,good w' n131 cs' r' hn131 hf h'⟩)
  ·intro hge
   have hge:l.length<=j:=by simpa using hge
   have:j=l.length:=by omega
   subst this
   rw[qfP]
   rw[List.drop_length,yq]at hrt
   obtain⟨Z',hZ',hs',hback'⟩:=hw.open'
   refine Jz hs' (k:=0) rfl hw.any ?_
   have hs2:=hs'.perm (H':=(n2,Cs (zU 0) 64)::(n15,Cs csj 64)::(H++Z')) (List.Perm.swap ..)
   refine q7U (Q:=fun c w2=>K (.agg c) w2) h0.len hw.any hs2 fun w6 h6=>hok rj (by rw[hrr,<-hrt]) hle hbj w6 csj ?_
   have h6:St w0 w6 (((n2,Cs csj 64)::(n15,Cs csj 64)::H)++Z'):=h6
   exact((hback' w6 _ h6).tail hn2).tail hn15
end Go.Fx.Tryz
