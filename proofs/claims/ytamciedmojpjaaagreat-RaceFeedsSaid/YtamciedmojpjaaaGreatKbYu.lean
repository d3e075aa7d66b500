/- A part of the proof. -/
import Derived.Test.YtamciedmojpjaaaGreatKaYu
import Derived.KernelRfl
set_option linter.unusedSectionVars false
set_option autoImplicit true
set_option relaxedAutoImplicit true
noncomputable section
namespace Go.Fx.Tryz
open Go Go.Fx Go.Fx.Mo
open Go.Proofs
variable {w0 w:World} {K:KT} {B:PB} {R:qP} {p:Pl}
set_option maxRecDepth 20000
def PS(w0 w:World)(B:PB)(R:qP)(p:Pl):Prop:=
 ∃ (D:PD) (L:qP),D.p=p/\St w0 w (L++vN B D R)/\q24 D/\zC 4 72 D.ov p.orders.length (Qh p.orders) L/\zr w0 L
theorem QW{a:Nat × Obj}{L:qP}{D:PD}:(a::(L++vN B D R)).Perm (L++vN B D (a::R)):=by
 have:(L++vN B D (a::R))=(L++vN B D [])++a::R:=by simp[vN]
 rw[this]
 have:(a::(L++vN B D R))=a::((L++vN B D [])++R):=by simp[vN]
 rw[this]
 exact List.perm_middle.symm
theorem PS.newC(h:PS w0 w B R p){cs:Array Value}{t:TypeId}{K:Nat->World->Prop}(hK:∀ b w',w0.heap.size<=b->PS w0 w' B ((b,Cs cs.toList t)::R) p->K b w'):qt cs t w K:=by
 obtain⟨D,L,rfl,hs,h1,h2,h3⟩:=h
 exact hs.newC fun b w' hb h'=>hK b w' hb ⟨D,L,rfl,h'.perm QW,h1,h2,h3⟩
theorem PS.drew(h:PS w0 w B R p):PS w0 w.drew B R p:=by
 obtain⟨D,L,rfl,hs,h1,h2,h3⟩:=h
 exact⟨D,L,rfl,hs.drew,h1,h2,h3⟩
theorem PS.tail{b:Nat}{o:Obj}(h:PS w0 w B ((b,o)::R) p)(hb:w0.heap.size<=b):PS w0 w B R p:=by
 obtain⟨D,L,rfl,hs,h1,h2,h3⟩:=h
 exact⟨D,L,rfl,(hs.perm QW.symm).tail hb,h1,h2,h3⟩
theorem PS.get(h:PS w0 w B R p){k b:Nat}{o:Obj}(hk:R[k]?=some (b,o)):w.heap[b]?=some o:=by
 obtain⟨D,L,rfl,hs,h1,h2,h3⟩:=h
 exact hs.has b o (by simp[List.mem_of_getElem? hk])
theorem PS.stA(h:PS w0 w B R p){n k b i:Nat}{cs:List Value}{t:TypeId}{vs:Array Value}{K:World->Prop}(hk:R[k]?=some (b,Cs cs t))(hn:vs.size=n)(hi:i+n<=cs.length)
  (hv:∀ v∈vs.toList,v.oneCell'=true) (hK:∀ w',PS w0 w' B (R.set k (b,Cs (qI cs i vs.toList) t)) p->K w'):qN n (Addr.mk b i none) vs w K:=by
 obtain⟨D,L,rfl,hs,h1,h2,h3⟩:=h
 refine hs.stA (k:=L.length+(k+6)) (by rw[vI];simpa [vN]using hk) hn hi hv fun w' h'=>hK w' ⟨D,L,rfl,?_,h1,h2,h3⟩
 rw[jy]at h'
 simpa [vN]using h'
theorem PS.own(h:PS w0 w B R p):p.own.length=8:=by
 obtain⟨D,L,rfl,_,h1,_⟩:=h
 exact h1.own
theorem PS.pl(h:PS w0 w B R p):∃ ov ob nb,w.heap[B.pb]?=some (Cs (qM B.tb B.e ov ob nb p) B.t):=by
 obtain⟨D,L,rfl,hs,h1,_⟩:=h
 exact⟨_,_,_,hs.get (k:=L.length+0) (vI L _ 0)⟩
theorem PS.th(h:PS w0 w B R p):w.heap[B.tb]?=some (Cs (qU B.T B.tob B.tnb++B.rest) B.tt):=by
 obtain⟨D,L,rfl,hs,h1,_⟩:=h
 exact hs.get (k:=L.length+3) (vI L _ 3)
theorem Ju(h:PS w0 w B R p)(hB:yv B)(hn:p.orders.length<1000000)(o:vH)(hK:∀ w',PS w0 w' B R (tick B.e p o)->K (.tuple #[]) w') :
  qa P 112 [.pointer (some (Addr.mk B.pb 0 none)),.agg (zu o).toArray] w K:=by
 obtain⟨D,L,rfl,hs,h1,h2,h3⟩:=h
 refine qAF (k:=0) hs h2 h3 rfl h1.own hB.lt hn fun w' ov' L' hs' h2' h3'=>hK w' ⟨{ D with ov:=ov',p:=tick B.e D.p o },L',rfl,hs',⟨by simp[tick,h1.own],h1.m1,h1.m2,h1.each⟩,?_,h3'⟩
 simpa [tick]using h2'
theorem q1Z(h:PS w0 w B R p)(hB:yv B)(x:Ob)(hK:∀ w',PS w0 w' B R (number B.T p x).2->K (qj (number B.T p x).1) w') :
  qa P 113 [.pointer (some (Addr.mk B.pb 0 none)),.agg (qR x).toArray] w K:=by
 obtain⟨D,L,rfl,hs,h1,h2,h3⟩:=h
 refine qlw hs hB h1 x fun w' D' hs' h1' hov hp=>hK w' ⟨D',L,hp,hs',h1',?_,h3⟩
 have:(number B.T D.p x).2.orders=D.p.orders:=by
  unfold number
  split
  ·rfl
  ·split<;>rfl
 rw[this,hov]
 exact h2
theorem q3S(h:PS w0 w B R p)(hB:yv B)(x:Ob)(hK:∀ w',PS w0 w' B R (acquire B.T p x)->K (.tuple #[]) w') :
  qa P 114 [.pointer (some (Addr.mk B.pb 0 none)),.agg (qR x).toArray] w K:=by
 obtain⟨D,L,rfl,hs,h1,h2,h3⟩:=h
 exact qgk hs hB h1 x fun w' hs'=>hK w' ⟨{ D with p:=acquire B.T D.p x },L,rfl,hs',⟨yo h1.own (Vx hB.th h1.each),h1.m1,h1.m2,h1.each⟩,h2,h3⟩
theorem q56(h:PS w0 w B R p)(hB:yv B)(x:Ob)(hK:∀ w',PS w0 w' B R (release B.T p x)->K (.tuple #[]) w') :
  qa P 115 [.pointer (some (Addr.mk B.pb 0 none)),.agg (qR x).toArray] w K:=by
 obtain⟨D,L,rfl,hs,h1,h2,h3⟩:=h
 exact qhH hs hB h1 x fun w' D' hs' h1' hov hp=>hK w' ⟨D',L,hp,hs',h1',by rw[hov];exact h2,h3⟩
theorem qae(k x:Int)(wq:World):(Instr.build 72 [(0,(Value.int .i64 k)),(2,(Value.int .i64 x))].toArray).run P wq=.ok (.agg (zu ⟨k,0,x,0⟩).toArray) wq:=kr
theorem qt6(k:Int)(wq:World):(Instr.build 72 [(0,(Value.int .i64 k))].toArray).run P wq=.ok (.agg (zu ⟨k,0,0,0⟩).toArray) wq:=kr
theorem qbT(x:Int)(wq:World):(Instr.build 117 [(1,(Value.int .u32 x))].toArray).run P wq=.ok (.agg (qR (false,x)).toArray) wq:=kr
theorem qB4(h:PS w0 w B R p)(hB:yv B)(hn:p.orders.length<1000000)(hK:∀ w',PS w0 w' B R (Mo.step B.e p)->K (.tuple #[]) w'):qa P 92 [.pointer (some (Addr.mk B.pb 0 none))] w K:=by
 refine qIQ _ _ _ ?_
 rw[qFX]
 refine⟨_,qt6 1,?_⟩
 exact Ju h hB hn ⟨1,0,0,0⟩ fun w' h'=>⟨rfl,hK w' h'⟩
theorem qFp:qn P 117=#[.bool false,.int .u32 0]:=kr
theorem vT(T:Th)(p:Pl)(x:Ob):(number T p x).2.orders=p.orders:=by
 unfold number
 split
 ·rfl
 ·split<;>rfl
theorem qEK{tb ob nb:Nat}{e:Ev}{ov:Value}{p:Pl}(i:Nat)(hi:i<6):(qM tb e ov ob nb p)[1+i]?=(qE e)[i]?:=by
 rcases i with _ | _ | _ | _ | _ | _ | i<;>first | rfl | omega
theorem PS.ev(h:PS w0 w B R p)(i:Nat)(hi:i<6):w.cell? (Addr.mk B.pb (1+i) none)=(qE B.e)[i]?:=by
 obtain⟨ov,ob,nb,hp⟩:=h.pl
 rw[qv hp,qEK i hi]
theorem PS.object(h:PS w0 w B R p)(x:Ob){K:Nat->World->Prop}(hK:∀ b w',w0.heap.size<=b->PS w0 w' B ((b,Cs (qR x) 117)::R) p->K b w') :
  qt (qn P 117) 117 w fun n w1=>qN 2 (Addr.mk n 0 none) (qR x).toArray w1 fun w2=>K n w2:=by
 refine h.newC fun n w1 hn h1=>?_
 rw[qFp]at h1
 refine h1.stA (k:=0) (i:=0) rfl (by simp[qR]) (by simp) (by simp[qR,Value.oneCell']) fun w2 h2=>hK n w2 hn ?_
 exact h2
theorem PS.ldA(h:PS w0 w B R p){n k b i:Nat}{cs:List Value}{t:TypeId}{K:Array Value->Prop}(hk:R[k]?=some (b,Cs cs t))(hi:i+n<=cs.length)(hK:K ((cs.drop i).take n).toArray):qf n (Addr.mk b i none) w K:=
 jU (h.get hk) hi hK
theorem qD0(h:PS w0 w B R p)(hB:yv B)(hn:p.orders.length<1000000)(hK:∀ w',PS w0 w' B R (Mo.qzK B.T B.e p)->K (.tuple #[]) w'):qa P 96 [.pointer (some (Addr.mk B.pb 0 none))] w K:=by
 refine qIx _ _ _ ?_
 rw[qGU]
 refine⟨B.e.a,h.ev 3 om,_,qbT _,?_⟩
 refine h.object (false,B.e.a) fun n4 w6 hn4 h6=>?_
 refine h6.ldA (k:=0) (i:=0) rfl (by simp[qR]) ?_
 refine q1Z h6 hB (false,B.e.a) fun w9 h9=>⟨_,rfl,?_⟩
 refine h9.ldA (k:=0) (i:=0) rfl (by simp[qR]) ?_
 refine q3S h9 hB (false,B.e.a) fun w13 h13=>⟨rfl,_,q5z 3 _,?_⟩
 refine Ju h13 hB (by simpa [acquire,vT]using hn) _ fun w16 h16=>⟨rfl,hK w16 (h16.tail hn4)⟩
theorem qqB(h:PS w0 w B R p)(hB:yv B)(hn:p.orders.length<1000000)(hK:∀ w',PS w0 w' B R (Mo.q7p B.T B.e p)->K (.tuple #[]) w'):qa P 97 [.pointer (some (Addr.mk B.pb 0 none))] w K:=by
 refine qF7 _ _ _ ?_
 rw[qGh]
 refine⟨B.e.a,h.ev 3 om,_,qbT _,?_⟩
 refine h.object (false,B.e.a) fun n4 w6 hn4 h6=>?_
 refine h6.ldA (k:=0) (i:=0) rfl (by simp[qR]) ?_
 refine q1Z h6 hB (false,B.e.a) fun w9 h9=>⟨_,rfl,_,q5z 2 _,?_⟩
 refine Ju h9 hB (by simpa [vT]using hn) _ fun w13 h13=>⟨rfl,?_⟩
 refine h13.ldA (k:=0) (i:=0) rfl (by simp[qR]) ?_
 refine q56 h13 hB (false,B.e.a) fun w16 h16=>⟨rfl,hK w16 (h16.tail hn4)⟩
theorem PS.st1(h:PS w0 w B R p){i:Nat}{v:Value}{p':Pl}{K:World->Prop}(hi:i<23)(hv:v.oneCell'=true)(hp:∀ ov ob nb,(qM B.tb B.e ov ob nb p).set i v=qM B.tb B.e ov ob nb p')
  (ho:p'.orders=p.orders) (hw:p'.own=p.own) (hobj:p'.objs=p.objs) (hnm:p'.names=p.names) (hK:∀ w',PS w0 w' B R p'->K w'):zG (Addr.mk B.pb i none) v w K:=by
 obtain⟨D,L,rfl,hs,h1,h2,h3⟩:=h
 refine hs.st1 (k:=L.length+0) (cs:=qM B.tb B.e D.ov B.ob B.nb D.p) (vI L _ 0) (by rw[yf h1.own];exact hi) hv fun w' h'=>hK w' ⟨{ D with p:=p' },L,rfl,?_,⟨hw▸h1.own,hobj▸h1.m1,hnm▸h1.m2,hobj▸h1.each⟩,ho▸h2,h3⟩
 rw[jy,hp]at h'
 exact h'
theorem q7e{α:Type}(a b c:List α)(i:Nat)(hi:i<b.length):(a++(b++c))[a.length+i]?=b[i]?:=by
 rw[List.getElem?_append_right om,List.getElem?_append_left om]
 congr 1;omega
section
variable {T:Th} {ob nb:Nat} {rest:List Value}
theorem q4u(h:vr T){i:Nat}(hi:i<8):(qU T ob nb++rest)[64+i]?=some (.bool (T.begun.getD i false)):=by
 have hf:(T.clocks.flatten.map qj).length=64:=by rw[List.length_map,js h.each,h.clocks]
 unfold qU
 simp only[List.append_assoc]
 rw[<-hf,q7e _ _ _ i (by simp[h.begun,hi])]
 simp[h.begun,hi]
theorem q4K(h:vr T){i:Nat}(hi:i<8):(qU T ob nb++rest)[72+i]?=some (.bool (T.ended.getD i false)):=by
 have hf:(T.clocks.flatten.map qj++T.begun.map Value.bool).length=72:=by simp only[List.length_append,List.length_map,js h.each,h.clocks,h.begun]
 unfold qU
 simp only[List.append_assoc]
 rw[<-List.append_assoc,<-hf,q7e _ _ _ i (by simp[h.ended,hi])]
 simp[h.ended,hi]
theorem qC9{l:List vj}(h:∀ c∈l,c.length=8):∀ (i:Nat),i<l.length->(l.flatten.drop (i*8)).take 8=l.getD i qW:=by
 induction l with
 | nil=>intro i hi;simp at hi
 | cons c r ih=>
  intro i hi
  have hc:=h c (.head _)
  cases i with
  | zero=>simp only[List.flatten_cons,Nat.zero_mul,List.drop_zero,List.getD_cons_zero];rw[List.take_append_of_le_length om];exact List.take_of_length_le om
  | succ i=>
   rw[List.flatten_cons,List.getD_cons_succ,<-ih (fun d hd=>h d (.tail _ hd)) i (by simp at hi;omega)]
   rw[show(i+1)*8=c.length+i*8 by omega,List.drop_append,List.drop_eq_nil_of_le om]
   simp
theorem q0r(h:vr T){i:Nat}(hi:i<8):((qU T ob nb++rest).drop (i*8)).take 8=(T.clocks.getD i qW).map qj:=by
 have hf:(T.clocks.flatten.map qj).length=64:=by rw[List.length_map,js h.each,h.clocks]
 unfold qU
 simp only[List.append_assoc]
 rw[List.drop_append_of_le_length om,List.take_append_of_le_length (by rw[List.length_drop,hf];omega),<-List.map_drop,<-List.map_take,qC9 h.each i (by rw[h.clocks];exact hi)]
end
theorem qcK(h:PS w0 w B R p)(hK:K (.tuple [.int .i64 B.e.n,.bool (zx B.e)].toArray) w):qa P 116 [.pointer (some (Addr.mk B.pb 0 none))] w K:=by
 refine qD8 _ _ _ ?_
 rw[qAq]
 refine⟨B.e.n,h.ev 5 om,?_⟩
 simp only[qfN,qg]
 unfold zx at hK
 constructor
 ·intro hn;rw[hn]at hK;simpa using hK
 ·intro hn;rw[hn]at hK;simpa using hK
theorem qy1(h:PS w0 w B R p){K:World->Prop}(hK:∀ w',PS w0 w' B R { p with bad:=true }->K w'):zG (Addr.mk B.pb 22 none) (.bool true) w K:=
 h.st1 om rfl (fun _ _ _=>q4X h.own true) rfl rfl rfl rfl hK
theorem qF0(h:PS w0 w B R p){K:World->Prop}(hK:∀ w',PS w0 w' B R { p with rel:=true }->K w'):zG (Addr.mk B.pb 21 none) (.bool true) w K:=
 h.st1 om rfl (fun _ _ _=>JO h.own true) rfl rfl rfl rfl hK
theorem q98{tb ob nb:Nat}{e:Ev}{ov:Value}{p:Pl}(ho:p.own.length=8)(x:Int):(qM tb e ov ob nb p).set 19 (qj x)=qM tb e ov ob nb { p with fork:=x }:=by
 obtain⟨a,b,c,d,f,g,h,j,hl⟩:=own8 ho
 simp only[qM,qE,hl]
 rfl
theorem q9B{tb ob nb:Nat}{e:Ev}{ov:Value}{p:Pl}(ho:p.own.length=8)(x:Int):(qM tb e ov ob nb p).set 20 (qj x)=qM tb e ov ob nb { p with ends:=x }:=by
 obtain⟨a,b,c,d,f,g,h,j,hl⟩:=own8 ho
 simp only[qM,qE,hl]
 rfl
theorem PS.ptr(h:PS w0 w B R p):w.cell? (Addr.mk B.pb 0 none)=some (.pointer (some (Addr.mk B.tb 0 none))):=by
 obtain⟨ov,ob,nb,hp⟩:=h.pl
 rw[qv hp];rfl
theorem PS.begun(h:PS w0 w B R p)(hB:yv B){i:Nat}(hi:i<8):w.cell? (Addr.mk B.tb (64+i) none)=some (.bool (B.T.begun.getD i false)):=by
 rw[qv h.th];exact q4u hB.th hi
theorem PS.ended(h:PS w0 w B R p)(hB:yv B){i:Nat}(hi:i<8):w.cell? (Addr.mk B.tb (72+i) none)=some (.bool (B.T.ended.getD i false)):=by
 rw[qv h.th];exact q4K hB.th hi
theorem qwQ(h:PS w0 w B R p)(hB:yv B)(hn:p.orders.length<1000000)(hK:∀ w',PS w0 w' B R (Mo.jk B.T B.e p)->K (.tuple #[]) w'):qa P 94 [.pointer (some (Addr.mk B.pb 0 none))] w K:=by
 refine qH9 _ _ _ ?_
 rw[qF8]
 refine qcK h ⟨_,_,rfl,?_⟩
 have bad:Mo.jk B.T B.e p={ p with bad:=true }->q85 true (some (Addr.mk B.pb 0 none)) B.e.n w K:=fun hs=>by
  rw[q6e]
  show zG ((Addr.mk B.pb 0 none).add 22) _ _ _
  rw[qc]
  exact qy1 h fun w' h'=>hK w' (by rw[hs];exact h')
 by_cases ho:zx B.e=true
 ·rw[ho]
  simp only[Bool.not_true,qd]
  have hn8:0<=B.e.n/\B.e.n<8:=by simpa [zx]using ho
  obtain⟨i,hi,hi8⟩:∃ i:Nat,B.e.n=i/\i<8:=⟨B.e.n.toNat,by omega,by omega⟩
  refine⟨some (Addr.mk B.tb 0 none),h.ptr,hn8.1,by have:=hn8.2;simpa using this,B.T.begun.getD i false,?_,?_⟩
  ·rw[qc,qc,hi,Int.toNat_natCast,Nat.mul_one,Nat.zero_add];exact h.begun hB hi8
  ·have hg:zb B.T.begun B.e.n=B.T.begun.getD i false:=by simp[zb,hi]
   cases hb:B.T.begun.getD i false with
   | true=>exact bad (by unfold Mo.jk;rw[ho,hg,hb];rfl)
   | false=>
    have hs:Mo.jk B.T B.e p={ tick B.e p ⟨5,0,B.e.n,0⟩with fork:=B.e.n,rel:=true }:=by unfold Mo.jk;rw[ho,hg,hb];rfl
    rw[q6e,qd,qoF]
    refine⟨_,qae 5 _,?_⟩
    refine Ju h hB hn _ fun w1 h1=>⟨rfl,?_⟩
    show zG ((Addr.mk B.pb 0 none).add 19) _ _ _
    rw[qc]
    refine h1.st1 om rfl (fun _ _ _=>q98 h1.own _) rfl rfl rfl rfl fun w2 h2=>?_
    show zG ((Addr.mk B.pb 0 none).add 21) _ _ _
    rw[qc]
    exact qF0 h2 fun w3 h3=>hK w3 (by rw[hs];exact h3)
 ·have ho:zx B.e=false:=by simpa using ho
  rw[ho]
  simp only[Bool.not_false,qm]
  exact bad (by simp[Mo.jk,ho])
theorem qrL(h:PS w0 w B R p){d:vj}(hd:d.length=8)(hK:∀ w',PS w0 w' B R { p with own:=zk p.own d }->K (.tuple #[]) w'):qa P 74 [.pointer (some (Addr.mk B.pb 8 none)),.agg (d.map qj).toArray] w K:=by
 obtain⟨D,L,rfl,hs,h1,h2,h3⟩:=h
 refine q3k hs (cs:=qM B.tb B.e D.ov B.ob B.nb D.p) (k:=L.length+0) (vI L _ 0) h1.own hd (by rw[yf h1.own];omega) (Vt h1.own) fun w' h'=>hK w' ⟨{ D with p:={ D.p with own:=zk D.p.own d } },L,rfl,?_,⟨yo h1.own hd,h1.m1,h1.m2,h1.each⟩,h2,h3⟩
 rw[jy,JJ h1.own (yo h1.own hd)]at h'
 exact h'
theorem q9m{T:Th}(hT:vr T)(i:Nat):(T.clocks.getD i qW).length=8:=by
 by_cases hi:i<T.clocks.length
 ·rw[List.getD_eq_getElem?_getD,List.getElem?_eq_getElem hi];exact hT.each _ (List.getElem_mem hi)
 ·rw[List.getD_eq_getElem?_getD,List.getElem?_eq_none om];rfl
theorem qzA(h:PS w0 w B R p)(hB:yv B)(hn:p.orders.length<1000000)(hK:∀ w',PS w0 w' B R (Mo.join B.T B.e p)->K (.tuple #[]) w'):qa P 95 [.pointer (some (Addr.mk B.pb 0 none))] w K:=by
 refine qIl _ _ _ ?_
 rw[qJk]
 refine qcK h ⟨_,_,rfl,?_⟩
 have bad:Mo.join B.T B.e p={ p with bad:=true }->q1T true (some (Addr.mk B.pb 0 none)) B.e.n w K:=fun hs=>by
  rw[q62]
  show zG ((Addr.mk B.pb 0 none).add 22) _ _ _
  rw[qc]
  exact qy1 h fun w' h'=>hK w' (by rw[hs];exact h')
 by_cases ho:zx B.e=true
 ·rw[ho]
  simp only[Bool.not_true,qd]
  have hn8:0<=B.e.n/\B.e.n<8:=by simpa [zx]using ho
  obtain⟨i,hi,hi8⟩:∃ i:Nat,B.e.n=i/\i<8:=⟨B.e.n.toNat,by omega,by omega⟩
  have hlt:B.e.n<((8:Nat):Int):=by have:=hn8.2;simpa using this
  have hg:zb B.T.begun B.e.n=B.T.begun.getD i false:=by simp[zb,hi]
  have hg2:zb B.T.ended B.e.n=B.T.ended.getD i false:=by simp[zb,hi]
  refine⟨some (Addr.mk B.tb 0 none),h.ptr,hn8.1,hlt,B.T.begun.getD i false,?_,?_⟩
  ·rw[qc,qc,hi,Int.toNat_natCast,Nat.mul_one,Nat.zero_add];exact h.begun hB hi8
  cases hb:B.T.begun.getD i false with
  | false=>exact bad (by unfold Mo.join;rw[ho,hg,hb];rfl)
  | true=>
   simp only[Bool.not_true,qd]
   refine⟨some (Addr.mk B.tb 0 none),h.ptr,hn8.1,hlt,B.T.ended.getD i false,?_,?_⟩
   ·rw[qc,qc,hi,Int.toNat_natCast,Nat.mul_one,Nat.zero_add];exact h.ended hB hi8
   cases he:B.T.ended.getD i false with
   | true=>exact bad (by unfold Mo.join;rw[ho,hg,hb,hg2,he];rfl)
   | false=>
    simp only[qd]
    refine⟨B.e.th,h.ev 1 om,?_⟩
    cases hq:(B.e.n==B.e.th)with
    | true=>exact bad (by unfold Mo.join;rw[ho,hg,hb,hg2,he,hq];rfl)
    | false=>
     have hs:Mo.join B.T B.e p={ tick B.e { p with own:=zk p.own (getC B.T.clocks B.e.n) } ⟨6,0,B.e.n,0⟩with ends:=B.e.n }:=by unfold Mo.join;rw[ho,hg,hb,hg2,he,hq];rfl
     rw[q62,qd,qpn]
     have hd:=h.drew
     refine⟨some (Addr.mk B.tb 0 none),hd.ptr,hn8.1,hlt,?_⟩
     have hgc:getC B.T.clocks B.e.n=B.T.clocks.getD i qW:=by simp[getC,hi]
     rw[qc,hi,Int.toNat_natCast,Nat.zero_add]
     refine jU hd.th (by rw[List.length_append,yu hB.th];omega) ?_
     rw[q0r hB.th hi8,qc]
     refine qrL hd (q9m hB.th i) fun w1 h1=>⟨rfl,?_⟩
     rw[qlO]
     refine⟨_,qae 6 _,?_⟩
     refine Ju h1 hB hn _ fun w2 h2=>⟨rfl,?_⟩
     show zG ((Addr.mk B.pb 0 none).add 20) _ _ _
     rw[qc]
     refine h2.st1 om rfl (fun _ _ _=>q9B h2.own _) rfl rfl rfl rfl fun w3 h3=>hK w3 ?_
     rw[hs,hgc,hi]
     exact h3
 ·have ho:zx B.e=false:=by simpa using ho
  rw[ho]
  simp only[Bool.not_false,qm]
  exact bad (by unfold Mo.join;rw[ho];rfl)
theorem PS.putR(h:PS w0 w B R p){k b:Nat}{o:Obj}(hk:R[k]?=some (b,o))(o':Obj):PS w0 (w.putObj b o') B (R.set k (b,o')) p:=by
 obtain⟨D,L,rfl,hs,h1,h2,h3⟩:=h
 refine⟨D,L,rfl,?_,h1,h2,h3⟩
 have:=hs.put (k:=L.length+(k+6)) (by rw[vI];simpa [vN]using hk) o'
 rw[jy]at this
 simpa [vN]using this
end Go.Fx.Tryz
namespace Go.Fx.Tryz
open Go Go.Fx Go.Fx.Mo
open Go.Proofs
variable {w0 w:World} {H:qP} {K:KT}
set_option maxRecDepth 20000
abbrev fnV(n:Nat):Value:=.func (.func n) #[] #[]
theorem qLB:(qn P 157).toList=List.replicate 25 .nilFunc:=kr
def Qp:List Value:=(((((List.replicate 25 (fnV 92)).set 4 (fnV 93)).set 11 (fnV 94)).set 13 (fnV 95)).set 14 (fnV 96)).set 15 (fnV 97)
theorem qrX(h:St w0 w H)(hK:∀ w',St w0 w' H->K (.agg Qp.toArray) w'):qa P 70 [] w K:=by
 refine qEZ _ _ ?_
 rw[qFv]
 refine h.newC fun n0 w1 hn0 h1=>h1.newC fun n2 w3 hn2 h3=>?_
 rw[qLB]at h3
 have hZ:(List.replicate 25 Value.nilFunc).length=25:=by simp
 generalize hZd:List.replicate 25 Value.nilFunc=Z at h3 hZ
 refine⟨fun m e w=>∃ i:Nat,i<=25/\m=25-i/\e=ql.mk 15 [(3,(Value.int .i64 i)),(1,(Value.pointer (some (Addr.mk n2 0 none)))),(0,(Value.pointer (some (Addr.mk n0 0 none))))] []/\
  St w0 w ((n2,Cs (qI Z 0 (List.replicate i (fnV 92))) 157)::(n0,Cs Z 157)::H),⟨25,0,by omega,rfl,rfl,h3⟩,?_⟩
 rintro m e w ⟨i,hi,rfl,rfl,hs⟩
 show qjL ..
 rw[qeL,qg]
 constructor
 ·intro hlt
  have hlt:i<25:=by simp at hlt;omega
  rw[qmd]
  refine⟨by omega,by omega,?_⟩
  rw[qc,Int.toNat_natCast,Nat.mul_one,Nat.zero_add]
  refine hs.st1 (k:=0) rfl (by rw[yC,hZ];exact hlt) rfl fun w' h'=>?_
  rw[qlD]
  refine⟨25-(i+1),by omega,i+1,by omega,rfl,?_,?_⟩
  ·rw[qk om om];rfl
  ·rw[List.replicate_succ',q2h]
   simpa using h'
 ·intro hge
  have:i=25:=by simp at hge;omega
  subst this
  rw[ja (by simp[hZ])]at hs
  rw[qoi]
  simp only[qc]
  refine⟨by omega,by omega,hs.st1 (k:=0) rfl (by simp) rfl fun w1 h1=>?_⟩
  refine⟨by omega,by omega,h1.st1 (k:=0) rfl (by simp) rfl fun w2 h2=>?_⟩
  refine⟨by omega,by omega,h2.st1 (k:=0) rfl (by simp) rfl fun w3 h3=>?_⟩
  refine⟨by omega,by omega,h3.st1 (k:=0) rfl (by simp) rfl fun w4 h4=>?_⟩
  refine⟨by omega,by omega,h4.st1 (k:=0) rfl (by simp) rfl fun w5 h5=>?_⟩
  have h5:St w0 w5 ((n2,Cs Qp 157)::(n0,Cs Z 157)::H):=h5
  have hk:Qp.length=25:=by simp[Qp]
  refine h5.ldA (k:=0) (i:=0) rfl om ?_
  have e:List.take 25 (List.drop 0 Qp)=Qp:=List.take_of_length_le (by rw[List.drop_zero];omega)
  rw[e]
  refine h5.stA (k:=1) (i:=0) rfl (by simp[hk]) om (by decide) fun w6 h6=>?_
  have h6:St w0 w6 ((n2,Cs Qp 157)::(n0,Cs (qI Z 0 Qp) 157)::H):=h6
  rw[ja om]at h6
  refine h6.ldA (k:=1) (i:=0) rfl om ?_
  rw[e]
  exact hK w6 ((h6.tail hn2).tail hn0)
variable {B:PB} {R:qP}
theorem eqO(x y:Ob)(wq:World):(do eqGuard .eql 117 (.tmp 22) (.tmp 23) (.agg (qR x).toArray) (.agg (qR y).toArray);binOp .eql 117 (.agg (qR x).toArray) (.agg (qR y).toArray):Sem Value).run P wq=.ok (.bool (decide (x=y))) wq:=by
 have h1:=qEd wq x.1 y.1 x.2 y.2
 have h2:decide (x=y)=(x.1==y.1&&x.2==y.2):=by
  obtain⟨a,b⟩:=x
  obtain⟨c,d⟩:=y
  rw[Bool.eq_iff_iff];simp
 rw[h2]
 simp[eqGuard,binOp,h1,Tryz.eqGuardType117,qR]
theorem qm5(x:Int)(wq:World):(Instr.build 117 [(0,(Value.bool true)),(1,(Value.int .u32 x))].toArray).run P wq=.ok (.agg (qR (true,x)).toArray) wq:=kr
def ZP(T:Th)(e:Ev)(s:Ob × Pl)(a:Int):Ob × Pl:=if((true,jE (a.tdiv 4)):Ob)=s.1 then s else((true,jE (a.tdiv 4)),Ja T e (true,jE (a.tdiv 4)) s.2)
theorem q9y(T:Th)(e:Ev)(l:List Int):∀ (last:Ob) (p:Pl),atomicL T e l last p=(l.foldl (ZP T e) (last,p)).2:=by
 induction l with
 | nil=>intro last p;rfl
 | cons a r ih=>
  intro last p
  simp only[atomicL,List.foldl_cons,ZP]
  split
  ·rw[ih]
  ·rw[ih]
theorem q3u(T:Th)(e:Ev)(x:Ob)(p:Pl):(Ja T e x p).orders.length=p.orders.length+1:=by
 simp[Ja,release,tick,acquire,vT]
theorem qb7{l l' n1 n4:Nat}{s:Ob × Pl}{a:Int}{Rr:LoopState->Option Code->Loop}{post:Option Code->World->Prop}(hB:yv B)(hn:s.2.orders.length<1000000)
  (h:PS w0 w B ((l',.deferred (some []))::(l,.loop (Rr .ready none))::(n4,Cs (qR s.1) 117)::(n1,Cs [.pointer (some (Addr.mk B.pb 0 none))] 91)::R) s.2)
  (hpost:∀ w',PS w0 w' B ((l',.deferred (some []))::(l,.loop (Rr .ready none))::(n4,Cs (qR (ZP B.T B.e s a).1) 117)::(n1,Cs [.pointer (some (Addr.mk B.pb 0 none))] 91)::R) (ZP B.T B.e s a).2->post none w') :
  q92 (Addr.mk n1 0 none) (Addr.mk n4 0 none) a w l Rr post:=by
 rw[qe3]
 refine⟨h.get (k:=1) rfl,?_⟩
 have h1:PS w0 _ B ((l',.deferred (some []))::(l,.loop (Rr .busy none))::(n4,Cs (qR s.1) 117)::(n1,Cs [.pointer (some (Addr.mk B.pb 0 none))] 91)::R) s.2:=h.putR (k:=1) rfl (.loop (Rr .busy none))
 rw[qqv]
 refine⟨by omega,_,qm5 _,?_⟩
 refine h1.object (true,jE (a.tdiv 4)) fun n26 w2 hn26 h2=>?_
 refine h2.ldA (k:=0) (i:=0) rfl (by simp[qR]) ?_
 refine h2.ldA (k:=3) (i:=0) rfl (by simp[qR]) ?_
 refine⟨_,eqO (true,jE (a.tdiv 4)) s.1,?_⟩
 have fin:∀ w3 (x:Ob) (q:Pl),PS w0 w3 B ((n26,Cs (qR (true,jE (a.tdiv 4))) 117)::(l',.deferred (some []))::(l,.loop (Rr .busy none))::(n4,Cs (qR x) 117)::(n1,Cs [.pointer (some (Addr.mk B.pb 0 none))] 91)::R) q->
   ZP B.T B.e s a=(x,q)->w3.heap[l]?=some (.loop (Rr .busy none))/\post none (w3.putObj l (.loop (Rr .ready none))):=fun w3 x q h3 hs=>by
  refine⟨h3.get (k:=2) rfl,hpost _ ?_⟩
  rw[hs]
  exact((h3.putR (k:=2) rfl (.loop (Rr .ready none))).tail hn26)
 by_cases hx:((true,jE (a.tdiv 4)):Ob)=s.1
 ·rw[decide_eq_true hx,qm]
  exact fin w2 s.1 s.2 h2 (by simp[ZP,hx])
 ·rw[decide_eq_false hx,qd,qlJ]
  refine h2.ldA (k:=0) (i:=0) rfl (by simp[qR]) ?_
  refine h2.stA (k:=3) (i:=0) rfl (by simp[qR]) (by simp[qR]) (by simp[qR,Value.oneCell']) fun w3 h3=>?_
  have h3:PS w0 w3 B ((n26,Cs (qR (true,jE (a.tdiv 4))) 117)::(l',.deferred (some []))::(l,.loop (Rr .busy none))::(n4,Cs (qR (true,jE (a.tdiv 4))) 117)::(n1,Cs [.pointer (some (Addr.mk B.pb 0 none))] 91)::R) s.2:=h3
  have hp1:∀ {w:World} {q:Pl},PS w0 w B ((n26,Cs (qR (true,jE (a.tdiv 4))) 117)::(l',.deferred (some []))::(l,.loop (Rr .busy none))::(n4,Cs (qR (true,jE (a.tdiv 4))) 117)::(n1,Cs [.pointer (some (Addr.mk B.pb 0 none))] 91)::R) q->
    w.cell? (Addr.mk n1 0 none)=some (.pointer (some (Addr.mk B.pb 0 none))):=fun h=>by rw[qv (h.get (k:=4) rfl)];rfl
  refine⟨_,hp1 h3,h3.ldA (k:=0) (i:=0) rfl (by simp[qR]) ?_⟩
  refine q1Z h3 hB (true,jE (a.tdiv 4)) fun w4 h4=>⟨_,rfl,_,hp1 h4,h4.ldA (k:=0) (i:=0) rfl (by simp[qR]) ?_⟩
  refine q3S h4 hB (true,jE (a.tdiv 4)) fun w5 h5=>⟨rfl,_,hp1 h5,_,q5z 4 _,?_⟩
  refine Ju h5 hB (by simpa [acquire,vT]using hn) _ fun w6 h6=>⟨rfl,_,hp1 h6,h6.ldA (k:=0) (i:=0) rfl (by simp[qR]) ?_⟩
  refine q56 h6 hB (true,jE (a.tdiv 4)) fun w7 h7=>⟨rfl,?_⟩
  exact fin w7 _ _ h7 (by simp[ZP,hx,Ja])
variable {p:Pl}
theorem PS.perm{R':qP}(h:PS w0 w B R p)(hp:R.Perm R'):PS w0 w B R' p:=by
 obtain⟨D,L,rfl,hs,h1,h2,h3⟩:=h
 exact⟨D,L,rfl,hs.perm (List.Perm.append_left L (by simpa [vN]using hp)),h1,h2,h3⟩
theorem St.two{D:PD}{L:qP}{x y:Nat × Obj}(h:St w0 w (x::y::(L++vN B D R))):St w0 w (L++vN B D (y::x::R)):=
 h.perm ((List.Perm.swap y x _).trans ((List.Perm.cons y QW).trans QW))
theorem qtt(h:PS w0 w B R p)(a n:Int)
  (hK:∀ b1 b2 w',w0.heap.size<=b1->w0.heap.size<=b2->PS w0 w' B ((b1,Cs [qj n] 3)::(b2,Cs [.int .u32 a] 43)::R) p->K (.func (.func 71) #[] #[.pointer (some (Addr.mk b1 0 none)),.pointer (some (Addr.mk b2 0 none))]) w') :
  qa P 37 [.int .u32 a,.int .i64 n] w K:=by
 refine qyK _ _ _ _ ?_
 rw[qxL]
 exact h.newC fun b2 w1 h2 h1'=>h1'.newC fun b1 w2 h1 h2'=>hK b1 b2 w2 h1 h2 h2'
def aSt(T:Th)(e:Ev)(p:Pl)(i:Nat):Ob × Pl:=((Mo.bytes e.a e.n).take i).foldl (ZP T e) ((false,0),p)
theorem QI(a n:Int):(Mo.bytes a n).length=n.toNat:=by simp[Mo.bytes]
theorem q6t(a n:Int){i:Nat}(hi:i<(Mo.bytes a n).length):(Mo.bytes a n)[i]=jE (a+jE (i:Int)):=by simp[Mo.bytes]
theorem qvW(T:Th)(e:Ev)(p:Pl){i:Nat}(hi:i<e.n.toNat):aSt T e p (i+1)=ZP T e (aSt T e p i) (jE (e.a+jE (i:Int))):=by
 have hl:i<(Mo.bytes e.a e.n).length:=by rw[QI];exact hi
 unfold aSt
 rw[YI _ hl,List.foldl_append,q6t]
 rfl
theorem q4d(T:Th)(e:Ev)(p:Pl)(i:Nat):(aSt T e p i).2.orders.length<=p.orders.length+i:=by
 have key:∀ (l:List Int) (s:Ob × Pl),(l.foldl (ZP T e) s).2.orders.length<=s.2.orders.length+l.length:=by
  intro l
  induction l with
  | nil=>intro s;simp
  | cons a r ih=>
   intro s
   have h1:=ih (ZP T e s a)
   have h2:(ZP T e s a).2.orders.length<=s.2.orders.length+1:=by
    unfold ZP
    split
    ·omega
    ·rw[q3u];exact Nat.le_refl _
   simp only[List.foldl_cons,List.length_cons]
   omega
 have:_<=p.orders.length+_:=key ((Mo.bytes e.a e.n).take i) ((false,0),p)
 have h2:((Mo.bytes e.a e.n).take i).length<=i:=by simp;omega
 unfold aSt
 omega
theorem q6E(T:Th)(e:Ev)(p:Pl):(aSt T e p e.n.toNat).2=Mo.q5e T e p:=by
 unfold aSt Mo.q5e
 rw[List.take_of_length_le (by rw[QI];exact Nat.le_refl _),q9y]
theorem qnu(wq:World):(Instr.build 117 [].toArray).run P wq=.ok (.agg (qR (false,0)).toArray) wq:=kr
theorem qmV(h:PS w0 w B R p)(hB:yv B)(hn:p.orders.length+B.e.n.toNat<1000000)(hK:∀ w',PS w0 w' B R (Mo.q5e B.T B.e p)->K (.tuple #[]) w'):qa P 93 [.pointer (some (Addr.mk B.pb 0 none))] w K:=by
 refine qIM _ _ _ ?_
 rw[qJe]
 refine h.newC fun n1 w2 hn1 h2=>?_
 refine⟨_,qnu,?_⟩
 refine h2.object (false,0) fun n4 w6 hn4 h6=>?_
 have h6d:=h6.drew
 have hp1:w6.drew.cell? (Addr.mk n1 0 none)=some (.pointer (some (Addr.mk B.pb 0 none))):=by rw[qv (h6d.get (k:=1) rfl)];rfl
 refine⟨_,hp1,B.e.a,h6d.ev 3 om,_,hp1,B.e.n,h6d.ev 5 om,?_⟩
 refine qtt h6d B.e.a B.e.n fun b1 b2 w14 hb1 hb2 h14=>⟨_,rfl,?_⟩
 rw[qm4]
 have h14:=h14.perm (R':=(n4,Cs (qR (false,0)) 117)::(n1,Cs [.pointer (some (Addr.mk B.pb 0 none))] 91)::(b1,Cs [qj B.e.n] 3)::(b2,Cs [.int .u32 B.e.a] 43)::R)
  ((List.perm_append_comm (l₁:=[(b1,Cs [qj B.e.n] 3),(b2,Cs [.int .u32 B.e.a] 43)]) (l₂:=[(n4,Cs (qR (false,0)) 117),(n1,Cs [.pointer (some (Addr.mk B.pb 0 none))] 91)])).append_right R)
 let RR:Ob->List (Nat × Obj):=fun x=>(n4,Cs (qR x) 117)::(n1,Cs [.pointer (some (Addr.mk B.pb 0 none))] 91)::(b1,Cs [qj B.e.n] 3)::(b2,Cs [.int .u32 B.e.a] 43)::R
 let I:Nat->List (Nat × Obj)->Prop:=fun i H'=>∃ (D:PD) (L:qP),D.p=(aSt B.T B.e p i).2/\H'=L++vN B D (RR (aSt B.T B.e p i).1)/\q24 D/\zC 4 72 D.ov D.p.orders.length (Qh D.p.orders) L/\zr w0 L
 obtain⟨D0,L0,hD0,hs0,hd1,hd2,hd3⟩:=h14
 refine VD (n:=B.e.n) (at_:=B.e.a) (t1:=3) (t2:=43) hs0 (by simp) om I (fun _ _=>False) ⟨D0,L0,by rw[hD0];rfl,rfl,hd1,by rw[hD0];exact hd2,hd3⟩ ?_ ?_ ?_ ?_
 ·rintro i H' ⟨D,L,_,rfl,_⟩
  simp[RR]
 ·rintro l l' Rr post i W H' hi ⟨D,L,hDp,rfl,h1,h2,h3⟩ hs hl hl' hp _
  rw[qdr]
  refine⟨rfl,?_⟩
  have hps:PS w0 W B ((l',.deferred (some []))::(l,.loop (Rr .ready none))::RR (aSt B.T B.e p i).1) (aSt B.T B.e p i).2:=⟨D,L,hDp,St.two hs,h1,by rw[<-hDp];exact h2,h3⟩
  have ho:=q4d B.T B.e p i
  refine qb7 (s:=aSt B.T B.e p i) hB om hps fun w' h'=>?_
  have e:=qvW B.T B.e p (i:=i) om
  obtain⟨D',L',hD',hs',h1',h2',h3'⟩:=h'
  refine hp w' (L'++vN B D' (RR (aSt B.T B.e p (i+1)).1)) ⟨D',L',by rw[hD',e];rfl,rfl,h1',by rw[hD'];exact h2',h3'⟩ ?_
  rw[e]
  exact hs'.perm (((List.Perm.swap _ _ _).trans ((List.Perm.cons _ QW).trans QW)).symm)
 ·rintro W H' l' hl' ⟨D,L,hDp,rfl,h1,h2,h3⟩ hs
  show qiw (Addr.mk n1 0 none) (Addr.mk n4 0 none) [mk l'] W K
  rw[qdp]
  refine⟨hs.get (k:=0) rfl,?_⟩
  have hps:PS w0 W B ((l',.deferred (some []))::RR (aSt B.T B.e p B.e.n.toNat).1) (aSt B.T B.e p B.e.n.toNat).2:=⟨D,L,hDp,hs.perm QW,h1,by rw[<-hDp];exact h2,h3⟩
  rw[q6E]at hps
  have h5:=hps.putR (k:=0) rfl (.deferred none)
  exact hK _ (((((h5.tail hl').tail hn4).tail hn1).tail hb1).tail hb2)
 ·rintro c W H' l' _ hJ
  exact hJ.elim
end Go.Fx.Tryz
namespace Go.Fx.Tryz
set_option maxRecDepth 100000
open Go Go.Fx Go.Proofs
def c35:=qx Tryz.f35
def qM3:=Tryz.f35.results.toList
abbrev q0p K:=qH P qM3 K
def f35 a b w K:=CS P c35 none [4,5] [4,5] (q0p K) (zh 100 [(VP a),(Value.agg b)]) w
abbrev qIj K:=kq c35 7 [4,5] [4,5] (q0p K)
def YB a b c d w K:=SG c35 29 [3,6,0] [4,5] (qIj K) 100 [(45,VB a),(3,VQ b),(6,VI c),(0,VP d)] w
def qsL a b c w K:=SG c35 15 [4,5] [4,5] (q0p K) 100 [(3,VQ a),(6,VI b),(0,VP c)] w
abbrev qEr K:=kq c35 15 [4,5] [4,5] (q0p K)
def ZH a b c d w K:=SG c35 123 [3,6,0] [4,5] (qEr K) 100 [(75,VB a),(3,VQ b),(6,VI c),(0,VP d)] w
def q8N a b c w K:=SG c35 31 [4,5] [4,5] (q0p K) 100 [(3,VQ a),(6,VI b),(0,VP c)] w
def q3V a b w K:=SG c35 63 [4,5] [4,5] (q0p K) 100 [(10,VQ a),(3,VQ b)] w
def q1O a w K:=SG c35 127 [4,5] [4,5] (q0p K) 100 [(10,VQ a)] w
theorem qqc:q1O a w K=(∃ b:Bool,w.drew.cell? (a.add 22)=some (.bool b)/\K (Value.tuple #[(Value.pointer (some a)),(Value.bool (!b))]) w.drew):=kr
theorem qqe:q3V a d w K=((qa P 70 [] w.drew (fun j e=>∃ f:Array Value,j=(.agg f)/\∃ b:Int,e.cell? d=some (.int .i64 b)/\0<=b/\b<(25:Nat)/\∃ g:Value,f[(Int.toNat b*1)]?=some g/\Zw P g [(Value.pointer (some a))] e (fun k l=>k=(.tuple #[])/\q1O a l K)))/\(∃ c:Int,w.drew.cell? d=some (.int .i64 c)/\qa P 70 [] w.drew (fun m n=>∃ h:Array Value,m=(.agg h)/\0<=c/\c<(25:Nat)/\∃ i:Value,h[(Int.toNat c*1)]?=some i/\Zw P i [(Value.pointer (some a))] n (fun o p=>o=(.tuple #[])/\q1O a p K)))):=kr
theorem qpP:q8N a b c w K=(qi c (fun h=>0<=b/\b<(8:Nat)/\qf 6 a w.drew (fun d=>qf 8 (h.add (Int.toNat b*8)) w.drew (fun e=>(q4L (.map #[] 0) w.drew (fun i j=>q4L (.map #[] 0) j (fun k l=>∃ f:Array Value,(∀ wq,(Instr.build 106 #[(0,(Value.pointer c)),(1,(Value.agg d)),(3,(Value.agg e)),(5,(Value.map (some i))),(6,(Value.map (some k))),(7,(Value.int .i64 (-1))),(8,(Value.int .i64 (-1)))]).run P wq=.ok (.agg f) wq)/\qt f 106 l (fun m n=>q3V (Addr.mk m 0 none) a n K))))/\(q4L (.map #[] 0) w.drew (fun o p=>q4L (.map #[] 0) p (fun q r=>∃ g:Array Value,(∀ wq,(Instr.build 106 #[(0,(Value.pointer c)),(1,(Value.agg d)),(3,(Value.agg e)),(5,(Value.map (some q))),(6,(Value.map (some o))),(7,(Value.int .i64 (-1))),(8,(Value.int .i64 (-1)))]).run P wq=.ok (.agg g) wq)/\qt g 106 r (fun s t=>q3V (Addr.mk s 0 none) a t K)))))))):=kr
theorem qpt:ZH a b c d w K=(qC a (K (Value.tuple #[(Value.pointer none),(Value.bool false)]) w) (q8N b c d w K)):=kr
theorem qm9:qsL a c d w K=(qf 6 a w (fun m=>qa P 36 [(Value.agg m)] w (fun n b=>∃ o:Bool,∃ e:Bool,∃ f:Bool,n=(.tuple #[(Value.bool o),(Value.bool e),(Value.bool f)])/\qC f (∃ g:Int,b.cell? (a.add 5)=some (.int .i64 g)/\qC (decide (g<0)) (ZH true a c d b K) (∃ h:Int,b.cell? (a.add 5)=some (.int .i64 h)/\qC (decide (h > 65536)) (ZH true a c d b K) (qC e (∃ i:Int,b.cell? (a.add 5)=some (.int .i64 i)/\qC (decide (i<1)) (ZH true a c d b K) (∃ j:Int,b.cell? (a.add 5)=some (.int .i64 j)/\ZH (decide (j > 16)) a c d b K)) (ZH false a c d b K)))) (qC e (∃ k:Int,b.cell? (a.add 5)=some (.int .i64 k)/\qC (decide (k<1)) (ZH true a c d b K) (∃ l:Int,b.cell? (a.add 5)=some (.int .i64 l)/\ZH (decide (l > 16)) a c d b K)) (ZH false a c d b K))))):=kr
theorem qlT:YB a b c d w K=(qC a (K (Value.tuple #[(Value.pointer none),(Value.bool false)]) w) (qsL b c d w K)):=kr
theorem qHa:f35 c e w K=(qt e 45 w (fun d b=>∃ a:Int,b.cell? ((Addr.mk d 0 none).add 1)=some (.int .i64 a)/\∃ f:Int,b.cell? (Addr.mk d 0 none)=some (.int .i64 f)/\qC (decide (f<1)) (YB true (Addr.mk d 0 none) a c b K) (∃ g:Int,b.cell? (Addr.mk d 0 none)=some (.int .i64 g)/\qC (decide (g > 24)) (YB true (Addr.mk d 0 none) a c b K) (qC (decide (a<0)) (YB true (Addr.mk d 0 none) a c b K) (qC (decide (a>=8)) (YB true (Addr.mk d 0 none) a c b K) (qi c (fun j=>0<=a/\a<(8:Nat)/\∃ h:Bool,b.cell? ((j.add 64).add (Int.toNat a*1))=some (.bool h)/\qC (!h) (YB true (Addr.mk d 0 none) a c b K) (qi c (fun k=>0<=a/\a<(8:Nat)/\∃ i:Bool,b.cell? ((k.add 72).add (Int.toNat a*1))=some (.bool i)/\YB i (Addr.mk d 0 none) a c b K))))))))):=kr
theorem qGF a b w K(h:f35 a b w K):qa P 35 [(Value.pointer a),(Value.agg b)] w K:=zj c35 Tryz.func35 h
def c40:=qx Tryz.f40
def qLl:=Tryz.f40.results.toList
abbrev Ym K:=qH P qLl K
def f40 a b w K:=CS P c40 none [] [] (Ym K) (zh 108 [(VP a),(VP b)]) w
def qgN a b c w K:=SG c40 7 [] [] (Ym K) 108 [(0,VP a),(4,VI b),(1,VP c)] w
abbrev qFc K:=kq c40 7 [] [] (Ym K)
abbrev qrN K:=qq 0 (qFc K)
def qA7 K Y1 e w:=zJ (fun e w=>CS P (cA c40 116) none [0,27,4,1] [0,4,1] (qw [0,27,4,1] Y1 (qrN K)) e w) e w
abbrev qir K Y1:=qw [0,27,4,1] Y1 (qrN K)
def q90 a b c d w K Y1:=SG c40 116 [0,27,4,1] [0,4,1] (qir K Y1) 108 [(0,VP a),(27,VQ b),(4,VI c),(1,VP d)] w
def q8C a b c w K:=SG c40 15 [] [] (Ym K) 108 [(0,VP a),(4,VI b),(1,VP c)] w
abbrev qFq K:=kq c40 15 [] [] (Ym K)
abbrev qw8 K:=qq 2 (qFq K)
def qzE K Y3 e w:=zJ (fun e w=>CS P (cA c40 244) none [0,43,4,1] [4,0,1] (qw [0,43,4,1] Y3 (qw8 K)) e w) e w
abbrev qiZ K Y3:=qw [0,43,4,1] Y3 (qw8 K)
def q80 a b c d w K Y3:=SG c40 244 [0,43,4,1] [4,0,1] (qiZ K Y3) 108 [(0,VP a),(43,VQ b),(4,VI c),(1,VP d)] w
def q7s a b c w K:=SG c40 31 [] [] (Ym K) 108 [(4,VI a),(0,VP b),(1,VP c)] w
abbrev qC6 K:=kq c40 31 [] [] (Ym K)
def qtA a b c w K:=SG c40 501 [4,0,1] [] (qC6 K) 108 [(4,VI a),(0,VP b),(1,VP c)] w
def q99 a b c w K:=SG c40 63 [] [] (Ym K) 108 [(4,VI a),(0,VP b),(1,VP c)] w
def q8Y a b c w K:=SG c40 127 [] [] (Ym K) 108 [(4,VI a),(0,VP b),(1,VP c)] w
theorem qlC:q8Y a b c w K=(qi c (fun f=>∃ d:Bool,w.cell? (f.add 21)=some (.bool d)/\qC d (qi b (fun g=>0<=a/\a<(8:Nat)/\qi b (fun h=>∃ e:Int,w.drew.cell? ((g.add 80).add (Int.toNat a*1))=some (.int .i64 e)/\0<=a/\a<(8:Nat)/\zG ((h.add 80).add (Int.toNat a*1)) (Value.int .i64 (IntKind.wrap .i64 (e+1))) w.drew (fun i=>K (Value.tuple #[]) i)))) (K (Value.tuple #[]) w))):=kr
theorem qpR:q99 d b a w K=(qi a (fun f=>∃ e:Int,w.cell? (f.add 20)=some (.int .i64 e)/\qC (decide (e>=0)) (qi a (fun g=>qi b (fun h=>∃ c:Int,w.drew.cell? (g.add 20)=some (.int .i64 c)/\0<=c/\c<(8:Nat)/\zG ((h.add 72).add (Int.toNat c*1)) (Value.bool true) w.drew (fun i=>q8Y d b a i K)))) (q8Y d b a w K))):=kr
theorem qol:qtA d c a w K=(qi a (fun e=>qi c (fun f=>qi a (fun g=>∃ b:Int,w.drew.cell? (e.add 19)=some (.int .i64 b)/\0<=b/\b<(8:Nat)/\qf 8 (g.add 8) w.drew (fun h=>qa P 74 [(Value.pointer (some (f.add (Int.toNat b*8)))),(Value.agg h)] w.drew (fun i j=>i=(.tuple #[])/\q99 d c a j K)))))):=kr
theorem qpI:q7s d b a w K=(qi a (fun f=>∃ e:Int,w.cell? (f.add 19)=some (.int .i64 e)/\qC (decide (e>=0)) (qi a (fun g=>qi b (fun h=>∃ c:Int,w.drew.cell? (g.add 19)=some (.int .i64 c)/\0<=c/\c<(8:Nat)/\zG ((h.add 64).add (Int.toNat c*1)) (Value.bool true) w.drew (fun i=>qtA d b a i K)))) (q99 d b a w K))):=kr
def qdw a b c d w K Y3:=SG c40 979 [0,43,4,1] [4,0,1] (qiZ K Y3) 108 [(0,VP a),(43,VQ b),(4,VI c),(1,VP d)] w
theorem qov:qdw a b d e w K Y3=(∃ (k80 f:Value) (g:World),(Instr.entry (Value.pointer (some b))).run P w=.ok (.tuple #[k80,f]) g/\∃ h:Array Value,k80=(.agg h)/\∃ i:Int,f=(.int .i64 i)/\qt (qn P 117) 117 g (fun j m=>qN 2 (Addr.mk j 0 none) h m (fun c=>qi a (fun n=>∃ k:Option Nat,c.drew.cell? (n.add 89)=some (.map k)/\qf 2 (Addr.mk j 0 none) c.drew (fun o=>∃ l:World,(Instr.mapUpdate 31 (Value.map k) (Value.agg o) (Value.int .i64 i)).run P c.drew=.ok () l/\Y3 (ql.mk 108 [(0,(Value.pointer a)),(43,(Value.pointer (some b))),(4,(Value.int .i64 d)),(1,(Value.pointer e))] []) l))))):=kr
theorem q5f:q80 b a c d w K Y3=((∃ e:World,(Instr.next (Value.pointer (some a)) false 0).run P w=.ok (.tuple #[.bool false]) e/\q7s c b d e K)\/∃ (k36 g:Value) (f:World),(Instr.next (Value.pointer (some a)) false 0).run P w=.ok (.tuple #[.bool true,k36,g]) f/\qdw b a c d f K Y3):=kr
theorem qpB:q8C b c a w K=(qi a (fun g=>∃ d:Option Nat,w.cell? (g.add 18)=some (.map d)/\∃ (e:Nat) (f:World),(Instr.range 31 (Value.map d)).run P w=.ok (.pointer (some (Addr.mk e 0 none))) f/\za (qzE K) (ql.mk 108 [(0,(Value.pointer b)),(43,(Value.pointer (some (Addr.mk e 0 none)))),(4,(Value.int .i64 c)),(1,(Value.pointer a))] []) f)):=kr
def qe1 a b c d w K Y1:=SG c40 467 [0,27,4,1] [0,4,1] (qir K Y1) 108 [(0,VP a),(27,VQ b),(4,VI c),(1,VP d)] w
theorem qop:qe1 b c d e w K Y1=(∃ (k96 f:Value) (g:World),(Instr.entry (Value.pointer (some c))).run P w=.ok (.tuple #[k96,f]) g/\∃ h:Array Value,k96=(.agg h)/\∃ i:Array Value,f=(.agg i)/\qt (qn P 117) 117 g (fun j n=>qt (qn P 27) 27 n (fun k o=>qN 2 (Addr.mk j 0 none) h o (fun p=>qN 8 (Addr.mk k 0 none) i p (fun a=>qi b (fun q=>∃ l:Option Nat,a.drew.cell? (q.add 88)=some (.map l)/\qf 2 (Addr.mk j 0 none) a.drew (fun r=>qf 8 (Addr.mk k 0 none) a.drew (fun s=>∃ m:World,(Instr.mapUpdate 30 (Value.map l) (Value.agg r) (Value.agg s)).run P a.drew=.ok () m/\Y1 (ql.mk 108 [(0,(Value.pointer b)),(27,(Value.pointer (some c))),(4,(Value.int .i64 d)),(1,(Value.pointer e))] []) m)))))))):=kr
theorem q4R:q90 b a c d w K Y1=((∃ e:World,(Instr.next (Value.pointer (some a)) false 0).run P w=.ok (.tuple #[.bool false]) e/\q8C b c d e K)\/∃ (k21 g:Value) (f:World),(Instr.next (Value.pointer (some a)) false 0).run P w=.ok (.tuple #[.bool true,k21,g]) f/\qe1 b a c d f K Y1):=kr
theorem qpN:qgN b c a w K=(qi a (fun g=>∃ d:Option Nat,w.cell? (g.add 17)=some (.map d)/\∃ (e:Nat) (f:World),(Instr.range 30 (Value.map d)).run P w=.ok (.pointer (some (Addr.mk e 0 none))) f/\za (qA7 K) (ql.mk 108 [(0,(Value.pointer b)),(27,(Value.pointer (some (Addr.mk e 0 none)))),(4,(Value.int .i64 c)),(1,(Value.pointer a))] []) f)):=kr
theorem qJE:f40 c b w K=(qi b (fun d=>∃ a:Int,w.cell? ((d.add 1).add 1)=some (.int .i64 a)/\qi b (fun e=>qi c (fun f=>qf 8 (e.add 8) w.drew (fun g=>0<=a/\a<(8:Nat)/\qN 8 (f.add (Int.toNat a*8)) g w.drew (fun h=>qgN c a b h K)))))):=kr
theorem qHN a b w K(h:f40 a b w K):qa P 40 [(Value.pointer a),(Value.pointer b)] w K:=zj c40 Tryz.func40 h
def c38:=qx Tryz.f38
def qMa:=Tryz.f38.results.toList
abbrev qhJ K:=qH P qMa K
def f38 a b c w K:=CS P c38 none [6,7] [6,7] (qhJ K) (zh 37 [(VP a),(Value.agg b),(Value.agg c)]) w
abbrev qH5 K:=kq c38 3 [6,7] [6,7] (qhJ K)
abbrev qsH K:=qq 0 (qH5 K)
def qD5 K Y0 e w:=zJ (fun e w=>CS P (cA c38 52) none [6,15,5,4,13,7,14] [6,7] (qw [6,15,5,4,13,7,14] Y0 (qsH K)) e w) e w
abbrev q2W K Y0:=qw [6,15,5,4,13,7,14] Y0 (qsH K)
def qje a b c d f g h i j w K Y0:=SG c38 52 [6,15,5,4,13,7,14] [6,7] (q2W K Y0) 37 [(6,VQ a),(15,VI b),(5,VQ c),(4,VQ d),(13,VS f g h),(7,VB i),(14,VI j)] w
def qxE a b c d f g h i j w K Y0:=SG c38 211 [6,15,5,4,13,7,14] [6,7] (q2W K Y0) 37 [(6,VQ a),(5,VQ b),(4,VQ c),(13,VS d f g),(14,VI h),(15,VI i),(7,VB j)] w
abbrev qIt K Y0:=kq c38 211 [6,15,5,4,13,7,14] [6,7] (q2W K Y0)
abbrev qHt K Y0:=qq 1 (qIt K Y0)
def q8Z a b c d f g h i j k l w K Y0:=SG c38 3379 [6,5,4,13,7,14,15] [6,7,5,4,13,14,15] (qHt K Y0) 37 [(32,VB a),(6,VQ b),(5,VQ c),(4,VQ d),(13,VS f g h),(14,VI i),(15,VI j),(9,VQ k),(7,VB l)] w
def qwb a b c d f g h i j w K Y0:=SG c38 423 [6,15,5,4,13,7,14] [6,7] (q2W K Y0) 37 [(6,VQ a),(5,VQ b),(4,VQ c),(13,VS d f g),(7,VB h),(14,VI i),(15,VI j)] w
theorem qpy:qwb a b c d e f g h i w K Y0=(Y0 (ql.mk 37 [(6,(Value.pointer (some a))),(15,(Value.int .i64 (IntKind.wrap .i64 (i+1)))),(5,(Value.pointer (some b))),(4,(Value.pointer (some c))),(13,(Value.slice d e f)),(7,(Value.bool g)),(14,(Value.int .i64 h))] []) w):=kr
theorem qnx:q8Z b a c d e f g h i j k w K Y0=(qC b (qf 5 j w (fun m=>qN 5 a m w (fun l=>qf 5 a l (fun n=>K (Value.tuple #[(Value.agg n),(Value.bool true)]) l)))) (qwb a c d e f g k h i w K Y0)):=kr
theorem qpS:qxE i d e f g j k a l w K Y0=(qi f (fun q=>0<=a/\a<(g:Nat)/\qf 6 (q.add (Int.toNat a*6)) w (fun r=>qt (qn P 122) 122 w (fun b s=>qN 6 (Addr.mk b 0 none) r s (fun m=>qf 5 (Addr.mk b 0 none) m.drew (fun t=>qf 5 e m.drew (fun u=>qa P 72 [(Value.agg t),(Value.agg u)] m.drew (fun v c=>∃ n:Bool,v=(.bool n)/\qC n (∃ h:Int,c.cell? ((Addr.mk b 0 none).add 1)=some (.int .i64 h)/\0<=h/\h<(8:Nat)/\∃ o:Int,c.cell? (d.add (Int.toNat h*1))=some (.int .i64 o)/\∃ p:Int,c.cell? ((Addr.mk b 0 none).add 5)=some (.int .i64 p)/\q8Z (decide (o<p)) i d e f g j k a (Addr.mk b 0 none) l c K Y0) (q8Z false i d e f g j k a (Addr.mk b 0 none) l c K Y0))))))))):=kr
def qxv a w K:=SG c38 7 [6,7] [6,7] (qhJ K) 37 [(6,VQ a)] w
theorem qlZ:qxv a w K=(∃ b:Array Value,(∀ wq,(Instr.build 97 #[]).run P wq=.ok (.agg b) wq)/\qN 5 a b w (fun c=>qf 5 a c (fun d=>K (Value.tuple #[(Value.agg d),(Value.bool false)]) c))):=kr
theorem qhf:qje a b d e f g h i c w K Y0=(qC (decide (b<c)) (qxE a d e f g h c b i w K Y0) (qxv a w K)):=kr
theorem qJo:f38 e f g w K=(qt f 97 w (fun i j=>qt g 27 j (fun k l=>qt (qn P 97) 97 l (fun m a=>qi e (fun n=>∃ (b:OA) (c d:Nat),a.cell? n=some (.slice b c d)/\∃ h:Int,(∀ wq,zZ a wq->(Builtin.len_ #[109] 3 #[(Value.slice b c d)]).run P wq=.ok (.int .i64 h) wq)/\za (qD5 K) (ql.mk 37 [(6,(Value.pointer (some (Addr.mk m 0 none)))),(15,(Value.int .i64 0)),(5,(Value.pointer (some (Addr.mk k 0 none)))),(4,(Value.pointer (some (Addr.mk i 0 none)))),(13,(Value.slice b c d)),(7,(Value.bool false)),(14,(Value.int .i64 h))] []) a))))):=kr
theorem qHB a b c w K(h:f38 a b c w K):qa P 38 [(Value.pointer a),(Value.agg b),(Value.agg c)] w K:=zj c38 Tryz.func38 h
def c39:=qx Tryz.f39
def qMv:=Tryz.f39.results.toList
abbrev qg0 K:=qH P qMv K
def f39 a b c d w K:=CS P c39 none [] [] (qg0 K) (zh 40 [(VP a),(Value.agg b),(VI c),(VI d)]) w
def q8L a b c d f w K:=SG c39 7 [] [] (qg0 K) 40 [(2,VI a),(5,VQ b),(0,VP c),(3,VI d),(8,VP f)] w
def qsg a b c d f w K:=SG c39 15 [] [] (qg0 K) 40 [(2,VI a),(5,VQ b),(0,VP c),(3,VI d),(8,VP f)] w
theorem qn8:qsg d e b f g w K=(qi g (fun z=>zG z (Value.int .i64 (IntKind.wrap .i64 (f+1))) w (fun c=>qi b (fun h=>qf 5 e c.drew (fun a0=>∃ a:Array Value,(∀ wq,(Instr.build 122 #[(0,(Value.agg a0)),(1,(Value.int .i64 d))]).run P wq=.ok (.agg a) wq)/\(∃ (i:OA) (j k:Nat),c.drew.cell? h=some (.slice i j k)/\qJ 6 [(Value.agg a)]/\qt (([(Value.agg a)].map fun(v:Value)=>v.cells.toList).flatten.toArray) 122 c.drew (fun b0 c0=>∃ (l:OA) (m n:Nat),∃ o:World,(Builtin.append_ #[109,109] 109 #[(Value.slice i j k),(Value.slice (some (Addr.mk b0 0 none)) 1 1)]).run P c0=.ok (.slice l m n) o/\qi b (fun d0=>zG d0 (Value.slice l m n) o (fun e0=>K (Value.tuple #[]) e0))))/\(qJ 6 [(Value.agg a)]/\qt (([(Value.agg a)].map fun(v:Value)=>v.cells.toList).flatten.toArray) 122 c.drew (fun f0 p=>∃ (q:OA) (r s:Nat),p.cell? h=some (.slice q r s)/\∃ (t:OA) (u x:Nat),∃ y:World,(Builtin.append_ #[109,109] 109 #[(Value.slice q r s),(Value.slice (some (Addr.mk f0 0 none)) 1 1)]).run P p=.ok (.slice t u x) y/\qi b (fun g0=>zG g0 (Value.slice t u x) y (fun h0=>K (Value.tuple #[]) h0))))))))):=kr
theorem qqb:q8L c d e a b w K=(qi b (fun g=>∃ f:Int,w.cell? g=some (.int .i64 f)/\qC (f==(IntKind.wrap .i64 (a+1))) (K (Value.tuple #[]) w) (qsg c d e a b w K))):=kr
theorem qG9:f39 b j h i w K=(qt j 97 w (fun a c=>qi b (fun k=>qf 5 (Addr.mk a 0 none) c.drew (fun l=>(∃ d:Int,c.drew.cell? ((Addr.mk a 0 none).add 1)=some (.int .i64 d)/\0<=d/\d<(8:Nat)/\qa P 73 [(Value.agg l)] c.drew (fun n o=>∃ e:Int,n=(.int .i64 e)/\0<=e/\e<(3:Nat)/\q8L h (Addr.mk a 0 none) b i (some (((k.add 1).add (Int.toNat d*3)).add (Int.toNat e*1))) o K))/\(qa P 73 [(Value.agg l)] c.drew (fun p m=>∃ f:Int,p=(.int .i64 f)/\∃ g:Int,m.cell? ((Addr.mk a 0 none).add 1)=some (.int .i64 g)/\0<=g/\g<(8:Nat)/\0<=f/\f<(3:Nat)/\q8L h (Addr.mk a 0 none) b i (some (((k.add 1).add (Int.toNat g*3)).add (Int.toNat f*1))) m K)))))):=kr
theorem qGw a b c d w K(h:f39 a b c d w K):qa P 39 [(Value.pointer a),(Value.agg b),(Value.int .i64 c),(Value.int .i64 d)] w K:=zj c39 Tryz.func39 h
end Go.Fx.Tryz
namespace Go.Fx.Tryz
open Go Go.Fx Go.Fx.Mo
open Go.Proofs
variable {w0 w:World} {H:qP} {K:KT}
set_option maxRecDepth 20000
theorem qhm{T:Th}{tb tob tnb k:Nat}{tt:TypeId}{rest:List Value}(h:St w0 w H)(hT:vr T)(hk:H[k]?=some (tb,Cs (qU T tob tnb++rest) tt))(e:Ev)
  (hno:zw T e=true->∀ w',St w0 w' H->K (.tuple [.pointer none,.bool false].toArray) w')
  (hyes:zw T e=false->∀ n2 w',w0.heap.size<=n2->St w0 w' ((n2,Cs (qE e) 45)::H)->q8N (Addr.mk n2 0 none) e.th (some (Addr.mk tb 0 none)) w' K) :
  f35 (some (Addr.mk tb 0 none)) (qE e).toArray w K:=by
 rw[qHa]
 refine h.newC fun n2 w3 hn2 h3=>?_
 have ev:∀ {w':World},St w0 w' ((n2,Cs (qE e) 45)::H)->∀ i,w'.cell? (Addr.mk n2 i none)=(qE e)[i]?:=fun h' i=>h'.cell (k:=0) rfl
 have h3:St w0 w3 ((n2,Cs (qE e) 45)::H):=h3
 have ref:∀ {w':World},St w0 w' ((n2,Cs (qE e) 45)::H)->zw T e=true->K (.tuple [.pointer none,.bool false].toArray) w':=fun h' hr=>hno hr _ (h'.tail hn2)
 have s0:∀ b:Bool,(b=true->zw T e=true)->(b=false->∀ bb:Bool,(zw T e=bb↔((zl e).2.2&&(decide (e.n<0)||decide (e.n > 65536))||(zl e).2.1&&(decide (e.n<1)||decide (e.n > 16)))=bb))->
   YB b (Addr.mk n2 0 none) e.th (some (Addr.mk tb 0 none)) w3 K:=fun b hb hb'=>by
  rw[qlT,qg]
  refine⟨fun hh=>ref h3 (hb hh),fun hh=>?_⟩
  have hiff:=hb' hh
  rw[qm9]
  refine h3.ldA (k:=0) (i:=0) rfl (by simp[qE]) ?_
  refine q2s h3 e fun w15 h15=>⟨_,_,_,rfl,?_⟩
  have en:=ev h15 5
  have s2:∀ b:Bool,zw T e=b->ZH b (Addr.mk n2 0 none) e.th (some (Addr.mk tb 0 none)) w15 K:=fun b hb=>by
   rw[qpt,qg]
   exact⟨fun hh=>ref h15 (by rw[hb,hh]),fun hh=>hyes (by rw[hb,hh]) n2 w15 hn2 h15⟩
  have he:w15.cell? ((Addr.mk n2 0 none).add 5)=some (Value.int .i64 e.n):=by rw[qc,en];rfl
  rw[qg]
  generalize (zl e).2.2=is at *
  generalize (zl e).2.1=atm at *
  constructor
  ·intro his
   refine⟨e.n,he,?_⟩
   rw[qg]
   refine⟨fun h1=>s2 true ((hiff true).2 (by rw[his,h1];rfl)),fun h1=>⟨e.n,he,?_⟩⟩
   rw[qg]
   refine⟨fun h2=>s2 true ((hiff true).2 (by rw[his,h1,h2];rfl)),fun h2=>?_⟩
   rw[qg]
   refine⟨fun h4=>⟨e.n,he,?_⟩,fun h4=>s2 false ((hiff false).2 (by rw[his,h1,h2,h4];rfl))⟩
   rw[qg]
   exact⟨fun h5=>s2 true ((hiff true).2 (by rw[his,h1,h2,h4,h5];rfl)),fun h5=>⟨e.n,he,s2 _ ((hiff _).2 (by rw[his,h1,h2,h4,h5];simp))⟩⟩
  ·intro his
   rw[qg]
   refine⟨fun h4=>⟨e.n,he,?_⟩,fun h4=>s2 false ((hiff false).2 (by rw[his,h4];rfl))⟩
   rw[qg]
   exact⟨fun h5=>s2 true ((hiff true).2 (by rw[his,h4,h5];rfl)),fun h5=>⟨e.n,he,s2 _ ((hiff _).2 (by rw[his,h4,h5];simp))⟩⟩
 have bad:zw T e=true->YB true (Addr.mk n2 0 none) e.th (some (Addr.mk tb 0 none)) w3 K:=fun hr=>s0 true (fun _=>hr) (fun hh=>by cases hh)
 have hth:w3.heap[tb]?=some (Cs (qU T tob tnb++rest) tt):=h3.get (k:=k+1) (by simpa using hk)
 refine⟨e.th,by rw[qc,ev h3];rfl,e.kind,by rw[ev h3];rfl,?_⟩
 rw[qg]
 refine⟨fun c1=>bad (by unfold zw;rw[c1];simp),fun c1=>⟨e.kind,by rw[ev h3];rfl,?_⟩⟩
 rw[qg]
 refine⟨fun c2=>bad (by unfold zw;rw[c2];simp),fun c2=>?_⟩
 rw[qg]
 refine⟨fun c3=>bad (by unfold zw;rw[c3];simp),fun c3=>?_⟩
 rw[qg]
 refine⟨fun c4=>bad (by unfold zw;rw[c4];simp),fun c4=>?_⟩
 have g3:0<=e.th:=by simp at c3;omega
 have g4:e.th<8:=by simp at c4;omega
 obtain⟨i,hi,hi8⟩:∃ i:Nat,e.th=i/\i<8:=⟨e.th.toNat,by omega,by omega⟩
 have hlt:e.th<((8:Nat):Int):=by simpa using g4
 have hg:zb T.begun e.th=T.begun.getD i false:=by simp[zb,hi]
 have hg2:zb T.ended e.th=T.ended.getD i false:=by simp[zb,hi]
 refine⟨g3,hlt,T.begun.getD i false,?_,?_⟩
 ·rw[qc,qc,hi,Int.toNat_natCast,Nat.mul_one,Nat.zero_add,qv hth];exact q4u hT hi8
 rw[qg]
 refine⟨fun c5=>bad (by unfold zw;rw[hg,c5];simp),fun c5=>⟨g3,hlt,T.ended.getD i false,?_,?_⟩⟩
 ·rw[qc,qc,hi,Int.toNat_natCast,Nat.mul_one,Nat.zero_add,qv hth];exact q4K hT hi8
 exact s0 _ (fun c6=>by unfold zw;rw[hg2,c6];simp) (fun c6 bb=>by unfold zw;rw[c1,c2,c3,c4,hg,c5,hg2,c6];simp)
variable {B:PB} {R:qP} {p:Pl}
theorem ZL{n:Nat}{args:List Value}(he:yc P n=true)(h:qa P n args w K):Zw P (fnV n) args w K:=by
 show match yc P n with
  | true=>qa P n ([]++args++[]) w K
  | false=>False
 rw[he]
 simpa using h
theorem qKr:yc P 92=true:=kr
theorem qK6:yc P 93=true:=kr
theorem qKl:yc P 94=true:=kr
theorem qK2:yc P 95=true:=kr
theorem qJN:yc P 96=true:=kr
theorem qJL:yc P 97=true:=kr
theorem qhv{k:Nat}(hk:k<25):Qp[k]?=some (fnV (if k=4 then 93 else if k=11 then 94 else if k=13 then 95 else if k=14 then 96 else if k=15 then 97 else 92)):=by
 unfold Qp
 simp only[List.getElem?_set,List.length_set,List.length_replicate,List.getElem?_replicate]
 repeat' split
 all_goals first | rfl | omega
theorem qy8(h:PS w0 w B R p)(hB:yv B)(hn:p.orders.length<1000/\(B.e.kind=4->B.e.n<=16))(hk:1<=B.e.kind/\B.e.kind<=24)(hK:∀ w',PS w0 w' B R (Mo.act B.T B.e p)->K (.tuple #[]) w') :
  ∃ v,Qp.toArray[B.e.kind.toNat*1]?=some v/\Zw P v [.pointer (some (Addr.mk B.pb 0 none))] w K:=by
 obtain⟨k,hkk,hk25⟩:∃ k:Nat,B.e.kind=k/\k<25:=⟨B.e.kind.toNat,by omega,by omega⟩
 refine⟨_,by rw[hkk,Int.toNat_natCast,Nat.mul_one];simpa using qhv hk25,?_⟩
 unfold Mo.act at hK
 rw[hkk]at hK
 have ne:∀ a:Nat,k≠a->((k:Int)=(a:Int))=False:=fun a h=>by simp;omega
 by_cases h4:k=4
 ·subst h4
  exact ZL qK6 (qmV h hB (by have:=hn.2 om;omega) fun w' h'=>hK w' (by simpa using h'))
 by_cases h11:k=11
 ·subst h11
  exact ZL qKl (qwQ h hB om fun w' h'=>hK w' (by simpa using h'))
 by_cases h13:k=13
 ·subst h13
  exact ZL qK2 (qzA h hB om fun w' h'=>hK w' (by simpa using h'))
 by_cases h14:k=14
 ·subst h14
  exact ZL qJN (qD0 h hB om fun w' h'=>hK w' (by simpa using h'))
 by_cases h15:k=15
 ·subst h15
  exact ZL qJL (qqB h hB om fun w' h'=>hK w' (by simpa using h'))
 rw[if_neg h4,if_neg h11,if_neg h13,if_neg h14,if_neg h15]
 exact ZL qKr (qB4 h hB om fun w' h'=>hK w' (by
  rw[if_neg om,if_neg om,if_neg om,if_neg om,if_neg om]
  exact h'))
theorem PS.bad(h:PS w0 w B R p):w.cell? (Addr.mk B.pb 22 none)=some (.bool p.bad):=by
 obtain⟨ov,ob,nb,hp⟩:=h.pl
 rw[qv hp];exact zR h.own 6
theorem qb3(h:PS w0 w B R p)(hK:∀ w',PS w0 w' B R p->K (.agg Qp.toArray) w'):qa P 70 [] w K:=by
 obtain⟨D,L,rfl,hs,h1,h2,h3⟩:=h
 exact qrX hs fun w' hs'=>hK w' ⟨D,L,rfl,hs',h1,h2,h3⟩
theorem qoK(h:PS w0 w B R p)(hB:yv B){a:Nat}{t:TypeId}(ha:R[0]?=some (a,Cs (qE B.e) t))(hn:p.orders.length<1000/\(B.e.kind=4->B.e.n<=16))(hk:1<=B.e.kind/\B.e.kind<=24)
  (hK:∀ w',PS w0 w' B R (Mo.act B.T B.e p)->K (.tuple [.pointer (some (Addr.mk B.pb 0 none)),.bool (!(Mo.act B.T B.e p).bad)].toArray) w') :
  q3V (Addr.mk B.pb 0 none) (Addr.mk a 0 none) w K:=by
 have hd:=h.drew
 have ev:∀ {w':World} {q:Pl},PS w0 w' B R q->w'.cell? (Addr.mk a 0 none)=some (qj B.e.kind):=fun h'=>by rw[qv (h'.get ha)];rfl
 have fin:∀ w':World,PS w0 w' B R (Mo.act B.T B.e p)->q1O (Addr.mk B.pb 0 none) w' K:=fun w' h'=>by
  rw[qqc]
  have h'd:=h'.drew
  exact⟨_,by rw[qc,h'd.bad],hK _ h'd⟩
 have hlt:B.e.kind<((25:Nat):Int):=by omega
 rw[qqe]
 constructor
 ·refine qb3 hd fun w1 h1=>⟨_,rfl,_,ev h1,by omega,hlt,?_⟩
  obtain⟨v,hv,hc⟩:=qy8 (K:=fun r w'=>r=(Value.tuple [].toArray)/\q1O (Addr.mk B.pb 0 none) w' K) h1 hB hn hk fun w' h'=>⟨rfl,fin w' h'⟩
  exact⟨v,hv,hc⟩
 ·refine⟨_,ev hd,qb3 hd fun w1 h1=>⟨_,rfl,by omega,hlt,?_⟩⟩
  obtain⟨v,hv,hc⟩:=qy8 (K:=fun r w'=>r=(Value.tuple [].toArray)/\q1O (Addr.mk B.pb 0 none) w' K) h1 hB hn hk fun w' h'=>⟨rfl,fin w' h'⟩
  exact⟨v,hv,hc⟩
theorem qa1(tb ob nb:Nat)(e:Ev){c:vj}(hc:c.length=8)(wq:World) :
  (Instr.build 106 [(0,(Value.pointer (some (Addr.mk tb 0 none)))),(1,(Value.agg (qE e).toArray)),(3,(Value.agg (c.map qj).toArray)),(5,(Value.map (some ob))),(6,(Value.map (some nb))),(7,(Value.int .i64 (-1))),(8,(Value.int .i64 (-1)))].toArray).run P wq =
   .ok (.agg (qM tb e (.slice none 0 0) ob nb { orders:=[],own:=c,tk:=0,objs:=[],names:=[],fork:=-1,ends:=-1,rel:=false,bad:=false }).toArray) wq:=by
 obtain⟨c0,c1,c2,c3,c4,c5,c6,c7,rfl⟩:=own8 hc
 kernel_rfl
def qnT(c:vj):Pl:={ orders:=[],own:=c,tk:=0,objs:=[],names:=[],fork:=-1,ends:=-1,rel:=false,bad:=false }
theorem PS.make{B:PB}{c:vj}{x:Nat × Obj}(hc:c.length=8)
  (h:St w0 w ((B.pb,Cs (qM B.tb B.e (.slice none 0 0) B.ob B.nb (qnT c)) B.t)::(B.ob,.map #[] 0)::(B.nb,.map #[] 0)::x::(B.tb,Cs (qU B.T B.tob B.tnb++B.rest) B.tt)::(B.tob,.map B.es3 B.c3)::(B.tnb,.map B.es4 B.c4)::R)) :
  PS w0 w B (x::R) (qnT c):=by
 refine⟨⟨.slice none 0 0,qnT c,#[],0,#[],0⟩,[],rfl,h.perm ?_,⟨hc,MapIs.empty,MapIs.empty,by simp[qnT]⟩,zC.nil 4 72,zr.nil w0⟩
 refine List.Perm.cons _ (List.Perm.cons _ (List.Perm.cons _ ?_))
 exact(List.perm_append_comm (l₁:=[x]) (l₂:=[(B.tb,Cs (qU B.T B.tob B.tnb++B.rest) B.tt),(B.tob,.map B.es3 B.c3),(B.tnb,.map B.es4 B.c4)])).append_right R
theorem qBI{T:Th}{tb tob tnb n2:Nat}{tt:TypeId}{rest:List Value}{es3 es4:Array MapEntry}{c3 c4:Nat}{e:Ev}(hT:vr T)(ht:0<=e.th/\e.th<8)
  (h:St w0 w ((n2,Cs (qE e) 45)::(tb,Cs (qU T tob tnb++rest) tt)::(tob,.map es3 c3)::(tnb,.map es4 c4)::R))
  (hK:∀ w' pb ob nb,w0.heap.size<=pb->w0.heap.size<=ob->w0.heap.size<=nb->PS w0 w' ⟨pb,ob,nb,tb,tob,tnb,106,tt,e,T,rest,es3,c3,es4,c4⟩ ((n2,Cs (qE e) 45)::R) (yL T e)->q3V (Addr.mk pb 0 none) (Addr.mk n2 0 none) w' K) :
  q8N (Addr.mk n2 0 none) e.th (some (Addr.mk tb 0 none)) w K:=by
 rw[qpP]
 obtain⟨i,hi,hi8⟩:∃ i:Nat,e.th=i/\i<8:=⟨e.th.toNat,by omega,by omega⟩
 have hd:=h.drew
 refine⟨ht.1,by have:=ht.2;simpa using this,?_⟩
 refine hd.ldA (k:=0) (i:=0) rfl (by simp[qE]) ?_
 rw[qc,hi,Int.toNat_natCast,Nat.zero_add]
 refine hd.ldA (k:=1) (i:=i*8) rfl (by rw[List.length_append,yu hT];omega) ?_
 rw[q0r hT hi8]
 have hc:=q9m hT i
 have hp:qnT (T.clocks.getD i qW)=yL T e:=by simp[qnT,yL,getC,hi]
 constructor
 ·refine hd.newO fun n30 w31 h30 h31=>h31.newO fun n32 w33 h32 h33=>?_
  refine⟨_,qa1 tb n30 n32 e hc,?_⟩
  refine h33.newC fun n35 w36 h35 h36=>hK w36 n35 n30 n32 h35 h30 h32 ?_
  rw[<-hp]
  exact PS.make (B:=⟨n35,n30,n32,tb,tob,tnb,106,tt,e,T,rest,es3,c3,es4,c4⟩) hc (h36.perm (List.Perm.cons _ (List.Perm.swap _ _ _)))
 ·refine hd.newO fun n55 w56 h55 h56=>h56.newO fun n57 w58 h57 h58=>?_
  refine⟨_,qa1 tb n57 n55 e hc,?_⟩
  refine h58.newC fun n60 w61 h60 h61=>hK w61 n60 n57 n55 h60 h57 h55 ?_
  rw[<-hp]
  exact PS.make (B:=⟨n60,n57,n55,tb,tob,tnb,106,tt,e,T,rest,es3,c3,es4,c4⟩) hc h61
theorem PS.forget(h:PS w0 w B R p)(h1:w0.heap.size<=B.pb)(h2:w0.heap.size<=B.ob)(h3:w0.heap.size<=B.nb) :
  St w0 w ((B.tb,Cs (qU B.T B.tob B.tnb++B.rest) B.tt)::(B.tob,.map B.es3 B.c3)::(B.tnb,.map B.es4 B.c4)::R):=by
 obtain⟨D,L,rfl,hs,_,_,hL⟩:=h
 exact(((hs.sub hL).tail h1).tail h2).tail h3
theorem QD{T:Th}{e:Ev}(h:zw T e=false):1<=e.kind/\e.kind<=24/\0<=e.th/\e.th<8/\(e.kind=4->e.n<=16):=by
 unfold zw at h
 simp only[Bool.or_eq_false_iff,decide_eq_false_iff_not,Bool.and_eq_false_iff]at h
 obtain⟨⟨⟨⟨⟨⟨⟨h1,h2⟩,h3⟩,h4⟩,_⟩,_⟩,_⟩,h8⟩:=h
 refine⟨by omega,by omega,by omega,by omega,fun hk=>?_⟩
 rcases h8 with h8 | h8
 ·simp[zl,hk]at h8
 ·omega
theorem q9p{T:Th}{tb tob tnb:Nat}{tt:TypeId}{rest:List Value}{es3 es4:Array MapEntry}{c3 c4:Nat}{e:Ev}(hT:vr T)(m3:MapIs ym es3 c3 (yp Zj T.objs))(m4:MapIs ym es4 c4 (yp ZT T.names))
  (h:St w0 w ((tb,Cs (qU T tob tnb++rest) tt)::(tob,.map es3 c3)::(tnb,.map es4 c4)::R))
  (hnone:plan T e=none->∀ w' v,St w0 w' ((tb,Cs (qU T tob tnb++rest) tt)::(tob,.map es3 c3)::(tnb,.map es4 c4)::R)->K (.tuple [.pointer v,.bool false].toArray) w')
  (hsome:∀ q,plan T e=some q->∀ w' pb ob nb,w0.heap.size<=pb->w0.heap.size<=ob->w0.heap.size<=nb->PS w0 w' ⟨pb,ob,nb,tb,tob,tnb,106,tt,e,T,rest,es3,c3,es4,c4⟩ R q->
   K (.tuple [.pointer (some (Addr.mk pb 0 none)),.bool true].toArray) w') :
  qa P 35 [.pointer (some (Addr.mk tb 0 none)),.agg (qE e).toArray] w K:=by
 refine qGF _ _ _ _ (qhm h hT (k:=0) rfl e (fun hr w' h'=>hnone (by simp[plan,hr]) w' none h') fun hr n2 w' hn2 h'=>?_)
 obtain⟨k1,k2,t1,t2,hn16⟩:=QD hr
 refine qBI hT ⟨t1,t2⟩ h' fun w1 pb ob nb hpb hob hnb h1=>?_
 refine qoK h1 ⟨hT,m3,m4,⟨t1,t2⟩⟩ rfl ⟨by simp[yL],hn16⟩ ⟨k1,k2⟩ fun w2 h2=>?_
 have h2:=h2.tail hn2
 cases hb:(Mo.act T e (yL T e)).bad with
 | true=>exact hnone (by simp[plan,hr,hb]) w2 _ (h2.forget hpb hob hnb)
 | false=>exact hsome _ (by simp[plan,hr,hb]) w2 pb ob nb hpb hob hnb h2
end Go.Fx.Tryz
namespace Go.Fx
open Go
variable {P:Program} {w:World}
theorem Jr{T kt et:TypeId}(hT:P.underlying T=some (.map kt et)){m:Nat}{es:Array MapEntry}{clk:Nat}(hm:w.heap[m]?=some (.map es clk)) :
  (Instr.range T (.map (some m))).run P w=.ok (.pointer (some (Addr.mk w.heap.size 0 none))) (w.alloc (.mapIter (some m) clk #[] clk)):=by
 simp[Instr.range,run_underlying hT,MapKept.run_getObj_map hm]
theorem VY{it m:Nat}{es:Array MapEntry}{clk s stamp:Nat}{seen:Array Nat}{e:MapEntry}(hi:w.heap[it]?=some (.mapIter (some m) s seen clk))(hm:w.heap[m]?=some (.map es clk))
  (hs:seen.back?=some stamp) (he:es.find? (fun x=>x.born==stamp)=some e):(Instr.entry (.pointer (some (Addr.mk it 0 none)))).run P w=.ok (.tuple #[e.key,e.val]) w:=by
 have h1:(getObj it).run P w=.ok (.mapIter (some m) s seen clk) w:=by simp[getObj,Sem.run,hi]
 simp[Instr.entry,h1,hs,MapKept.run_getObj_map hm,he]
theorem qbQ{es:Array MapEntry}{clk:Nat}{seen:Array Nat}(hst:MapKept.Stamped es clk):(!seen.isEmpty&&!es.isEmpty&&es.all (fun x=>decide (x.born>=clk)))=false:=by
 by_cases he:es.isEmpty=true
 ·simp[he]
 ·have:es.all (fun x=>decide (x.born>=clk))=false:=by
   cases hes:es.toList with
   | nil=>simp at hes;simp[hes]at he
   | cons x r=>
    have hx:=hst.1 x (by rw[hes];simp)
    rw[<-Array.all_toList,hes]
    simp;omega
  simp[this]
theorem qbF{it m:Nat}{es:Array MapEntry}{clk:Nat}{seen:Array Nat}(hi:w.heap[it]?=some (.mapIter (some m) clk seen clk))(hm:w.heap[m]?=some (.map es clk))(hst:MapKept.Stamped es clk)
  {left:Array MapEntry} (hleft:(es.filter fun e=>!seen.contains e.born)=left) (hold:(left.filter fun e=>decide (e.born<clk))=left) (hnew:(left.filter fun e=>decide (e.born>=clk))=#[]) :
  (Instr.next (.pointer (some (Addr.mk it 0 none))) false 0).run P w=(do
   match((if left.isEmpty then #[none]else #[])++left.map some)[<-choose (.mapNext ((if left.isEmpty then #[none]else #[])++left.map some).size)]? with
   | some (some e)=>do
    setObj it (.mapIter (some m) clk (seen.push e.born) clk)
    pure (.tuple #[.bool true,e.key,e.val])
   | some none=>pure (.tuple #[.bool false])
   | none => stuck "Next: no such candidate" : Sem Value).run P w := by
 have h1:(getObj it).run P w=.ok (.mapIter (some m) clk seen clk) w:=by simp[getObj,Sem.run,hi]
 unfold Instr.next
 simp only[Sem.run_bind,h1,Result.andThen_ok,MapKept.run_getObj_map hm,qbQ hst,Bool.false_eq_true,if_false,hleft,hold,hnew,Array.append_empty]
 rfl
theorem Qd{it m:Nat}{es:Array MapEntry}{clk:Nat}{seen:Array Nat}(hi:w.heap[it]?=some (.mapIter (some m) clk seen clk))(hm:w.heap[m]?=some (.map es clk))(hst:MapKept.Stamped es clk)
  (hleft:(es.filter fun e=>!seen.contains e.born)=#[]):(Instr.next (.pointer (some (Addr.mk it 0 none))) false 0).run P w=.ok (.tuple #[.bool false]) w:=by
 rw[qbF hi hm hst hleft (by simp) (by simp)]
 simp[Question.forced]
theorem jZ{it m:Nat}{es:Array MapEntry}{clk:Nat}{seen:Array Nat}(hi:w.heap[it]?=some (.mapIter (some m) clk seen clk))(hm:w.heap[m]?=some (.map es clk))(hst:MapKept.Stamped es clk)
  (hne:(es.filter fun e=>!seen.contains e.born)≠#[]):∃ (e:MapEntry) (w1:World),e∈es.toList/\e.born ∉ seen.toList/\w1.heap=w.heap/\qAG w w1/\
   (Instr.next (.pointer (some (Addr.mk it 0 none))) false 0).run P w=.ok (.tuple #[.bool true,e.key,e.val]) (w1.putObj it (.mapIter (some m) clk (seen.push e.born) clk)):=by
 generalize hl:(es.filter fun e=>!seen.contains e.born)=left at hne
 have hmem:∀ e∈left.toList,e∈es.toList/\e.born ∉ seen.toList:=fun e he=>by
  rw[<-hl]at he
  simp at he
  exact⟨by simpa using he.1,by simpa using he.2⟩
 have hb:∀ e∈left.toList,e.born<clk:=fun e he=>hst.1 e (hmem e he).1
 rw[qbF hi hm hst hl (by rw[Array.filter_eq_self];intro e he;simpa using hb e (by simpa using he)) (by rw[Array.filter_eq_empty_iff];intro e he;have:=hb e (by simpa using he);simp;omega)]
 have hemp:left.isEmpty=false:=by simpa using hne
 have hpos:0<left.size:=Array.size_pos_iff.2 hne
 have hch:∃ (j:Nat) (w1:World),j<left.size/\w1.heap=w.heap/\qAG w w1/\(choose (.mapNext left.size)).run P w=.ok j w1:=by
  rw[run_choose_drew]
  by_cases hf:(Question.mapNext left.size).forced=true
  ·exact⟨0,w,hpos,rfl,⟨rfl,rfl,rfl⟩,by rw[if_pos hf]⟩
  ·exact⟨_,w.drew,Nat.mod_lt _ hpos,rfl,⟨rfl,rfl,rfl⟩,by rw[if_neg hf];rfl⟩
 obtain⟨j,w1,hj,hw,hkept,hr⟩:=hch
 have hi1:w1.heap[it]?=some (.mapIter (some m) clk seen clk):=by rw[hw];exact hi
 refine⟨left[j],w1,(hmem _ (by simp)).1,(hmem _ (by simp)).2,hw,hkept,?_⟩
 have hset:∀ o,(setObj it o).run P w1=.ok () (w1.putObj it o):=fun o=>by simp[setObj,Sem.run,hi1,World.putObj]
 simp only[hemp,Bool.false_eq_true,if_false,Array.empty_append,Array.size_map,Sem.run_bind,hr,Result.andThen_ok,Array.getElem?_map,Array.getElem?_eq_getElem hj,Option.map_some,hset,Sem.run_pure]
structure Vis (es:Array MapEntry) (vis rem:List MapEntry) (seen:Array Nat):Prop where
 perm:es.toList.Perm (vis++rem)
 seen:seen.toList=vis.map (·.born)
theorem Vis.start(es:Array MapEntry):Vis es [] es.toList #[]:=⟨.refl _,rfl⟩
theorem Vis.over{es:Array MapEntry}{vis:List MapEntry}{seen:Array Nat}(h:Vis es vis [] seen):(es.filter fun e=>!seen.contains e.born)=#[]:=by
 rw[Array.filter_eq_empty_iff]
 intro e he
 have h1:e∈vis:=by have:=h.perm.mem_iff.1 (show e∈es.toList by simpa using he);simpa using this
 have h2:e.born∈seen.toList:=by rw[h.seen];exact List.mem_map.2 ⟨e,h1,rfl⟩
 simp
 simpa using h2
theorem Vis.more{es:Array MapEntry}{clk:Nat}{vis rem:List MapEntry}{seen:Array Nat}(h:Vis es vis rem seen)(hst:MapKept.Stamped es clk)(hr:rem≠[]):(es.filter fun e=>!seen.contains e.born)≠#[]:=by
 obtain⟨e,r,rfl⟩:=List.exists_cons_of_ne_nil hr
 intro hc
 rw[Array.filter_eq_empty_iff]at hc
 have he:e∈es.toList:=h.perm.mem_iff.2 (by simp)
 have:=hc e (show e∈es by simpa using he)
 have hin:e.born∈seen.toList:=by simp at this;simpa using this
 rw[h.seen]at hin
 have hnd:((vis++e::r).map (·.born)).Nodup:=(h.perm.map _).nodup_iff.1 hst.2.1
 rw[List.map_append]at hnd
 exact(List.nodup_append.1 hnd).2.2 _ hin _ (by simp) rfl
theorem Vis.step{es:Array MapEntry}{vis rem:List MapEntry}{seen:Array Nat}(h:Vis es vis rem seen){e:MapEntry}(he:e∈es.toList)(hn:e.born ∉ seen.toList) :
  ∃ rem',rem.length=rem'.length+1/\Vis es (vis++[e]) rem' (seen.push e.born):=by
 have h1:e∈rem:=by
  have:=h.perm.mem_iff.1 he
  rcases List.mem_append.1 this with hv | hv
  ·exact absurd (by rw[h.seen];exact List.mem_map.2 ⟨e,hv,rfl⟩) hn
  ·exact hv
 obtain⟨a,b,rfl⟩:=List.append_of_mem h1
 refine⟨a++b,by simp;omega,?_,by simp[h.seen]⟩
 refine h.perm.trans ?_
 rw[List.append_assoc]
 exact List.Perm.append_left vis List.perm_middle
theorem Jb{es:Array MapEntry}{clk:Nat}(hst:MapKept.Stamped es clk){e:MapEntry}(he:e∈es.toList):es.find? (fun x=>x.born==e.born)=some e:=by
 cases hf:es.find? (fun x=>x.born==e.born)with
 | none=>
  rw[Array.find?_eq_none]at hf
  have:=hf e (by simpa using he)
  simp at this
 | some x=>
  have h1:=Array.find?_some hf
  have h2:=Array.mem_of_find?_eq_some hf
  have h1:x.born=e.born:=by simpa using h1
  obtain⟨i,hi⟩:=List.mem_iff_getElem?.1 (show x∈es.toList by simpa using h2)
  obtain⟨j,hj⟩:=List.mem_iff_getElem?.1 he
  have:i=j:=q1u hst.2.1 (x:=e.born) (by rw[List.getElem?_map,hi];simp[h1]) (by rw[List.getElem?_map,hj];rfl)
  subst this
  rw[hi]at hj
  exact hj
end Go.Fx
namespace Go.Fx.Mo
variable {K V:Type} [DecidableEq K]
theorem jQ{m:List (K × V)}{k:K}:qr m k=none↔∀ p∈m,p.1≠k:=by simp[qr]
theorem q0V{m:List (K × V)}{k:K}{v:V}{x:K}:x∈(put m k v).map (·.1)↔x∈m.map (·.1)\/x=k:=by
 unfold put
 split
 ·rename_i u hu
  have e:(m.map fun p=>if p.1=k then(p.1,v)else p).map (·.1)=m.map (·.1):=by
   rw[List.map_map];apply List.map_congr_left;intro p _;simp only[Function.comp_def];split<;>rfl
  rw[e]
  have hk:k∈m.map (·.1):=by
   cases hn:qr m k with
   | none=>rw[hn]at hu;cases hu
   | some u'=>
    unfold qr at hn
    obtain⟨q,hq,_⟩:=Option.map_eq_some_iff.1 hn
    have h1:=List.mem_of_find?_eq_some hq
    have h2:=List.find?_some hq
    exact List.mem_map.2 ⟨q,h1,by simpa using h2⟩
  constructor
  ·exact .inl
  ·rintro(h | h)
   ·exact h
   ·rw[h];exact hk
 ·simp
theorem Zm(m:List (K × V))(a:K)(v:V)(k:K):qr (m.map fun p=>if p.1=a then(p.1,v)else p) k=if k=a then(qr m k).map (fun _=>v)else qr m k:=by
 induction m with
 | nil=>simp[qr]
 | cons p r ih=>
  unfold qr at *
  simp only[List.map_cons,List.find?_cons]
  by_cases hp:p.1=a
  ·by_cases hk:p.1=k
   ·simp[hp,hk▸hp]
   ·have:(p.1==k)=false:=by simpa using hk
    simp only[hp,if_true]
    rw[<-hp,this]
    simpa [hp]using ih
  ·simp only[hp,if_false]
   by_cases hk:p.1=k
   ·have:¬ k=a:=fun h=>hp (hk.trans h)
    simp[hk,this]
   ·have:(p.1==k)=false:=by simpa using hk
    rw[this]
    exact ih
theorem Zn(m:List (K × V))(a:K)(v:V)(k:K):qr (m++[(a,v)]) k=(qr m k).or (if a=k then some v else none):=by
 unfold qr
 rw[List.find?_append]
 cases List.find? (fun p=>p.1==k) m with
 | some q=>simp
 | none=>by_cases h:a=k<;>simp[h]
theorem put_comm(m:List (K × V)){a b:K}(hab:a≠b)(u v:V):(put (put m a u) b v).Perm (put (put m b v) a u):=by
 have key:∀ (a b:K) (u v:V),a≠b->∀ x,qr m a=some x->qr m b=none->put (put m a u) b v=put (put m b v) a u:=by
  intro a b u v hab x ha hb
  have e1:put m a u=m.map fun p=>if p.1=a then(p.1,u)else p:=by simp[put,ha]
  have e2:put m b v=m++[(b,v)]:=by simp[put,hb]
  rw[e1,e2]
  have l1:qr (m.map fun p=>if p.1=a then(p.1,u)else p) b=none:=by rw[Zm,if_neg (Ne.symm hab),hb]
  have l2:qr (m++[(b,v)]) a=some x:=by rw[Zn,ha];rfl
  simp[put,l1,l2,Ne.symm hab]
 cases ha:qr m a with
 | some x=>
  cases hb:qr m b with
  | some y=>
   have e1:put m a u=m.map fun p=>if p.1=a then(p.1,u)else p:=by simp[put,ha]
   have e2:put m b v=m.map fun p=>if p.1=b then(p.1,v)else p:=by simp[put,hb]
   rw[e1,e2]
   have l1:qr (m.map fun p=>if p.1=a then(p.1,u)else p) b=some y:=by rw[Zm,if_neg (Ne.symm hab),hb]
   have l2:qr (m.map fun p=>if p.1=b then(p.1,v)else p) a=some x:=by rw[Zm,if_neg hab,ha]
   have:put (m.map fun p=>if p.1=a then(p.1,u)else p) b v=put (m.map fun p=>if p.1=b then(p.1,v)else p) a u:=by
    simp only[put,l1,l2,List.map_map]
    apply List.map_congr_left
    intro p _
    simp only[Function.comp_def]
    by_cases h1:p.1=a
    ·have:¬ p.1=b:=fun h=>hab (h1.symm.trans h)
     simp[h1,hab]
    ·by_cases h2:p.1=b<;>simp[h1,h2,Ne.symm hab]
   rw[this]
  | none=>rw[key a b u v hab x ha hb]
 | none=>
  cases hb:qr m b with
  | some y=>rw[key b a v u (Ne.symm hab) y hb ha]
  | none=>
   have e1:put m a u=m++[(a,u)]:=by simp[put,ha]
   have e2:put m b v=m++[(b,v)]:=by simp[put,hb]
   rw[e1,e2]
   have l1:qr (m++[(a,u)]) b=none:=by rw[Zn,hb];simp[hab]
   have l2:qr (m++[(b,v)]) a=none:=by rw[Zn,ha];simp[Ne.symm hab]
   simp only[put,l1,l2,List.append_assoc]
   exact List.Perm.append_left m (List.Perm.swap _ _ _)
theorem qvq{m m':List (K × V)}(h:m.Perm m')(k:K)(v:V):(put m k v).Perm (put m' k v):=by
 have hiff:qr m k=none↔qr m' k=none:=by
  rw[jQ,jQ]
  exact⟨fun hh p hp=>hh p (h.mem_iff.2 hp),fun hh p hp=>hh p (h.mem_iff.1 hp)⟩
 cases h1:qr m k with
 | none=>
  have h2:=hiff.1 h1
  simp only[put,h1,h2]
  exact h.append_right _
 | some x=>
  cases h2:qr m' k with
  | none=>rw[hiff.2 h2]at h1;cases h1
  | some y=>
   simp only[put,h1,h2]
   exact h.map _
theorem qag{m m':List (K × V)}(u:List (K × V))(h:m.Perm m'):(zf m u).Perm (zf m' u):=by
 induction u generalizing m m' with
 | nil=>exact h
 | cons p r ih=>exact ih (qvq h p.1 p.2)
theorem JD(m u u':List (K × V)):zf m (u++u')=zf (zf m u) u':=by
 induction u generalizing m with
 | nil=>rfl
 | cons p r ih=>exact ih _
theorem q8J{u u':List (K × V)}(h:u.Perm u'):(u.map (·.1)).Nodup->∀ m:List (K × V),(zf m u).Perm (zf m u'):=by
 induction h with
 | nil=>intro _ m;exact .refl _
 | cons p _ ih=>intro hn m;exact ih (by simp at hn;exact hn.2) _
 | swap p q l=>
  intro hn m
  simp only[List.map_cons,List.nodup_cons,List.mem_cons,not_or]at hn
  exact qag l (put_comm m (fun e=>hn.1.1 e) q.2 p.2)
 | trans h1 _ ih1 ih2=>intro hn m;exact(ih1 hn m).trans (ih2 ((h1.map _).nodup_iff.1 hn) m)
end Go.Fx.Mo
namespace Go.Fx
open Go
theorem q2g{α β:Type}{f:α->β}(hf:∀ a b,f a=f b->a=b):∀ {l l':List α},(l.map f).Perm (l'.map f)->l.Perm l'
 | [],l',h=>by
  have:=h.length_eq
  simp at this
  rw[List.length_eq_zero_iff.1 this.symm]
 | a::r,l',h=>by
  have ha:f a∈l'.map f:=h.mem_iff.1 (by simp)
  obtain⟨b,hb,e⟩:=List.mem_map.1 ha
  have:=hf _ _ e
  subst this
  obtain⟨s,t,rfl⟩:=List.append_of_mem hb
  have h2:((b::r).map f).Perm ((b::(s++t)).map f):=h.trans ((List.perm_middle).map f)
  exact(List.Perm.cons b (q2g hf (by simpa using h2))).trans List.perm_middle.symm
theorem MapIs.of_perm{K:Type}{enc:K->Value}{es:Array MapEntry}{clk:Nat}{m m':List (K × Value)}(h:MapIs enc es clk m)(hp:m.Perm m'):MapIs enc es clk m':=⟨h.st,h.perm.trans (hp.map _)⟩
theorem Jd{B:(YT)->YT}{e0:ql}{w1:World}{es:Array MapEntry}(J:List MapEntry->Array Nat->World->Prop)(h0:J [] #[] w1)
  (hover:∀ vis seen w,Vis es vis [] seen->J vis seen w->∀ Y,B Y e0 w)
  (hmore:∀ vis rem seen w,rem≠[]->Vis es vis rem seen->J vis seen w->∀ Y:YT,(∀ e w',e∈es.toList->e.born ∉ seen.toList->J (vis++[e]) (seen.push e.born) w'->Y e0 w')->B Y e0 w):za B e0 w1:=by
 refine⟨fun n e w=>∃ vis rem seen,n=rem.length/\e=e0/\Vis es vis rem seen/\J vis seen w,⟨_,[],_,_,rfl,rfl,Vis.start es,h0⟩,?_⟩
 rintro n e w ⟨vis,rem,seen,rfl,rfl,hv,hj⟩
 by_cases hr:rem=[]
 ·subst hr;exact hover vis seen w hv hj _
 ·refine hmore vis rem seen w hr hv hj _ fun x w' hx hn hj'=>?_
  obtain⟨rem',hl,hv'⟩:=hv.step hx hn
  exact⟨rem'.length,by omega,_,rem',_,rfl,rfl,hv',hj'⟩
theorem qdC(A X Z Y:List Value)(h:X.length=Y.length):qI (A++(X++Z)) A.length Y=A++(Y++Z):=by
 rw[Ji _ _ _ (by simp;omega)]
 simp[List.drop_append,<-h,List.append_assoc]
theorem q8s{α:Type}(a b c:List α)(i:Nat)(v:α)(hi:i<b.length):(a++(b++c)).set (a.length+i) v=a++(b.set i v++c):=by
 rw[List.set_append_right _ _ om,show a.length+i-a.length=i by omega,List.set_append_left _ _ hi]
theorem MapIs.pair{K:Type}{enc:K->Value}{es:Array MapEntry}{clk:Nat}{m:List (K × Value)}(h:MapIs enc es clk m){e:MapEntry}(he:e∈es.toList):∃ q∈m,e.key=enc q.1/\e.val=q.2:=by
 have:(e.key,e.val)∈es.toList.map fun e=>(e.key,e.val):=List.mem_map.2 ⟨e,he,rfl⟩
 obtain⟨p,hp,hpe⟩:=List.mem_map.1 (h.perm.mem_iff.1 this)
 exact⟨p,hp,(congrArg Prod.fst hpe).symm,(congrArg Prod.snd hpe).symm⟩
namespace Tryz
open Go.Fx.Mo
open Go.Proofs
variable {w0 w:World} {H:qP} {K:KT}
set_option maxRecDepth 20000
section
variable {T:Th} {ob nb:Nat} {rest:List Value}
theorem JL(h:vr T){i:Nat}(hi:i<8){c:vj}(hc:c.length=8):qI (qU T ob nb++rest) (i*8) (c.map qj)=qU { T with clocks:=T.clocks.set i c } ob nb++rest:=by
 have hil:i<T.clocks.length:=by rw[h.clocks];exact hi
 have e1:T.clocks=T.clocks.take i++(T.clocks[i]::T.clocks.drop (i+1)):=by simp
 have e2:T.clocks.set i c=T.clocks.take i++(c::T.clocks.drop (i+1)):=by
  rw[List.set_eq_take_append_cons_drop,if_pos hil]
 have hA:((T.clocks.take i).flatten.map qj).length=i*8:=by
  rw[List.length_map,js (fun d hd=>h.each d (List.mem_of_mem_take hd)),List.length_take];omega
 have hX:(T.clocks[i].map qj).length=(c.map qj).length:=by rw[List.length_map,List.length_map,h.each _ (List.getElem_mem hil),hc]
 unfold qU
 dsimp only
 rw[e2]
 conv=>lhs;rw[e1]
 simp only[List.flatten_append,List.flatten_cons,List.map_append,List.append_assoc]
 rw[<-hA]
 exact qdC _ _ _ _ hX
theorem vr.setclock(h:vr T)(i:Nat){c:vj}(hc:c.length=8):vr { T with clocks:=T.clocks.set i c }:=by
 refine⟨by simp[h.clocks],fun d hd=>?_,h.begun,h.ended,h.rels,h.objs⟩
 rcases List.mem_or_eq_of_mem_set hd with hd | rfl
 ·exact h.each d hd
 ·exact hc
theorem q5H(h:vr T){i:Nat}(hi:i<8)(b:Bool):(qU T ob nb++rest).set (64+i) (.bool b)=qU { T with begun:=T.begun.set i b } ob nb++rest:=by
 have hf:(T.clocks.flatten.map qj).length=64:=by rw[List.length_map,js h.each,h.clocks]
 unfold qU
 simp only[List.append_assoc]
 rw[<-hf,q8s _ _ _ i _ (by simp[h.begun,hi]),List.map_set]
theorem q5M(h:vr T){i:Nat}(hi:i<8)(b:Bool):(qU T ob nb++rest).set (72+i) (.bool b)=qU { T with ended:=T.ended.set i b } ob nb++rest:=by
 have hf:(T.clocks.flatten.map qj++T.begun.map Value.bool).length=72:=by simp only[List.length_append,List.length_map,js h.each,h.clocks,h.begun]
 unfold qU
 simp only[List.append_assoc]
 rw[<-List.append_assoc,<-hf,q8s _ _ _ i _ (by simp[h.ended,hi]),List.map_set]
 simp only[List.append_assoc]
theorem qcG(h:vr T):(T.clocks.flatten.map qj++(T.begun.map Value.bool++T.ended.map Value.bool)).length=80:=by simp only[List.length_append,List.length_map,js h.each,h.clocks,h.begun,h.ended]
theorem q86(h:vr T){i:Nat}(hi:i<8)(x:Int):(qU T ob nb++rest).set (80+i) (qj x)=qU { T with rels:=T.rels.set i x } ob nb++rest:=by
 have e:∀ T:Th,qU T ob nb++rest=(T.clocks.flatten.map qj++(T.begun.map Value.bool++T.ended.map Value.bool))++(T.rels.map qj++([.map (some ob),.map (some nb)]++rest)):=fun T=>by simp[qU]
 rw[e,e,<-qcG h,q8s _ _ _ i _ (by simp[h.rels,hi]),List.map_set]
theorem q6T(h:vr T){i:Nat}(hi:i<8):(qU T ob nb++rest)[80+i]?=some (qj (T.rels.getD i 0)):=by
 have e:∀ T:Th,qU T ob nb++rest=(T.clocks.flatten.map qj++(T.begun.map Value.bool++T.ended.map Value.bool))++(T.rels.map qj++([.map (some ob),.map (some nb)]++rest)):=fun T=>by simp[qU]
 rw[e,<-qcG h,q7e _ _ _ i (by simp[h.rels,hi])]
 simp[h.rels,hi]
end
theorem qyk{c d:vj}(h:Zj c=Zj d):c=d:=by
 have h1:c.map qj=d.map qj:=by simpa [Zj]using h
 exact(List.map_inj_right (fun a b h=>by simpa using h)).1 h1
variable {B:PB} {D:PD} {R L:qP}
abbrev Wh(w0 w:World)(it m:Nat)(clk:Nat)(seen:Array Nat)(L:qP)(B:PB)(D:PD)(R:qP):Prop:=
 St w0 w ((it,.mapIter (some m) clk seen clk)::(L++vN B D R))
def withObjs(B:PB)(m:List (Ob × vj))(es:Array MapEntry)(c:Nat):PB:={ B with T:={ B.T with objs:=m },es3:=es,c3:=c }
def withNames(B:PB)(m:List (Ob × Int))(es:Array MapEntry)(c:Nat):PB:={ B with T:={ B.T with names:=m },es4:=es,c4:=c }
theorem qhN{L:qP}{k tob:Nat}{o o':Obj}{X:qP}{x:Nat × Obj}(h:St w0 w (x::(L++X)))(hk:X[k]?=some (tob,o)):St w0 (w.putObj tob o') (x::(L++X.set k (tob,o'))):=by
 have:=h.put (Yp (a:=x) (L:=L) hk) o'
 rwa [qHQ]at this
theorem q0m:P.underlying 30=some (.map 117 27):=kr
theorem q3R:P.underlying 31=some (.map 117 3):=kr
theorem qzQ{it:Nat}{seen:Array Nat}(hit:w0.heap.size<=it)(h:Wh w0 w it B.ob D.c1 seen L B D R)(hB:yv B)(hD:q24 D){e:MapEntry}{q:Ob × vj}(he:e∈D.es1.toList)(hs:seen.back?=some e.born)
  (hq:q∈D.p.objs) (hk:e.key=ym q.1) (hv:e.val=Zj q.2) (x:Int) {Y:YT}
  (hK:∀ w' es c,Wh w0 w' it B.ob D.c1 seen L (withObjs B (put B.T.objs q.1 q.2) es c) D R->MapIs ym es c (yp Zj (put B.T.objs q.1 q.2))->
   Y (ql.mk 108 [(0,(Value.pointer (some (Addr.mk B.tb 0 none)))),(27,(Value.pointer (some (Addr.mk it 0 none)))),(4,(Value.int .i64 x)),(1,(Value.pointer (some (Addr.mk B.pb 0 none))))] []) w') :
  qe1 (some (Addr.mk B.tb 0 none)) (Addr.mk it 0 none) x (some (Addr.mk B.pb 0 none)) w K Y:=by
 rw[qop]
 have hm:w.heap[B.ob]?=some (.map D.es1 D.c1):=h.get (Yp (k:=1) rfl)
 refine⟨_,_,w,VY (h.get (k:=0) rfl) hm hs (Jb hD.m1.st he),(qR q.1).toArray,hk,(q.2.map qj).toArray,hv,?_⟩
 have hql:=hD.each q hq
 rw[qFp,qFb]
 refine h.newC fun n100 w101 hn100 h101=>h101.newC fun n102 w103 hn102 h103=>?_
 have h103:St w0 w103 ((n102,Cs (qW.map qj) 27)::(n100,Cs [.bool false,.int .u32 0] 117)::(it,.mapIter (some B.ob) D.c1 seen D.c1)::(L++vN B D R)):=h103
 refine h103.stA (k:=1) rfl rfl (by simp) (by simp[qR,Value.oneCell']) fun w104 h104=>?_
 refine h104.stA (k:=0) rfl (by simp[hql]) (by simp[qW]) (by simp[Value.oneCell']) fun w105 h105=>?_
 have h105:St w0 w105 ((n102,Cs (qI (qW.map qj) 0 (q.2.map qj)) 27)::(n100,Cs (qR q.1) 117)::(it,.mapIter (some B.ob) D.c1 seen D.c1)::(L++vN B D R)):=h105
 rw[Ji _ _ _ (by simp[qW,hql])]at h105
 have e0:(qW.map qj).take 0++q.2.map qj++(qW.map qj).drop (0+(q.2.map qj).length)=q.2.map qj:=by simp[qW,hql]
 rw[e0]at h105
 have hd:=h105.drew
 refine⟨some B.tob,?_,?_⟩
 ·rw[qc,qv (hd.has B.tb _ (by simp[vN]):_=some (Cs (qU B.T B.tob B.tnb++B.rest) B.tt))]
  exact ZX hB.th 0
 refine hd.ldA (k:=1) (i:=0) rfl (by simp[qR]) (hd.ldA (k:=0) (i:=0) rfl (by simp[hql]) ?_)
 have hd':=(hd.tail hn102).tail hn100
 obtain⟨es',c',hr,hm'⟩:=hB.m3.update qeN q0m (w:=w105.drew) (b:=B.tob) (hd'.get (Yp (k:=4) rfl)) q.1 (Zj q.2)
 rw[Vk]at hm'
 have e8:((q.2.map qj).drop 0).take 8=q.2.map qj:=by simp only[List.drop_zero];exact List.take_of_length_le (by simp[hql])
 rw[e8]
 exact⟨_,hr,hK _ es' c' (qhN (k:=4) hd' rfl) hm'⟩
theorem qrK{m:List (Ob × vj)}{k:Ob}{c:vj}(h:∀ q∈m,q.2.length=8)(hc:c.length=8):∀ q∈put m k c,q.2.length=8:=by
 intro q hq
 unfold put at hq
 split at hq
 ·obtain⟨y,hy,rfl⟩:=List.mem_map.1 hq
  split
  ·exact hc
  ·exact h y hy
 ·rcases List.mem_append.1 hq with hq | hq
  ·exact h q hq
  ·simp at hq;rw[hq];exact hc
theorem q2e{u:List (Ob × vj)}:∀ {m:List (Ob × vj)},(∀ q∈m,q.2.length=8)->(∀ q∈u,q.2.length=8)->∀ q∈zf m u,q.2.length=8:=by
 induction u with
 | nil=>intro m h _;exact h
 | cons p r ih=>intro m h hu;exact ih (qrK h (hu p (.head _))) fun q hq=>hu q (.tail _ hq)
theorem yv.withObjs(hB:yv B){m:List (Ob × vj)}{es:Array MapEntry}{c:Nat}(hm:MapIs ym es c (yp Zj m))(h8:∀ q∈m,q.2.length=8):yv (withObjs B m es c):=
 ⟨⟨hB.th.clocks,hB.th.each,hB.th.begun,hB.th.ended,hB.th.rels,h8⟩,hm,hB.m4,hB.lt⟩
theorem yv.withNames(hB:yv B){m:List (Ob × Int)}{es:Array MapEntry}{c:Nat}(hm:MapIs ym es c (yp ZT m)):yv (withNames B m es c):=
 ⟨⟨hB.th.clocks,hB.th.each,hB.th.begun,hB.th.ended,hB.th.rels,hB.th.objs⟩,hB.m3,hm,hB.lt⟩
def Met{V:Type}(f:V->Value)(objs:List (Ob × V))(vis:List MapEntry)(ms:List (Ob × V)):Prop:=
 vis.map (fun e=>(e.key,e.val))=ms.map (fun q=>(ym q.1,f q.2))/\∀ q∈ms,q∈objs
theorem Met.nil{V:Type}{f:V->Value}{objs:List (Ob × V)}:Met f objs [] []:=⟨rfl,by simp⟩
theorem Met.snoc{V:Type}{f:V->Value}{objs:List (Ob × V)}{vis:List MapEntry}{ms:List (Ob × V)}(h:Met f objs vis ms){e:MapEntry}{q:Ob × V}(hq:q∈objs)(hk:e.key=ym q.1)(hv:e.val=f q.2):Met f objs (vis++[e]) (ms++[q]):=
 ⟨by rw[List.map_append,List.map_append,h.1];simp[hk,hv],fun x hx=>by
  rcases List.mem_append.1 hx with hx | hx
  ·exact h.2 x hx
  ·simp at hx;rw[hx];exact hq⟩
theorem Met.over{V:Type}{f:V->Value}(hf:∀ a b,f a=f b->a=b){objs:List (Ob × V)}{es:Array MapEntry}{c:Nat}(hm:MapIs ym es c (yp f objs)){vis:List MapEntry}{seen:Array Nat}(hv:Vis es vis [] seen){ms:List (Ob × V)}
  (h:Met f objs vis ms) (m:List (Ob × V)):(zf m ms).Perm (zf m objs):=by
 have h1:=hm.perm
 have h2:(es.toList.map fun e=>(e.key,e.val)).Perm (vis.map fun e=>(e.key,e.val)):=by have:=hv.perm;rw[List.append_nil]at this;exact this.map _
 rw[h.1]at h2
 have h3:(ms.map (fun q=>(ym q.1,f q.2))).Perm (objs.map (fun q=>(ym q.1,f q.2))):=by
  refine h2.symm.trans ?_
  simpa [yp,Function.comp_def]using h1
 have h4:ms.Perm objs:=q2g (f:=fun q:Ob × V=>(ym q.1,f q.2)) (fun a b hab=>Prod.ext (q3x (congrArg Prod.fst hab)) (hf _ _ (congrArg Prod.snd hab))) h3
 refine q8J h4 ?_ m
 have:=hm.nodup
 have e:((yp f objs).map (·.1))=objs.map (·.1):=by simp[yp,Function.comp_def]
 rw[e]at this
 exact(h4.map _).nodup_iff.2 this
theorem Met.entry{V:Type}{f:V->Value}{objs:List (Ob × V)}{es:Array MapEntry}{c:Nat}(hm:MapIs ym es c (yp f objs)){e:MapEntry}(he:e∈es.toList):∃ q∈objs,e.key=ym q.1/\e.val=f q.2:=by
 obtain⟨q,hq,h1,h2⟩:=hm.pair he
 obtain⟨y,hy,rfl⟩:=List.mem_map.1 hq
 exact⟨y,hy,h1,h2⟩
theorem qDA(h:St w0 w (L++vN B D R))(hB:yv B)(hD:q24 D)(x:Int)
  (hK:∀ w' es c,St w0 w' (L++vN (withObjs B (zf B.T.objs D.p.objs) es c) D R)->yv (withObjs B (zf B.T.objs D.p.objs) es c)->q8C (some (Addr.mk B.tb 0 none)) x (some (Addr.mk B.pb 0 none)) w' K) :
  qgN (some (Addr.mk B.tb 0 none)) x (some (Addr.mk B.pb 0 none)) w K:=by
 rw[qpN]
 refine⟨some B.ob,?_,?_⟩
 ·rw[qc,qv (h.has B.pb _ (by simp[vN]):_=some (Cs (qM B.tb B.e D.ov B.ob B.nb D.p) B.t))]
  exact zR hD.own 1
 have hm:w.heap[B.ob]?=some (.map D.es1 D.c1):=h.has _ _ (by simp[vN])
 refine⟨w.heap.size,_,Jr q0m hm,?_⟩
 have hit:=h.le
 generalize hi:w.heap.size=it at hit
 have h1:Wh w0 (w.alloc (.mapIter (some B.ob) D.c1 #[] D.c1)) it B.ob D.c1 #[] L B D R:=by rw[<-hi];exact h.alloc _
 refine Jd (es:=D.es1) (fun vis seen w'=>∃ ms es c,Met Zj D.p.objs vis ms/\Wh w0 w' it B.ob D.c1 seen L (withObjs B (zf B.T.objs ms) es c) D R/\MapIs ym es c (yp Zj (zf B.T.objs ms)))
  ⟨[],B.es3,B.c3,Met.nil,h1,hB.m3⟩ ?_ ?_
 ·rintro vis seen w1 hv ⟨ms,es,c,hmet,hw,hmi⟩ Y
  show q90 ..
  rw[q4R]
  have hp:=hmet.over (fun _ _=>qyk) hD.m1 hv B.T.objs
  refine .inl ⟨w1,Qd (hw.get (k:=0) rfl) (hw.get (Yp (k:=1) rfl)) hD.m1.st hv.over,hK w1 es c ?_ (hB.withObjs (hmi.of_perm (hp.map _)) (q2e hB.th.objs hD.each))⟩
  exact hw.tail hit
 ·rintro vis rem seen w1 hr hv ⟨ms,es,c,hmet,hw,hmi⟩ Y hY
  show q90 ..
  rw[q4R]
  obtain⟨e,w2,he,hn,hw2,hk2,hrun⟩:=jZ (P:=P) (hw.get (k:=0) rfl) (hw.get (Yp (k:=1) rfl)) hD.m1.st (hv.more hD.m1.st hr)
  obtain⟨q,hq,hk,hvq⟩:=Met.entry hD.m1 he
  have h8:∀ q∈zf B.T.objs ms,q.2.length=8:=q2e hB.th.objs fun q hq=>hD.each q (hmet.2 q hq)
  refine .inr ⟨_,_,_,hrun,qzQ (B:=withObjs B (zf B.T.objs ms) es c) (seen:=seen.push e.born) hit ((hw.same hw2 hk2).put (k:=0) rfl _) (hB.withObjs hmi h8) hD he (by simp) hq hk hvq x fun w' es' c' h' hm'=>hY e w' he hn ?_⟩
  have e1:put (zf B.T.objs ms) q.1 q.2=zf B.T.objs (ms++[q]):=by rw[JD];rfl
  refine⟨ms++[q],es',c',hmet.snoc hq hk hvq,?_,?_⟩
  ·rw[<-e1];exact h'
  ·rw[<-e1];exact hm'
theorem qAK{it:Nat}{seen:Array Nat}(hit:w0.heap.size<=it)(h:Wh w0 w it B.nb D.c2 seen L B D R)(hB:yv B)(hD:q24 D){e:MapEntry}{q:Ob × Int}(he:e∈D.es2.toList)(hs:seen.back?=some e.born)
  (hk:e.key=ym q.1) (hv:e.val=ZT q.2) (x:Int) {Y:YT}
  (hK:∀ w' es c,Wh w0 w' it B.nb D.c2 seen L (withNames B (put B.T.names q.1 q.2) es c) D R->MapIs ym es c (yp ZT (put B.T.names q.1 q.2))->
   Y (ql.mk 108 [(0,(Value.pointer (some (Addr.mk B.tb 0 none)))),(43,(Value.pointer (some (Addr.mk it 0 none)))),(4,(Value.int .i64 x)),(1,(Value.pointer (some (Addr.mk B.pb 0 none))))] []) w') :
  qdw (some (Addr.mk B.tb 0 none)) (Addr.mk it 0 none) x (some (Addr.mk B.pb 0 none)) w K Y:=by
 rw[qov]
 have hm:w.heap[B.nb]?=some (.map D.es2 D.c2):=h.get (Yp (k:=2) rfl)
 refine⟨_,_,w,VY (h.get (k:=0) rfl) hm hs (Jb hD.m2.st he),(qR q.1).toArray,hk,q.2,hv,?_⟩
 rw[qFp]
 refine h.newC fun n100 w101 hn100 h101=>?_
 have h101:St w0 w101 ((n100,Cs [.bool false,.int .u32 0] 117)::(it,.mapIter (some B.nb) D.c2 seen D.c2)::(L++vN B D R)):=h101
 refine h101.stA (k:=0) rfl rfl (by simp) (by simp[qR,Value.oneCell']) fun w105 h105=>?_
 have h105:St w0 w105 ((n100,Cs (qR q.1) 117)::(it,.mapIter (some B.nb) D.c2 seen D.c2)::(L++vN B D R)):=h105
 have hd:=h105.drew
 refine⟨some B.tnb,?_,?_⟩
 ·rw[qc,qv (hd.has B.tb _ (by simp[vN]):_=some (Cs (qU B.T B.tob B.tnb++B.rest) B.tt))]
  exact ZX hB.th 1
 refine hd.ldA (k:=0) (i:=0) rfl (by simp[qR]) ?_
 have hd':=hd.tail hn100
 obtain⟨es',c',hr,hm'⟩:=hB.m4.update qeN q3R (w:=w105.drew) (b:=B.tnb) (hd'.get (Yp (k:=5) rfl)) q.1 (ZT q.2)
 rw[Vk]at hm'
 exact⟨_,hr,hK _ es' c' (qhN (k:=5) hd' rfl) hm'⟩
theorem qyY(a b:Int)(h:ZT a=ZT b):a=b:=by simpa using h
theorem qD9(h:St w0 w (L++vN B D R))(hB:yv B)(hD:q24 D)(x:Int)
  (hK:∀ w' es c,St w0 w' (L++vN (withNames B (zf B.T.names D.p.names) es c) D R)->yv (withNames B (zf B.T.names D.p.names) es c)->q7s x (some (Addr.mk B.tb 0 none)) (some (Addr.mk B.pb 0 none)) w' K) :
  q8C (some (Addr.mk B.tb 0 none)) x (some (Addr.mk B.pb 0 none)) w K:=by
 rw[qpB]
 refine⟨some B.nb,?_,?_⟩
 ·rw[qc,qv (h.has B.pb _ (by simp[vN]):_=some (Cs (qM B.tb B.e D.ov B.ob B.nb D.p) B.t))]
  exact zR hD.own 2
 have hm:w.heap[B.nb]?=some (.map D.es2 D.c2):=h.has _ _ (by simp[vN])
 refine⟨w.heap.size,_,Jr q3R hm,?_⟩
 have hit:=h.le
 generalize hi:w.heap.size=it at hit
 have h1:Wh w0 (w.alloc (.mapIter (some B.nb) D.c2 #[] D.c2)) it B.nb D.c2 #[] L B D R:=by rw[<-hi];exact h.alloc _
 refine Jd (es:=D.es2) (fun vis seen w'=>∃ ms es c,Met ZT D.p.names vis ms/\Wh w0 w' it B.nb D.c2 seen L (withNames B (zf B.T.names ms) es c) D R/\MapIs ym es c (yp ZT (zf B.T.names ms)))
  ⟨[],B.es4,B.c4,Met.nil,h1,hB.m4⟩ ?_ ?_
 ·rintro vis seen w1 hv ⟨ms,es,c,hmet,hw,hmi⟩ Y
  show q80 ..
  rw[q5f]
  have hp:=hmet.over qyY hD.m2 hv B.T.names
  refine .inl ⟨w1,Qd (hw.get (k:=0) rfl) (hw.get (Yp (k:=2) rfl)) hD.m2.st hv.over,hK w1 es c ?_ (hB.withNames (hmi.of_perm (hp.map _)))⟩
  exact hw.tail hit
 ·rintro vis rem seen w1 hr hv ⟨ms,es,c,hmet,hw,hmi⟩ Y hY
  show q80 ..
  rw[q5f]
  obtain⟨e,w2,he,hn,hw2,hk2,hrun⟩:=jZ (P:=P) (hw.get (k:=0) rfl) (hw.get (Yp (k:=2) rfl)) hD.m2.st (hv.more hD.m2.st hr)
  obtain⟨q,hq,hk,hvq⟩:=Met.entry hD.m2 he
  refine .inr ⟨_,_,_,hrun,qAK (B:=withNames B (zf B.T.names ms) es c) (seen:=seen.push e.born) hit ((hw.same hw2 hk2).put (k:=0) rfl _) (hB.withNames hmi) hD he (by simp) hk hvq x fun w' es' c' h' hm'=>hY e w' he hn ?_⟩
  have e1:put (zf B.T.names ms) q.1 q.2=zf B.T.names (ms++[q]):=by rw[JD];rfl
  refine⟨ms++[q],es',c',hmet.snoc hq hk hvq,?_,?_⟩
  ·rw[<-e1];exact h'
  ·rw[<-e1];exact hm'
end Tryz
end Go.Fx
namespace Go.Fx.Tryz
open Go Go.Fx Go.Fx.Mo
open Go.Proofs
variable {w0 w:World} {K:KT} {B:PB} {R:qP} {p:Pl}
set_option maxRecDepth 20000
def setT(B:PB)(T:Th):PB:={ B with T:=T }
theorem yv.setT(hB:yv B){T:Th}(hT:vr T)(h1:T.objs=B.T.objs)(h2:T.names=B.T.names):yv (setT B T):=
 ⟨hT,by show MapIs ym B.es3 B.c3 (yp Zj T.objs);rw[h1];exact hB.m3,by show MapIs ym B.es4 B.c4 (yp ZT T.names);rw[h2];exact hB.m4,hB.lt⟩
theorem PS.thSt1(h:PS w0 w B R p)(hB:yv B){i:Nat}{v:Value}{T':Th}{K:World->Prop}(hi:i<90)(hv:v.oneCell'=true)(hT:(qU B.T B.tob B.tnb++B.rest).set i v=qU T' B.tob B.tnb++B.rest)
  (hK:∀ w',PS w0 w' (setT B T') R p->K w'):zG (Addr.mk B.tb i none) v w K:=by
 obtain⟨D,L,rfl,hs,h1,h2,h3⟩:=h
 refine hs.st1 (k:=L.length+3) (vI L _ 3) (by rw[List.length_append,yu hB.th];omega) hv fun w' h'=>hK w' ⟨D,L,rfl,?_,h1,h2,h3⟩
 rw[jy,hT]at h'
 exact h'
theorem PS.ownCs(h:PS w0 w B R p){K:Array Value->Prop}(hK:K (p.own.map qj).toArray):qf 8 (Addr.mk B.pb 8 none) w K:=by
 have ho:=h.own
 obtain⟨ov,ob,nb,hp⟩:=h.pl
 refine jU hp (by rw[yf ho];omega) ?_
 have:((qM B.tb B.e ov ob nb p).drop 8).take 8=p.own.map qj:=by
  obtain⟨a,b,c,d,f,g,h,j,hl⟩:=own8 ho
  simp only[qM,qE,hl]
  rfl
 rw[this]
 exact hK
theorem PS.rest7(h:PS w0 w B R p)(i:Nat):∃ ob nb,w.cell? (Addr.mk B.pb (16+i) none)=[qj p.tk,.map (some ob),.map (some nb),qj p.fork,qj p.ends,.bool p.rel,.bool p.bad][i]?:=by
 obtain⟨ov,ob,nb,hp⟩:=h.pl
 exact⟨ob,nb,by rw[qv hp];exact zR h.own i⟩
def Va(T:Th)(e:Ev)(p:Pl):Th:=if p.rel then { T with rels:=T.rels.set e.th.toNat (yk (zo T.rels e.th+1)) }else T
def JP(T:Th)(p:Pl):Th:=if p.ends>=0 then { T with ended:=T.ended.set p.ends.toNat true }else T
def q2i(T:Th)(p:Pl):Th:=if p.fork>=0 then { T with begun:=T.begun.set p.fork.toNat true,clocks:=T.clocks.set p.fork.toNat (zk (getC T.clocks p.fork) p.own) }else T
theorem qet(T:Th)(e:Ev)(p:Pl):qG T e p=Va (JP (q2i { T with clocks:=T.clocks.set e.th.toNat p.own,objs:=zf T.objs p.objs,names:=zf T.names p.names } p) p) e p:=rfl
theorem qhR(h:PS w0 w B R p)(hB:yv B)(hK:∀ w',PS w0 w' (setT B (Va B.T B.e p)) R p->yv (setT B (Va B.T B.e p))->K (.tuple [].toArray) w'):q8Y B.e.th (some (Addr.mk B.tb 0 none)) (some (Addr.mk B.pb 0 none)) w K:=by
 rw[qlC]
 obtain⟨i,hi,hi8⟩:∃ i:Nat,B.e.th=i/\i<8:=⟨B.e.th.toNat,by have:=hB.lt;omega,by have:=hB.lt;omega⟩
 obtain⟨_,_,hr⟩:=h.rest7 5
 refine⟨p.rel,by rw[qc];exact hr,?_⟩
 rw[qg]
 constructor
 ·intro hrel
  have hd:=h.drew
  simp only[qi,qc,Nat.mul_one,Nat.zero_add]
  rw[hi]
  simp only[Int.toNat_natCast]
  refine⟨by omega,by omega,B.T.rels.getD i 0,by rw[qv hd.th];exact q6T hB.th hi8,by omega,by omega,?_⟩
  have e7:Va B.T B.e p={ B.T with rels:=B.T.rels.set i (yk (B.T.rels.getD i 0+1)) }:=by simp[Va,hrel,hi,zo]
  rw[e7]at hK
  exact hd.thSt1 hB om rfl (q86 hB.th hi8 _) fun w' h'=>hK w' h' (hB.setT ⟨hB.th.clocks,hB.th.each,hB.th.begun,hB.th.ended,by simp[hB.th.rels],hB.th.objs⟩ rfl rfl)
 ·intro hrel
  have e7:Va B.T B.e p=B.T:=by simp[Va,hrel]
  rw[e7]at hK
  exact hK w h hB
theorem qkR(h:PS w0 w B R p)(hB:yv B)(he:p.ends<8)(hK:∀ w',PS w0 w' (setT B (Va (JP B.T p) B.e p)) R p->yv (setT B (Va (JP B.T p) B.e p))->K (.tuple [].toArray) w'):q99 B.e.th (some (Addr.mk B.tb 0 none)) (some (Addr.mk B.pb 0 none)) w K:=by
 rw[qpR]
 obtain⟨_,_,hr⟩:=h.rest7 4
 refine⟨p.ends,by rw[qc];exact hr,?_⟩
 rw[qg]
 constructor
 ·intro hge
  have hge:p.ends>=0:=by simpa using hge
  obtain⟨i,hi,hi8⟩:∃ i:Nat,p.ends=i/\i<8:=⟨p.ends.toNat,by omega,by omega⟩
  have hd:=h.drew
  obtain⟨_,_,hr⟩:=hd.rest7 4
  simp only[qi,qc,Nat.mul_one,Nat.zero_add]
  refine⟨p.ends,hr,by omega,by omega,?_⟩
  rw[hi]
  simp only[Int.toNat_natCast]
  have e6:JP B.T p={ B.T with ended:=B.T.ended.set i true }:=by simp[JP,hi]
  rw[e6]at hK
  have hB':yv (setT B { B.T with ended:=B.T.ended.set i true }):=hB.setT ⟨hB.th.clocks,hB.th.each,hB.th.begun,by simp[hB.th.ended],hB.th.rels,hB.th.objs⟩ rfl rfl
  exact hd.thSt1 hB om rfl (q5M hB.th hi8 _) fun w' h'=>qhR (B:=setT B { B.T with ended:=B.T.ended.set i true }) h' hB' hK
 ·intro hge
  have hge:¬ p.ends>=0:=by simpa using hge
  have e6:JP B.T p=B.T:=by simp[JP,hge]
  rw[e6]at hK
  exact qhR h hB hK
theorem qAV(h:PS w0 w B R p)(hB:yv B)(hf:p.fork<8)(he:p.ends<8)(hK:∀ w',PS w0 w' (setT B (Va (JP (q2i B.T p) p) B.e p)) R p->yv (setT B (Va (JP (q2i B.T p) p) B.e p))->K (.tuple [].toArray) w') :
  q7s B.e.th (some (Addr.mk B.tb 0 none)) (some (Addr.mk B.pb 0 none)) w K:=by
 rw[qpI]
 obtain⟨_,_,hr⟩:=h.rest7 3
 refine⟨p.fork,by rw[qc];exact hr,?_⟩
 rw[qg]
 constructor
 ·intro hge
  have hge:p.fork>=0:=by simpa using hge
  obtain⟨i,hi,hi8⟩:∃ i:Nat,p.fork=i/\i<8:=⟨p.fork.toNat,by omega,by omega⟩
  have hd:=h.drew
  obtain⟨_,_,hr⟩:=hd.rest7 3
  simp only[qi,qc,Nat.mul_one,Nat.zero_add]
  refine⟨p.fork,hr,by omega,by omega,?_⟩
  rw[hi]
  simp only[Int.toNat_natCast]
  have hT1:vr { B.T with begun:=B.T.begun.set i true }:=⟨hB.th.clocks,hB.th.each,by simp[hB.th.begun],hB.th.ended,hB.th.rels,hB.th.objs⟩
  have hB':yv (setT B { B.T with begun:=B.T.begun.set i true }):=hB.setT hT1 rfl rfl
  refine hd.thSt1 hB om rfl (q5H hB.th hi8 _) fun w1 h1=>?_
  rw[qol]
  have hd1:=h1.drew
  obtain⟨_,_,hr⟩:=hd1.rest7 3
  simp only[qi,qc,Nat.mul_one,Nat.zero_add]
  refine⟨p.fork,hr,by omega,by omega,hd1.ownCs ?_⟩
  rw[hi]
  simp only[Int.toNat_natCast]
  have ho:=hd1.own
  have hcl:(B.T.clocks.getD i qW).length=8:=q9m hB.th i
  obtain⟨D,L,rfl,hs,k1,k2,k3⟩:=hd1
  have e4:q2i B.T D.p={ B.T with begun:=B.T.begun.set i true,clocks:=B.T.clocks.set i (zk (B.T.clocks.getD i qW) D.p.own) }:=by simp[q2i,hi,getC]
  rw[e4]at hK
  refine q3k hs (k:=L.length+3) (cs:=qU { B.T with begun:=B.T.begun.set i true } B.tob B.tnb++B.rest) (c:=B.T.clocks.getD i qW) (vI L _ 3) hcl ho (by rw[List.length_append,yu hT1];omega) (q0r hT1 hi8) fun w2 h2=>⟨rfl,?_⟩
  rw[jy,JL hT1 hi8 (yo hcl ho)]at h2
  have hT2:=hT1.setclock i (yo hcl ho)
  exact qkR (B:=setT B { B.T with begun:=B.T.begun.set i true,clocks:=B.T.clocks.set i (zk (B.T.clocks.getD i qW) D.p.own) }) ⟨D,L,rfl,h2,k1,k2,k3⟩ (hB.setT hT2 rfl rfl) he hK
 ·intro hge
  have hge:¬ p.fork>=0:=by simpa using hge
  have e4:q2i B.T p=B.T:=by simp[q2i,hge]
  rw[e4]at hK
  exact qkR h hB he hK
def qum(B:PB)(T:Th)(es3:Array MapEntry)(c3:Nat)(es4:Array MapEntry)(c4:Nat):PB:={ B with T:=T,es3,c3,es4,c4 }
theorem q5m(h:PS w0 w B R p)(hB:yv B)(hf:p.fork<8)(he:p.ends<8)
  (hK:∀ w' es3 c3 es4 c4,PS w0 w' (qum B (qG B.T B.e p) es3 c3 es4 c4) R p->yv (qum B (qG B.T B.e p) es3 c3 es4 c4)->K (.tuple [].toArray) w') :
  qa P 40 [.pointer (some (Addr.mk B.tb 0 none)),.pointer (some (Addr.mk B.pb 0 none))] w K:=by
 refine qHN _ _ _ _ ?_
 rw[qJE]
 obtain⟨i,hi,hi8⟩:∃ i:Nat,B.e.th=i/\i<8:=⟨B.e.th.toNat,by have:=hB.lt;omega,by have:=hB.lt;omega⟩
 have ho:=h.own
 simp only[qi,qc,Nat.zero_add]
 refine⟨B.e.th,by rw[h.ev 1 om];rfl,h.drew.ownCs ⟨hB.lt.1,by have:=hB.lt.2;simpa using this,?_⟩⟩
 obtain⟨D,L,rfl,hs,k1,k2,k3⟩:=h.drew
 rw[hi]
 simp only[Int.toNat_natCast]
 have hT1:=hB.th.setclock i ho
 refine hs.stA (k:=L.length+3) (cs:=qU B.T B.tob B.tnb++B.rest) (vI L _ 3) (by simp[ho]) (by rw[List.length_append,yu hB.th];omega) (by simp[Value.oneCell']) fun w1 h1=>?_
 rw[jy,JL hB.th hi8 ho]at h1
 have hB1:yv (setT B { B.T with clocks:=B.T.clocks.set i D.p.own }):=hB.setT hT1 rfl rfl
 rw[<-hi]
 refine qDA (B:=setT B { B.T with clocks:=B.T.clocks.set i D.p.own }) h1 hB1 k1 _ fun w2 es3 c3 h2 hB2=>?_
 refine qD9 (B:=withObjs (setT B { B.T with clocks:=B.T.clocks.set i D.p.own }) (zf B.T.objs D.p.objs) es3 c3) h2 hB2 k1 _ fun w3 es4 c4 h3 hB3=>?_
 refine qAV (B:=withNames (withObjs (setT B { B.T with clocks:=B.T.clocks.set i D.p.own }) (zf B.T.objs D.p.objs) es3 c3) (zf B.T.names D.p.names) es4 c4) ⟨D,L,rfl,h3,k1,k2,k3⟩ hB3 hf he fun w4 h4 hB4=>?_
 have e:qG B.T B.e D.p=Va (JP (q2i { B.T with clocks:=B.T.clocks.set i D.p.own,objs:=zf B.T.objs D.p.objs,names:=zf B.T.names D.p.names } D.p) D.p) B.e D.p:=by
  rw[qet,hi];rfl
 have hK:=hK w4 es3 c3 es4 c4
 rw[e]at hK
 exact hK h4 hB4
end Go.Fx.Tryz
namespace Go.Fx.Tryz
set_option maxRecDepth 100000
open Go Go.Fx Go.Proofs
def c7:=qx Tryz.f7
def rs7:=Tryz.f7.results.toList
abbrev Qv K:=qH P rs7 K
def f7 a b w K:=CS P c7 none [4,5] [4,5] (Qv K) (zh 201 [(VP a),(Value.agg b)]) w
abbrev qKh K:=kq c7 3 [4,5] [4,5] (Qv K)
def qls a b c d f w K:=SG c7 13 [4,5,2,3] [4,5] (qKh K) 201 [(31,VB a),(4,VQ b),(5,VQ c),(2,VQ d),(3,VQ f)] w
def qE6 a b c d w K:=SG c7 7 [4,5] [4,5] (Qv K) 201 [(4,VQ a),(5,VQ b),(2,VQ c),(3,VQ d)] w
def qDW a b c d w K:=SG c7 15 [4,5] [4,5] (Qv K) 201 [(4,VQ a),(5,VQ b),(2,VQ c),(3,VQ d)] w
def qaM a b c d f g w K:=SG c7 31 [4,5] [4,5] (Qv K) 201 [(4,VQ a),(5,VQ b),(2,VQ c),(6,VQ d),(3,VQ f),(7,VB g)] w
def qqR a b c d f w K:=SG c7 63 [4,5] [4,5] (Qv K) 201 [(5,VQ a),(4,VQ b),(2,VQ c),(6,VQ d),(3,VQ f)] w
def qEa a b c d f g h w K:=SG c7 255 [4,5] [4,5] (Qv K) 201 [(5,VQ a),(4,VQ b),(2,VQ c),(11,VQ d),(6,VQ f),(3,VQ g),(10,VB h)] w
def qcW a b c d f g h w K:=SG c7 1023 [4,5] [4,5] (Qv K) 201 [(5,VQ a),(4,VQ b),(2,VQ c),(11,VQ d),(6,VQ f),(3,VQ g),(12,VI h)] w
abbrev qHn K:=kq c7 4095 [4,5] [4,5] (Qv K)
abbrev qhn K:=qq 0 (qHn K)
def qvX(a b c e f g h i:Addr)(j:Int)(l:Nat)(R:LoopState->Option Code->Loop)(post:Option Code->World->Prop)(args:List Value)(W:World):Prop:=args.length=1/\CS P (cA c7 65524) (some l) [5,4,14,2,13,11,15,6] [] (VT P (cA c7 65525) l R post) { zT (ql.mk 201 [(5,(VP (some a))),(4,(VP (some b))),(14,(VP (some c))),(2,(VP (some e))),(13,(VP (some f))),(11,(VP (some g))),(6,(VP (some h))),(3,(VP (some i))),(12,(VI j))] []) [71] args with d:=[] } W
abbrev qIn(l:Nat)(R:LoopState->Option Code->Loop)(post:Option Code->World->Prop):Exit->YT:=VT P (cA c7 65525) l R post
def qe6(a b c d e f g h:Addr)(i j:Int)(w:World)(l:Nat)(R:LoopState->Option Code->Loop)(post:Option Code->World->Prop):Prop:=CS P (cA c7 65524) (some l) [5,4,14,2,13,11,15,6] [] (qIn l R post) (ql.mk 201 [(71,(Value.int .u32 j)),(5,(VP (some a))),(4,(VP (some b))),(14,(VP (some c))),(2,(VP (some d))),(13,(VP (some e))),(11,(VP (some f))),(6,(VP (some g))),(3,(VP (some h))),(12,(VI i))] []) w
def qDI a b c d f g h i w l R post:=SG0 P (cA c7 65525) (some l) [] [] (q7W l R post) (ql.mk 201 [(5,(VP (some a))),(4,(VP (some b))),(14,(VP (some c))),(2,(VP (some d))),(13,(VP (some f))),(11,(VP (some g))),(15,(Value.int .u32 h)),(6,(VP (some i)))] []) w
abbrev q7j l R post:=qq 1 (q7W l R post)
abbrev qF2 l R post:=qox P (cA c7 524202) (cA c7 524203) (some l) [] [] (q7j l R post)
def qEl w l R post:=SG0 P (cA c7 8387243) (some l) [13,11,15,6,16,2] [] (qF2 l R post) (ql.mk 201 [] []) w
theorem qxB:qEl w l R post=(w.heap[l]?=some (.loop (R .busy none))/\post none (w.putObj l (.loop (R .ready none)))):=kr
def qs1 a b c d f g w l R post:=SG0 P (cA c7 524203) (some l) [] [] (q7j l R post) (ql.mk 201 [(13,(VP (some a))),(11,(VP (some b))),(15,(Value.int .u32 c)),(6,(VP (some d))),(16,(VP f)),(2,(VP (some g)))] []) w
def qvR a b c d f w l R post:=SG0 P (cA c7 1048407) (some l) [] [] (q7j l R post) (ql.mk 201 [(13,(VP (some a))),(11,(VP (some b))),(15,(Value.int .u32 c)),(6,(VP (some d))),(16,(VP f))] []) w
def q3X a b c d f w l R post:=SG0 P (cA c7 2096815) (some l) [] [] (q7j l R post) (ql.mk 201 [(13,(VP (some a))),(11,(VP (some b))),(17,(VP (some c))),(15,(Value.int .u32 d)),(18,(VB f))] []) w
theorem qpF:q3X a c d e f w l R post=(qC f (∃ (g:OA) (h i:Nat),w.cell? a=some (.slice g h i)/\qf 5 d w (fun p=>qf 5 c w (fun q=>∃ b:Array Value,(∀ wq,(Instr.build 108 #[(0,(Value.int .u32 e)),(1,(Value.agg p)),(2,(Value.agg q))]).run P wq=.ok (.agg b) wq)/\qJ 11 [(Value.agg b)]/\qt (([(Value.agg b)].map fun(v:Value)=>v.cells.toList).flatten.toArray) 108 w (fun r s=>∃ (j:OA) (k m:Nat),∃ n:World,(Builtin.append_ #[39,39] 39 #[(Value.slice g h i),(Value.slice (some (Addr.mk r 0 none)) 1 1)]).run P s=.ok (.slice j k m) n/\zG a (Value.slice j k m) n (fun o=>o.heap[l]?=some (.loop (R .busy none))/\post none (o.putObj l (.loop (R .ready none)))))))) (w.heap[l]?=some (.loop (R .busy none))/\post none (w.putObj l (.loop (R .ready none))))):=kr
theorem qmi:qvR b a c e d w l R post=(qf 5 a w.drew (fun f=>∃ g:Option Addr,w.drew.cell? e=some (.pointer g)/\qi g (fun p=>qf 8 (p.add 8) w.drew (fun h=>(qa P 38 [(Value.pointer d),(Value.agg f),(Value.agg h)] w.drew (fun q r=>∃ i:Array Value,∃ j:Bool,q=(.tuple #[(Value.agg i),(Value.bool j)])/\qt (qn P 97) 97 r (fun k s=>qN 5 (Addr.mk k 0 none) i s (fun t=>q3X b a (Addr.mk k 0 none) c j t l R post))))/\(qt (qn P 97) 97 w.drew (fun m u=>qa P 38 [(Value.pointer d),(Value.agg f),(Value.agg h)] u (fun v x=>∃ n:Array Value,∃ o:Bool,v=(.tuple #[(Value.agg n),(Value.bool o)])/\qN 5 (Addr.mk m 0 none) n x (fun y=>q3X b a (Addr.mk m 0 none) c o y l R post)))))))):=kr
theorem qqz:qs1 b c a d e f w l R post=(∃ g:Option Addr,w.cell? f=some (.pointer g)/\qi g (fun j=>∃ h:Option Nat,w.cell? (j.add 93)=some (.map h)/\∃ i:Bool,(∀ wq,zZ w wq->(Instr.lookup 35 (Value.map h) (Value.int .u32 a) false).run P wq=.ok (.bool i) wq)/\qC i (w.heap[l]?=some (.loop (R .busy none))/\post none (w.putObj l (.loop (R .ready none)))) (qvR b c a d e w l R post))):=kr
theorem qwJ:qDI f g b c h i d j w l R post=(∃ k:Option Addr,w.cell? c=some (.pointer k)/\qi k (fun t=>∃ m:Option Nat,w.cell? (t.add 92)=some (.map m)/\∃ e:Option Addr,(∀ wq,zZ w wq->(Instr.lookup 34 (Value.map m) (Value.int .u32 d) false).run P wq=.ok (.pointer e) wq)/\qC e.isNone (∃ n:Int,w.cell? b=some (.int .i64 n)/\zG b (Value.int .i64 (IntKind.wrap .i64 (n+1))) w (fun a=>∃ o:Option Addr,a.drew.cell? c=some (.pointer o)/\qi o (fun u=>∃ p:Option Nat,a.drew.cell? (u.add 92)=some (.map p)/\∃ q:Int,(∀ wq,zZ a.drew wq->(Builtin.len_ #[34] 3 #[(Value.map p)]).run P wq=.ok (.int .i64 q) wq)/\∃ r:Int,a.drew.cell? b=some (.int .i64 r)/\qC (decide ((IntKind.wrap .i64 (q+r)) > 20000)) (zG g (Value.slice none 0 0) a.drew (fun v=>zG f (Value.int .i64 2) v (fun s=>s.heap[l]?=some (.loop (R .busy none))/\post (some .ret) (s.putObj l (.loop (R .done (some .ret))))))) (qEl a.drew l R post)))) (qs1 h i d j e c w l R post))):=kr
theorem qpH:qe6 a b c d e f g i j h w l R post=(w.heap[l]?=some (.loop (R .ready none))/\qDI a b c d e f h g (w.putObj l (.loop (R .busy none))) l R post):=kr
theorem qmQ:qvX b c d e f g h i j l R post [(Value.int .u32 a)] w=([(Value.int .u32 a)].length=1/\qe6 b c d e f g h i j a w l R post):=kr
def qvF(a b c e f g h i:Addr)(j:Int)(d:List Deferred)(w:World)(K:KT):Prop:=(qhn K) .normal (ql.mk 201 [(5,(VP (some a))),(4,(VP (some b))),(14,(VP (some c))),(2,(VP (some e))),(13,(VP (some f))),(11,(VP (some g))),(6,(VP (some h))),(3,(VP (some i))),(12,(VI j))] d) w
def qfT a b c f g h i j d w K:=SG0 P (cA c7 8191) none [4,5] [4,5] (Qv K) (ql.mk 201 [(4,(VP (some a))),(5,(VP (some b))),(3,(VP (some c))),(2,(VP (some f))),(6,(VP (some g))),(11,(VP (some h))),(13,(VP (some i))),(12,(VI j))] d) w
def qe4 a b c f g h i j d w K:=SG0 P (cA c7 16383) none [4,5] [4,5] (Qv K) (ql.mk 201 [(3,(VP (some a))),(2,(VP (some b))),(6,(VP (some c))),(11,(VP (some f))),(4,(VP (some g))),(5,(VP (some h))),(13,(VP (some i))),(12,(VI j))] d) w
abbrev qEs K:=kq c7 16383 [4,5] [4,5] (Qv K)
abbrev qsl K:=qq 2 (qEs K)
def qlq(a b c e f g h:Addr)(d:List Deferred)(l:Nat)(R:LoopState->Option Code->Loop)(post:Option Code->World->Prop)(args:List Value)(W:World):Prop:=args.length=1/\CS P (cA c7 262132) (some l) [3,2,6,11,19] [] (VT P (cA c7 262133) l R post) { zT (ql.mk 201 [(3,(VP (some a))),(2,(VP (some b))),(6,(VP (some c))),(11,(VP (some e))),(4,(VP (some f))),(5,(VP (some g))),(13,(VP (some h)))] d) [127] args with d:=[] } W
abbrev qD6(l:Nat)(R:LoopState->Option Code->Loop)(post:Option Code->World->Prop):Exit->YT:=VT P (cA c7 262133) l R post
def q7b(a b c d e f g:Addr)(h:Int)(w:World)(l:Nat)(R:LoopState->Option Code->Loop)(post:Option Code->World->Prop):Prop:=CS P (cA c7 262132) (some l) [3,2,6,11,19] [] (qD6 l R post) (ql.mk 201 [(127,(Value.int .u32 h)),(3,(VP (some a))),(2,(VP (some b))),(6,(VP (some c))),(11,(VP (some d))),(4,(VP (some e))),(5,(VP (some f))),(13,(VP (some g)))] []) w
def qtS a b c d f w l R post:=SG0 P (cA c7 262133) (some l) [] [] (q7W l R post) (ql.mk 201 [(3,(VP (some a))),(2,(VP (some b))),(6,(VP (some c))),(11,(VP (some d))),(19,(Value.int .u32 f))] []) w
abbrev qym l R post:=qq 3 (q7W l R post)
def qfV a b c d f g w l R post:=SG0 P (cA c7 2097067) (some l) [] [] (qym l R post) (ql.mk 201 [(3,(VP (some a))),(2,(VP (some b))),(6,(VP (some c))),(11,(VP (some d))),(20,(VP (some f))),(19,(Value.int .u32 g))] []) w
theorem qql:qfV c b d e f g w l R post=(∃ h:Option Addr,w.cell? b=some (.pointer h)/\qi h (fun q=>∃ i:Option Nat,w.cell? (q.add 93)=some (.map i)/\∃ j:Bool,(∀ wq,zZ w wq->(Instr.lookup 35 (Value.map i) (Value.int .u32 g) false).run P wq=.ok (.bool j) wq)/\qC (!j) (qf 5 e w.drew (fun r=>∃ k:Option Addr,w.drew.cell? d=some (.pointer k)/\qi k (fun s=>∃ m:Int,w.drew.cell? (s.add 16)=some (.int .i64 m)/\∃ n:Option Addr,w.drew.cell? b=some (.pointer n)/\qi n (fun t=>∃ a:Int,w.drew.cell? (c.add 1)=some (.int .i64 a)/\0<=a/\a<(8:Nat)/\∃ o:Int,w.drew.cell? ((t.add 80).add (Int.toNat a*1))=some (.int .i64 o)/\qa P 39 [(Value.pointer (some f)),(Value.agg r),(Value.int .i64 m),(Value.int .i64 o)] w.drew (fun u p=>u=(.tuple #[])/\p.heap[l]?=some (.loop (R .busy none))/\post none (p.putObj l (.loop (R .ready none)))))))) (w.heap[l]?=some (.loop (R .busy none))/\post none (w.putObj l (.loop (R .ready none)))))):=kr
def q7c a b c d f g w l R post:=SG0 P (cA c7 2097067) (some l) [] [] (qym l R post) (ql.mk 201 [(3,(VP (some a))),(2,(VP (some b))),(6,(VP (some c))),(11,(VP (some d))),(20,(VP f)),(19,(Value.int .u32 g))] []) w
theorem q6K:q7c c b d e f g w l R post=(∃ h:Option Addr,w.cell? b=some (.pointer h)/\qi h (fun q=>∃ i:Option Nat,w.cell? (q.add 93)=some (.map i)/\∃ j:Bool,(∀ wq,zZ w wq->(Instr.lookup 35 (Value.map i) (Value.int .u32 g) false).run P wq=.ok (.bool j) wq)/\qC (!j) (qf 5 e w.drew (fun r=>∃ k:Option Addr,w.drew.cell? d=some (.pointer k)/\qi k (fun s=>∃ m:Int,w.drew.cell? (s.add 16)=some (.int .i64 m)/\∃ n:Option Addr,w.drew.cell? b=some (.pointer n)/\qi n (fun t=>∃ a:Int,w.drew.cell? (c.add 1)=some (.int .i64 a)/\0<=a/\a<(8:Nat)/\∃ o:Int,w.drew.cell? ((t.add 80).add (Int.toNat a*1))=some (.int .i64 o)/\qa P 39 [(Value.pointer f),(Value.agg r),(Value.int .i64 m),(Value.int .i64 o)] w.drew (fun u p=>u=(.tuple #[])/\p.heap[l]?=some (.loop (R .busy none))/\post none (p.putObj l (.loop (R .ready none)))))))) (w.heap[l]?=some (.loop (R .busy none))/\post none (w.putObj l (.loop (R .ready none)))))):=kr
theorem qoY:qtS c a d e b w l R post=(∃ h:Option Addr,w.cell? a=some (.pointer h)/\qi h (fun p=>∃ i:Option Nat,w.cell? (p.add 92)=some (.map i)/\∃ f:Option Addr,(∀ wq,zZ w wq->(Instr.lookup 34 (Value.map i) (Value.int .u32 b) false).run P wq=.ok (.pointer f) wq)/\qC f.isNone (∃ j:Array Value,(∀ wq,(Instr.build 112 #[]).run P wq=.ok (.agg j) wq)/\qt j 112 w (fun k g=>∃ m:Option Addr,g.cell? a=some (.pointer m)/\qi m (fun q=>∃ n:Option Nat,g.cell? (q.add 92)=some (.map n)/\∃ o:World,(Instr.mapUpdate 34 (Value.map n) (Value.int .u32 b) (Value.pointer (some (Addr.mk k 0 none)))).run P g=.ok () o/\qfV c a d e (Addr.mk k 0 none) b o l R post))) (q7c c a d e f b w l R post))):=kr
theorem qfl:q7b a b c d f g h e w l R post=(w.heap[l]?=some (.loop (R .ready none))/\qtS a b c d e (w.putObj l (.loop (R .busy none))) l R post):=kr
theorem qhz:qlq b c e f g h i d l R post [(Value.int .u32 a)] w=([(Value.int .u32 a)].length=1/\q7b b c e f g h i a w l R post):=kr
def qkz(a b c e f g h:Addr)(d:List Deferred)(w:World)(K:KT):Prop:=(qsl K) .normal (ql.mk 201 [(3,(VP (some a))),(2,(VP (some b))),(6,(VP (some c))),(11,(VP (some e))),(4,(VP (some f))),(5,(VP (some g))),(13,(VP (some h)))] d) w
def qfd a b c f g d w K:=SG0 P (cA c7 32767) none [4,5] [4,5] (Qv K) (ql.mk 201 [(2,(VP (some a))),(4,(VP (some b))),(5,(VP (some c))),(13,(VP (some f))),(6,(VP (some g)))] d) w
abbrev qHE K:=kq c7 32767 [4,5] [4,5] (Qv K)
abbrev qrS K:=qq 4 (qHE K)
def qlp K Y20 e w:=zJ (fun e w=>CS P (cA c7 524276) none [168,2,166,4,5,13,6,167] [4,5,13,2,6] (qw [168,2,166,4,5,13,6,167] Y20 (qrS K)) e w) e w
abbrev q31 K Y20:=qw [168,2,166,4,5,13,6,167] Y20 (qrS K)
def qjh a b c f g h i j k l d w K Y20:=SG0 P (cA c7 524276) none [168,2,166,4,5,13,6,167] [4,5,13,2,6] (q31 K Y20) (ql.mk 201 [(168,(VI a)),(2,(VP (some b))),(166,(VS c f g)),(4,(VP (some h))),(5,(VP (some i))),(13,(VP (some j))),(6,(VP (some k))),(167,(VI l))] d) w
def qgi a b c f g h i j k l d w K Y20:=SG0 P (cA c7 2097107) none [168,2,166,4,5,13,6,167] [4,5,13,2,6] (q31 K Y20) (ql.mk 201 [(2,(VP (some a))),(166,(VS b c f)),(4,(VP (some g))),(5,(VP (some h))),(13,(VP (some i))),(6,(VP (some j))),(167,(VI k)),(168,(VI l))] d) w
abbrev qGu K Y20:=kq c7 2097107 [168,2,166,4,5,13,6,167] [4,5,13,2,6] (q31 K Y20)
abbrev qEW K Y20:=qq 5 (qGu K Y20)
def qwB a b c f g h i j k l m d w K Y20:=SG0 P (cA c7 33553715) none [2,166,4,5,13,6,167,168] [4,5,13,2,6,166,167,168] (qEW K Y20) (ql.mk 201 [(2,(VP (some a))),(166,(VS b c f)),(4,(VP (some g))),(5,(VP (some h))),(13,(VP (some i))),(6,(VP (some j))),(167,(VI k)),(168,(VI l)),(22,(VP (some m)))] d) w
def qsS a b c f g h i j k l d w K Y20:=SG0 P (cA c7 4194215) none [168,2,166,4,5,13,6,167] [4,5,13,2,6] (q31 K Y20) (ql.mk 201 [(2,(VP (some a))),(166,(VS b c f)),(4,(VP (some g))),(5,(VP (some h))),(13,(VP (some i))),(6,(VP (some j))),(167,(VI k)),(168,(VI l))] d) w
theorem qoW:qsS a b c e f g h i j k d w K Y20=(Y20 (ql.mk 201 [(168,(Value.int .i64 (IntKind.wrap .i64 (k+1)))),(2,(Value.pointer (some a))),(166,(Value.slice b c e)),(4,(Value.pointer (some f))),(5,(Value.pointer (some g))),(13,(Value.pointer (some h))),(6,(Value.pointer (some i))),(167,(Value.int .i64 j))] d) w):=kr
theorem qq2:qwB a b c e f g h i j k l d w K Y20=(∃ m:Option Addr,w.drew.cell? a=some (.pointer m)/\qi m (fun q=>∃ n:Option Nat,w.drew.cell? (q.add 92)=some (.map n)/\∃ o:Int,w.drew.cell? l=some (.int .u32 o)/\∃ p:Option Addr,(∀ wq,zZ w.drew wq->(Instr.lookup 34 (Value.map n) (Value.int .u32 o) false).run P wq=.ok (.pointer p) wq)/\qi p (fun r=>zG r (Value.slice none 0 0) w.drew (fun s=>qsS a b c e f g h i j k d s K Y20)))):=kr
theorem qm7:qgi c e f h i j k l m a d w K Y20=(qi e (fun r=>0<=a/\a<(f:Nat)/\qf 11 (r.add (Int.toNat a*11)) w (fun s=>qt (qn P 108) 108 w (fun g t=>qN 11 (Addr.mk g 0 none) s t (fun b=>∃ n:Option Addr,b.drew.cell? c=some (.pointer n)/\qi n (fun u=>∃ o:Option Nat,b.drew.cell? (u.add 93)=some (.map o)/\∃ p:Int,b.drew.cell? (Addr.mk g 0 none)=some (.int .u32 p)/\∃ q:World,(Instr.mapUpdate 35 (Value.map o) (Value.int .u32 p) (Value.bool true)).run P b.drew=.ok () q/\qwB c e f h i j k l m a (Addr.mk g 0 none) d q K Y20)))))):=kr
def q8D a b c f g d w K:=SG0 P (cA c7 65535) none [4,5] [4,5] (Qv K) (ql.mk 201 [(4,(VP (some a))),(5,(VP (some b))),(13,(VP (some c))),(2,(VP (some f))),(6,(VP (some g)))] d) w
def qs9 a b c f d w K:=SG0 P (cA c7 131071) none [4,5] [4,5] (Qv K) (ql.mk 201 [(4,(VP (some a))),(5,(VP (some b))),(13,(VP (some c))),(2,(VP (some f)))] d) w
theorem qoe:qs9 c e f g d w K=(∃ a:Option Addr,w.cell? g=some (.pointer a)/\qi a (fun h=>∃ b:Int,w.cell? (h.add 91)=some (.int .i64 b)/\qi a (fun i=>zG (i.add 91) (Value.int .i64 (IntKind.wrap .i64 (b+1))) w (fun m=>∃ (j:OA) (k l:Nat),m.cell? f=some (.slice j k l)/\zG c (Value.slice j k l) m (fun n=>zG e (Value.int .i64 0) n (fun o=>jo P rs7 (ql.mk 201 [(200,(Value.slice j k l)),(199,(Value.pointer (some (i.add 91)))),(198,(Value.pointer (some i))),(197,(Value.int .i64 (IntKind.wrap .i64 (b+1)))),(196,(Value.int .i64 b)),(195,(Value.pointer (some (h.add 91)))),(194,(Value.pointer (some h))),(193,(Value.pointer a)),(4,(Value.pointer (some c))),(5,(Value.pointer (some e))),(13,(Value.pointer (some f))),(2,(Value.pointer (some g)))] d) K d o)))))):=kr
theorem qmk:q8D b c e a f d w K=(∃ g:Option Addr,w.drew.cell? a=some (.pointer g)/\qi g (fun i=>∃ h:Option Addr,w.drew.cell? f=some (.pointer h)/\qa P 40 [(Value.pointer (some i)),(Value.pointer h)] w.drew (fun j k=>j=(.tuple #[])/\qs9 b c e a d k K))):=kr
theorem qgC:qjh a b i j k c e f g h d w K Y20=(qC (decide (a<h)) (qgi b i j k c e f g h a d w K Y20) (q8D c e f b g d w K)):=kr
theorem qoU:qfd f g h a i d w K=(∃ (b:OA) (c e:Nat),w.cell? a=some (.slice b c e)/\∃ j:Int,(∀ wq,zZ w wq->(Builtin.len_ #[39] 3 #[(Value.slice b c e)]).run P wq=.ok (.int .i64 j) wq)/\za (qlp K) (ql.mk 201 [(168,(Value.int .i64 0)),(2,(Value.pointer (some f))),(166,(Value.slice b c e)),(4,(Value.pointer (some g))),(5,(Value.pointer (some h))),(13,(Value.pointer (some a))),(6,(Value.pointer (some i))),(167,(Value.int .i64 j))] d) w):=kr
theorem qeo:qkz g a b h c e f d w K=(qfd a c e f b d w K):=kr
theorem qmo:qe4 a b c e f g h i d w K=(∃ j:Int,w.cell? (a.add 3)=some (.int .u32 j)/\qa P 37 [(Value.int .u32 j),(Value.int .i64 i)] w (fun l m=>∃ k:Value,l=k/\Vw P (qsl K) (ql.mk 201 [(3,(Value.pointer (some a))),(2,(Value.pointer (some b))),(6,(Value.pointer (some c))),(11,(Value.pointer (some e))),(4,(Value.pointer (some f))),(5,(Value.pointer (some g))),(13,(Value.pointer (some h)))] d) m k (qlq a b c e f g h d))):=kr
theorem qn5:qfT c e h f i j g k d w K=(∃ l:Option Addr,w.drew.cell? f=some (.pointer l)/\qi l (fun m=>∃ n:Option Nat,w.drew.cell? (m.add 93)=some (.map n)/\∃ a:Int,(∀ wq,zZ w.drew wq->(Builtin.len_ #[35] 3 #[(Value.map n)]).run P wq=.ok (.int .i64 a) wq)/\∃ (o:OA) (p q:Nat),w.drew.cell? g=some (.slice o p q)/\∃ b:Int,(∀ wq,zZ w.drew wq->(Builtin.len_ #[39] 3 #[(Value.slice o p q)]).run P wq=.ok (.int .i64 b) wq)/\qC (decide ((IntKind.wrap .i64 (a+b)) > 1000)) (zG c (Value.slice none 0 0) w.drew (fun r=>zG e (Value.int .i64 2) r (fun s=>jo P rs7 (ql.mk 201 [(122,(Value.bool true)),(122,(Value.bool (decide ((IntKind.wrap .i64 (a+b)) > 1000)))),(121,(Value.int .i64 (IntKind.wrap .i64 (a+b)))),(120,(Value.int .i64 b)),(119,(Value.slice o p q)),(118,(Value.int .i64 a)),(117,(Value.map n)),(116,(Value.pointer (some (m.add 93)))),(115,(Value.pointer (some m))),(114,(Value.pointer l)),(4,(Value.pointer (some c))),(5,(Value.pointer (some e))),(3,(Value.pointer (some h))),(2,(Value.pointer (some f))),(6,(Value.pointer (some i))),(11,(Value.pointer (some j))),(13,(Value.pointer (some g))),(12,(Value.int .i64 k))] d) K d s))) (qe4 h f i j c e g k d w.drew K))):=kr
theorem qqC:qvF a b j c e f g h i d w K=(qfT b a h c g f e i d w K):=kr
def qy7(a b c e f g h i:Addr)(j:Int)(d:List Deferred)(w:World)(K:KT):Prop:=(qhn K) .ret (ql.mk 201 [(5,(VP (some a))),(4,(VP (some b))),(14,(VP (some c))),(2,(VP (some e))),(13,(VP (some f))),(11,(VP (some g))),(6,(VP (some h))),(3,(VP (some i))),(12,(VI j))] d) w
theorem qqo:qy7 a b c e f g h i j d w K=(jo P rs7 (ql.mk 201 [(5,(Value.pointer (some a))),(4,(Value.pointer (some b))),(14,(Value.pointer (some c))),(2,(Value.pointer (some e))),(13,(Value.pointer (some f))),(11,(Value.pointer (some g))),(6,(Value.pointer (some h))),(3,(Value.pointer (some i))),(12,(Value.int .i64 j))] d) K d w):=kr
theorem qza:qcW c d e f g a b w K=(qt (qn P 39) 39 w (fun i m=>qt (qn P 3) 3 m (fun h n=>zG (Addr.mk h 0 none) (Value.int .i64 0) n (fun j=>∃ k:Int,j.cell? (a.add 3)=some (.int .u32 k)/\qa P 37 [(Value.int .u32 k),(Value.int .i64 b)] j (fun o p=>∃ l:Value,o=l/\Vw P (qhn K) (ql.mk 201 [(5,(Value.pointer (some c))),(4,(Value.pointer (some d))),(14,(Value.pointer (some (Addr.mk h 0 none)))),(2,(Value.pointer (some e))),(13,(Value.pointer (some (Addr.mk i 0 none)))),(11,(Value.pointer (some f))),(6,(Value.pointer (some g))),(3,(Value.pointer (some a))),(12,(Value.int .i64 b))] []) p l (qvX c d (Addr.mk h 0 none) e (Addr.mk i 0 none) f g a b)))))):=kr
theorem qwO:qEa b c d e f a g w K=(qC g (∃ h:Int,w.cell? (a.add 5)=some (.int .i64 h)/\qcW b c d e f a h w K) (qcW b c d e f a 0 w K)):=kr
theorem qrZ:qqR d e c f a w K=(qf 6 a w (fun p=>qa P 36 [(Value.agg p)] w (fun q b=>∃ g:Bool,∃ h:Bool,∃ i:Bool,q=(.tuple #[(Value.bool g),(Value.bool h),(Value.bool i)])/\∃ j:Option Addr,b.drew.cell? c=some (.pointer j)/\qi j (fun r=>∃ k:Int,b.drew.cell? (r.add 91)=some (.int .i64 k)/\∃ l:Int,b.drew.cell? (a.add 1)=some (.int .i64 l)/\∃ m:Int,b.drew.cell? (a.add 2)=some (.int .u32 m)/\∃ n:Array Value,(∀ wq,(Instr.build 97 #[(0,(Value.int .i64 k)),(1,(Value.int .i64 l)),(2,(Value.int .u32 m)),(3,(Value.bool g)),(4,(Value.bool h))]).run P wq=.ok (.agg n) wq)/\qt (qn P 97) 97 b.drew (fun o s=>qN 5 (Addr.mk o 0 none) n s (fun t=>qEa d e c (Addr.mk o 0 none) f a i t K)))))):=kr
theorem qbm:qaM a b d e f g w K=(qC (!g) (zG a (Value.slice none 0 0) w (fun l=>zG b (Value.int .i64 300) l (fun c=>∃ (h:OA) (i j:Nat),c.cell? a=some (.slice h i j)/\∃ k:Int,c.cell? b=some (.int .i64 k)/\K (Value.tuple #[(Value.slice h i j),(Value.int .i64 k)]) c))) (qqR b a d e f w K)):=kr
theorem qvx:qDW c d a b w K=(∃ e:Option Addr,w.drew.cell? a=some (.pointer e)/\qi e (fun f=>qf 6 b w.drew (fun g=>(qa P 35 [(Value.pointer (some f)),(Value.agg g)] w.drew (fun n o=>∃ h:Option Addr,∃ i:Bool,n=(.tuple #[(Value.pointer h),(Value.bool i)])/\qt (qn P 91) 91 o (fun j p=>zG (Addr.mk j 0 none) (Value.pointer h) p (fun q=>qaM c d a (Addr.mk j 0 none) b i q K))))/\(qt (qn P 91) 91 w.drew (fun k r=>qa P 35 [(Value.pointer (some f)),(Value.agg g)] r (fun s t=>∃ l:Option Addr,∃ m:Bool,s=(.tuple #[(Value.pointer l),(Value.bool m)])/\zG (Addr.mk k 0 none) (Value.pointer l) t (fun u=>qaM c d a (Addr.mk k 0 none) b m u K))))))):=kr
theorem qsM:qE6 a b c e w K=(∃ f:Option Addr,w.cell? c=some (.pointer f)/\qi f (fun l=>∃ g:Int,w.cell? (l.add 91)=some (.int .i64 g)/\qC (decide (g>=20000)) (zG a (Value.slice none 0 0) w (fun m=>zG b (Value.int .i64 2) m (fun d=>∃ (h:OA) (i j:Nat),d.cell? a=some (.slice h i j)/\∃ k:Int,d.cell? b=some (.int .i64 k)/\K (Value.tuple #[(Value.slice h i j),(Value.int .i64 k)]) d))) (qDW a b c e w K))):=kr
theorem qco:qls d a b e f w K=(qC d (zG a (Value.slice none 0 0) w (fun k=>zG b (Value.int .i64 5) k (fun c=>∃ (g:OA) (h i:Nat),c.cell? a=some (.slice g h i)/\∃ j:Int,c.cell? b=some (.int .i64 j)/\K (Value.tuple #[(Value.slice g h i),(Value.int .i64 j)]) c))) (qE6 a b e f w K)):=kr
theorem qDF:f7 c d w K=(qt #[(Value.pointer c)] 25 w (fun b k=>qt d 45 k (fun e l=>qt (qn P 39) 39 l (fun f m=>qt (qn P 40) 40 m (fun g a=>∃ h:Option Addr,a.cell? (Addr.mk b 0 none)=some (.pointer h)/\qC h.isNone (qls true (Addr.mk f 0 none) (Addr.mk g 0 none) (Addr.mk b 0 none) (Addr.mk e 0 none) a K) (∃ i:Option Addr,a.cell? (Addr.mk b 0 none)=some (.pointer i)/\qi i (fun n=>∃ j:Bool,a.cell? (n.add 90)=some (.bool j)/\qls (!j) (Addr.mk f 0 none) (Addr.mk g 0 none) (Addr.mk b 0 none) (Addr.mk e 0 none) a K))))))):=kr
theorem qEf a b w K(h:f7 a b w K):qa P 7 [(Value.pointer a),(Value.agg b)] w K:=zj c7 Tryz.func7 h
end Go.Fx.Tryz
namespace Go.Fx.Tryz
open Go Go.Fx Go.Fx.Mo
open Go.Proofs
variable {w0 w:World} {H:qP} {K:KT}
set_option maxRecDepth 20000
def jx(p:q2D):List Value:=qO p.acc++[qj p.tick]
def YR(l:List q2D):List Value:=(l.map jx).flatten
theorem yD{α:Type}{l:List α}{f:α->List Value}{n:Nat}(h:∀ x∈l,(f x).length=n){i:Nat}(hi:i<l.length):(((l.map f).flatten).drop (i*n)).take n=f l[i]:=by
 induction l generalizing i with
 | nil=>simp at hi
 | cons x r ih=>
  have hx:=h x (.head _)
  cases i with
  | zero=>
   simp only[Nat.zero_mul,List.drop_zero,List.map_cons,List.flatten_cons,List.getElem_cons_zero]
   rw[<-hx,List.take_left]
  | succ i=>
   simp only[List.map_cons,List.flatten_cons,List.getElem_cons_succ]
   rw[show(i+1)*n=(f x).length+i*n by rw[hx,Nat.succ_mul];omega,List.drop_append,List.drop_eq_nil_of_le om]
   simp only[List.nil_append]
   rw[show(f x).length+i*n-(f x).length=i*n by omega]
   exact ih (fun y hy=>h y (.tail _ hy)) (by simpa using hi)
theorem QC{size:Nat}{e:TypeId}{ov:Value}{n:Nat}{xs:List Value}{L:qP}(h:zC size e ov n xs L)(hL:∀ x∈L,w.heap[x.1]?=some x.2){i:Nat}(hi:i<n) :
  ∃ g c,ov=.slice (some ⟨g,0,none⟩) n c/\∀ K:Array Value->Prop,K ((xs.drop (i*size)).take size).toArray->qf size ((Addr.mk g 0 none).add (i*size)) w K:=by
 rcases h.2 with⟨_,h0,_⟩ | ⟨g,cap,cur,h1,h2,h3,h4,h5,h6⟩
 ·omega
 ·refine⟨g,cap,h1,fun K hK=>?_⟩
  rw[qc]
  have hle:i*size+size<=n*size:=by rw[<-Nat.succ_mul];exact Nat.mul_le_mul_right _ hi
  have hle2:n*size<=cap*size:=Nat.mul_le_mul_right _ h3
  refine jU (cs:=cur) (t:=e) (hL (g,Cs cur e) (by simp[h2])) om ?_
  have e1:((cur.drop (0+i*size)).take size)=(xs.drop (i*size)).take size:=by
   rw[<-h6,List.drop_take,List.take_take,Nat.zero_add]
   congr 1
   omega
  rw[e1]
  exact hK
theorem z45:qn P 97=#[qj 0,qj 0,.int .u32 0,.bool false,.bool false]:=kr
theorem qL8:qn P 122=#[qj 0,qj 0,.int .u32 0,.bool false,.bool false,qj 0]:=kr
theorem qrI(wq:World):(Instr.build 97 [].toArray).run P wq=.ok (.agg #[qj 0,qj 0,.int .u32 0,.bool false,.bool false]) wq:=kr
theorem yz(a:Qk):(qO a).length=5:=rfl
theorem jN(a:Qk):∀ v∈(qO a).toArray.toList,v.oneCell'=true:=by simp[qO,Value.oneCell']
theorem q0h(p:q2D):(jx p).length=6:=rfl
theorem q52(p:q2D):∀ v∈(jx p).toArray.toList,v.oneCell'=true:=by simp[jx,qO,Value.oneCell']
def qDR(x:Option Qk):Value:=match x with
 | some a=>.tuple [.agg (qO a).toArray,.bool true].toArray
 | none=>.tuple [.agg #[qj 0,qj 0,.int .u32 0,.bool false,.bool false],.bool false].toArray
theorem qeZ{p:Option Addr}{l c:Nat}(wq:World):(Builtin.len_ #[109] 3 [Value.slice p l c].toArray).run P wq=.ok (.int .i64 l) wq:=qZ p l c Tryz.underlying109 3
theorem qBn(h:St w0 w H){addr:Nat}{t:TypeId}{c:vl}{ov:Value}{rest:List Value}{L:qP}(hc:(addr,Cs (ov::rest) t)∈H)(hs:zC 6 122 ov c.l.length (YR c.l) L)(hL:∀ x∈L,x∈H)
  (hth:∀ p∈c.l,0<=p.acc.th/\p.acc.th<8) {own:vj} (ho:own.length=8) (hn:c.l.length<2000000000) (a:Qk)
  (hK:∀ w',St w0 w' H->K (qDR (c.race a own)) w'):qa P 38 [.pointer (some (Addr.mk addr 0 none)),.agg (qO a).toArray,.agg (own.map qj).toArray] w K:=by
 refine qHB _ _ _ _ _ ?_
 rw[qJo]
 refine h.newC fun n3 w4 hn3 h4=>h4.newC fun n5 w6 hn5 h6=>h6.newC fun n7 w8 hn7 h8=>?_
 rw[z45]at h8
 obtain⟨sa,sc,hov⟩:=hs.form
 refine⟨sa,c.l.length,sc,?_,c.l.length,fun wq _=>qeZ wq,?_⟩
 ·rw[qv (h8.has addr _ (.tail _ (.tail _ (.tail _ hc)))),hov];rfl
 let f:q2D->Bool:=fun p=>zE p.acc a&&decide (zo own p.acc.th<p.tick)
 have hfix:∀ w',St w0 w' ((n7,Cs [qj 0,qj 0,.int .u32 0,.bool false,.bool false] 97)::(n5,Cs (own.map qj) 27)::(n3,Cs (qO a) 97)::H)->St w0 w' H:=fun w' h'=>((h'.tail hn7).tail hn5).tail hn3
 refine⟨fun m e w=>∃ i:Nat,i<=c.l.length/\m=c.l.length-i/\
  e=ql.mk 37 [(6,(Value.pointer (some (Addr.mk n7 0 none)))),(15,(Value.int .i64 i)),(5,(Value.pointer (some (Addr.mk n5 0 none)))),(4,(Value.pointer (some (Addr.mk n3 0 none)))),(13,(Value.slice sa c.l.length sc)),(7,(Value.bool false)),(14,(Value.int .i64 c.l.length))] []/\
  (c.l.take i).find? f=none/\St w0 w ((n7,Cs [qj 0,qj 0,.int .u32 0,.bool false,.bool false] 97)::(n5,Cs (own.map qj) 27)::(n3,Cs (qO a) 97)::H),⟨c.l.length,0,by omega,rfl,rfl,by simp,h8⟩,?_⟩
 rintro m e w ⟨i,hi,rfl,rfl,hnone,hw⟩
 show qje ..
 rw[qhf,qg]
 constructor
 ·intro hlt
  have hlt:i<c.l.length:=by simpa using hlt
  rw[qpS]
  have hsl:((YR c.l).drop (i*6)).take 6=jx c.l[i]:=yD (f:=jx) (fun x _=>q0h x) hlt
  have hLw:∀ {w':World} {X:qP},St w0 w' (X++H)->∀ x∈L,w'.heap[x.1]?=some x.2:=fun h' x hx=>h'.has x.1 x.2 (by simp[hL x hx])
  obtain⟨g,cc,hg,hld⟩:=QC hs (w:=w) (i:=i) (hLw (X:=[_,_,_]) hw) hlt
  rw[hov]at hg
  obtain⟨hsa,-⟩:sa=some ⟨g,0,none⟩/\sc=cc:=by simpa using hg
  subst hsa
  refine⟨by omega,by omega,hld _ ?_⟩
  rw[hsl]
  refine hw.newC fun n28 w29 hn28 h29=>?_
  rw[qL8]at h29
  refine h29.stA (k:=0) rfl rfl (by simp) (q52 _) fun w30 h30=>?_
  have h30:St w0 w30 ((n28,Cs (jx c.l[i]) 122)::(n7,Cs [qj 0,qj 0,.int .u32 0,.bool false,.bool false] 97)::(n5,Cs (own.map qj) 27)::(n3,Cs (qO a) 97)::H):=h30
  have hd:=h30.drew
  refine hd.ldA (k:=0) (i:=0) rfl (by simp[q0h]) (hd.ldA (k:=3) (i:=0) rfl (by simp[yz]) ?_)
  have s2:∀ b w34,St w0 w34 ((n28,Cs (jx c.l[i]) 122)::(n7,Cs [qj 0,qj 0,.int .u32 0,.bool false,.bool false] 97)::(n5,Cs (own.map qj) 27)::(n3,Cs (qO a) 97)::H)->f c.l[i]=b->
    q8Z b (Addr.mk n7 0 none) (Addr.mk n5 0 none) (Addr.mk n3 0 none) (some ⟨g,0,none⟩) c.l.length sc c.l.length i (Addr.mk n28 0 none) false w34 K
     (fun e' w'=>∃ m,m<c.l.length-i/\∃ i:Nat,i<=c.l.length/\m=c.l.length-i/\
      e'=ql.mk 37 [(6,(Value.pointer (some (Addr.mk n7 0 none)))),(15,(Value.int .i64 i)),(5,(Value.pointer (some (Addr.mk n5 0 none)))),(4,(Value.pointer (some (Addr.mk n3 0 none)))),(13,(Value.slice (some ⟨g,0,none⟩) c.l.length sc)),(7,(Value.bool false)),(14,(Value.int .i64 c.l.length))] []/\
      (c.l.take i).find? f=none/\St w0 w' ((n7,Cs [qj 0,qj 0,.int .u32 0,.bool false,.bool false] 97)::(n5,Cs (own.map qj) 27)::(n3,Cs (qO a) 97)::H)):=by
   intro b w34 h34 hb
   rw[qnx,qg]
   constructor
   ·rintro rfl
    have hfd:c.l.find? f=some c.l[i]:=by
     have e:=List.take_append_drop i c.l
     rw[List.drop_eq_getElem_cons hlt]at e
     have e2:c.l.find? f=(c.l.take i++c.l[i]::c.l.drop (i+1)).find? f:=by rw[e]
     rw[e2,List.find?_append,hnone,List.find?_cons,hb]
     simp
    refine h34.ldA (k:=0) (i:=0) rfl (by simp[q0h]) (h34.stA (k:=1) rfl rfl (by simp) (jN c.l[i].acc) fun w49 h49=>?_)
    refine h49.ldA (k:=1) (i:=0) rfl (by simp[yC]) ?_
    have hr:c.race a own=some c.l[i].acc:=by unfold vl.race;rw[show c.l.find? (fun p=>zE p.acc a&&decide (zo own p.acc.th<p.tick))=some c.l[i] from hfd];rfl
    have hk:=hK w49 ((((h49.tail hn28).tail hn7).tail hn5).tail hn3)
    rw[hr]at hk
    exact hk
   ·rintro rfl
    rw[qpy]
    refine⟨c.l.length-(i+1),by omega,i+1,by omega,rfl,?_,?_,h34.tail hn28⟩
    ·rw[qk om om];rfl
    ·rw[YI _ hlt,List.find?_append,hnone];simp[hb]
  refine qab hd c.l[i].acc a fun w34 h34=>⟨_,rfl,?_⟩
  rw[qg]
  have ht:=hth c.l[i] (List.getElem_mem hlt)
  constructor
  ·intro hcf
   refine⟨c.l[i].acc.th,by rw[qc,h34.cell (k:=0) rfl];rfl,ht.1,by have:=ht.2;simpa using this,zo own c.l[i].acc.th,?_,c.l[i].tick,by rw[qc,h34.cell (k:=0) rfl];rfl,?_⟩
   ·rw[qc,h34.cell (k:=2) rfl]
    have:(c.l[i].acc.th).toNat<own.length:=by omega
    simp[zo,this]
   ·exact s2 _ w34 h34 (by simp[f,hcf])
  ·intro hcf
   exact s2 _ w34 h34 (by simp[f,hcf])
 ·intro hge
  have:i=c.l.length:=by simp at hge;omega
  subst this
  rw[qlZ]
  refine⟨_,qrI,hw.stA (k:=0) rfl rfl (by simp) (by simp[Value.oneCell']) fun w60 h60=>?_⟩
  refine h60.ldA (k:=0) (i:=0) rfl (by simp[yC]) ?_
  have hr:c.race a own=none:=by
   unfold vl.race
   rw[List.take_length]at hnone
   rw[show c.l.find? (fun p=>zE p.acc a&&decide (zo own p.acc.th<p.tick))=none from hnone];rfl
  have hk:=hK w60 (hfix w60 h60)
  rw[hr]at hk
  exact hk
structure CB where
 byte:Int
 addr:Nat
 ov:Value
 c:vl
 L:List (Nat × Obj)
def yn(x:CB):List Value:=x.ov::x.c.last.map qj
def cbH(x:CB):List (Nat × Obj):=(x.addr,Cs (yn x) 112)::x.L
structure Ye (w0:World) (x:CB):Prop where
 sl:zC 6 122 x.ov x.c.l.length (YR x.c.l) x.L
 new:zr w0 x.L
 last:x.c.last.length=24
 na:w0.heap.size<=x.addr
 th:∀ p∈x.c.l,0<=p.acc.th/\p.acc.th<8
theorem q8x(a:Qk):0<=kind a/\kind a<3:=by unfold kind;split<;>(try split)<;>omega
theorem quc(a:Qk)(x:Int)(wq:World):(Instr.build 122 [(0,(Value.agg (qO a).toArray)),(1,(Value.int .i64 x))].toArray).run P wq=.ok (.agg (jx ⟨a,x⟩).toArray) wq:=by
 obtain⟨a,b,c,d,e⟩:=a
 kernel_rfl
theorem qlb:P.info? 122=some Tryz.t122:=kr
theorem qde(l:List q2D)(p:q2D):YR (l++[p])=YR l++jx p:=by simp[YR]
theorem q9U{x:CB}(h:St w0 w (cbH x++H))(hx:Ye w0 x){a:Qk}(ha:0<=a.th/\a.th<8)(hn:x.c.l.length<2000000000)(tick rel:Int)
  (hK:∀ w' x',x'.addr=x.addr->x'.byte=x.byte->x'.c=x.c.remember a tick rel->Ye w0 x'->St w0 w' (cbH x'++H)->K (.tuple [].toArray) w') :
  qa P 39 [.pointer (some (Addr.mk x.addr 0 none)),.agg (qO a).toArray,.int .i64 tick,.int .i64 rel] w K:=by
 refine qGw _ _ _ _ _ _ ?_
 rw[qG9]
 refine h.newC fun n4 w5 hn4 h5=>?_
 have h5:St w0 w5 ((n4,Cs (qO a) 97)::(cbH x++H)):=h5
 have hd:=h5.drew
 obtain⟨t,ht,ht8⟩:∃ t:Nat,a.th=t/\t<8:=⟨a.th.toNat,by omega,by omega⟩
 obtain⟨k,hk,hk3⟩:∃ k:Nat,kind a=k/\k<3:=⟨(kind a).toNat,by have:=q8x a;omega,by have:=q8x a;omega⟩
 have hik:t*3+k<24:=by omega
 have s0:∀ w10,St w0 w10 ((n4,Cs (qO a) 97)::(cbH x++H))->q8L tick (Addr.mk n4 0 none) (some (Addr.mk x.addr 0 none)) rel (some ((((Addr.mk x.addr 0 none).add 1).add (Int.toNat a.th*3)).add (Int.toNat (kind a)*1))) w10 K:=by
  intro w10 h10
  rw[qqb,ht,hk]
  simp only[qi,qc,Nat.zero_add,Int.toNat_natCast,Nat.mul_one]
  have hi:1+t*3+k=(t*3+k)+1:=by omega
  rw[hi]
  refine⟨x.c.last.getD (t*3+k) 0,?_,?_⟩
  ·rw[h10.cell (k:=1) (cs:=yn x) rfl]
   have:t*3+k<x.c.last.length:=by rw[hx.last];exact hik
   simp[yn,this]
  rw[qg]
  have hrem:x.c.remember a tick rel=if x.c.last.getD (t*3+k) 0=yk (rel+1)then x.c else { l:=x.c.l++[⟨a,tick⟩],last:=x.c.last.set (t*3+k) (yk (rel+1)) }:=by
   unfold vl.remember
   rw[ht,hk]
   simp only[Int.toNat_natCast]
  constructor
  ·intro he
   rw[if_pos (by simpa [yk]using he)]at hrem
   exact hK w10 x rfl rfl hrem.symm hx (h10.tail hn4)
  ·intro he
   have hne:¬ x.c.last.getD (t*3+k) 0=yk (rel+1):=by simpa [yk]using he
   rw[if_neg hne]at hrem
   rw[qn8]
   simp only[qi,qc,Nat.zero_add]
   refine h10.st1 (k:=1) (cs:=yn x) rfl (by simp[yn,hx.last];omega) rfl fun w25 h25=>?_
   have hset:(yn x).set (t*3+k+1) (Value.int .i64 (IntKind.wrap .i64 (rel+1)))=x.ov::(x.c.last.set (t*3+k) (yk (rel+1))).map qj:=by
    simp[yn,List.map_set,yk]
   rw[hset]at h25
   have h25:St w0 w25 ((n4,Cs (qO a) 97)::(x.addr,Cs (x.ov::(x.c.last.set (t*3+k) (yk (rel+1))).map qj) 112)::(x.L++H)):=h25
   have h25d:=h25.drew
   refine h25d.ldA (k:=0) (i:=0) rfl (by simp[yz]) ?_
   refine⟨_,quc a tick,?_⟩
   obtain⟨sa,sc,hov⟩:=hx.sl.form
   have fin:∀ n33 w31,w0.heap.size<=n33->St w0 w31 ((n33,Cs (jx ⟨a,tick⟩) 122)::(n4,Cs (qO a) 97)::(x.addr,Cs (x.ov::(x.c.last.set (t*3+k) (yk (rel+1))).map qj) 112)::(x.L++H))->
     ∃ g cap w35,(Builtin.append_ #[109,109] 109 [x.ov,.slice (some ⟨n33,0,none⟩) 1 1].toArray).run P w31=.ok (.slice (some ⟨g,0,none⟩) (x.c.l.length+1) cap) w35/\
      zG (Addr.mk x.addr 0 none) (.slice (some ⟨g,0,none⟩) (x.c.l.length+1) cap) w35 fun w37=>K (Value.tuple [].toArray) w37:=by
    intro n33 w31 hn33 h31
    obtain⟨g,cap,w',L',hr,hS,hs',hN⟩:=St.append (P:=P) 109 109 122 Tryz.t122 (.agg #[qj 0,qj 0,.int .u32 0,.bool false,.bool false,qj 0]) 6 32 Tryz.underlying109 qlb rfl rfl rfl rfl om
     (A:=[(n33,Cs (jx ⟨a,tick⟩) 122),(n4,Cs (qO a) 97),(x.addr,Cs (x.ov::(x.c.last.set (t*3+k) (yk (rel+1))).map qj) 112)]) h31 hx.sl hx.new (j:=0) rfl rfl (by simpa using q52 ⟨a,tick⟩) (by simp[maxLen];omega) om
    refine⟨g,cap,w',hr,?_⟩
    have hs':St w0 w' ((n33,Cs (jx ⟨a,tick⟩) 122)::(n4,Cs (qO a) 97)::(x.addr,Cs (x.ov::(x.c.last.set (t*3+k) (yk (rel+1))).map qj) 112)::(L'++H)):=hs'
    refine hs'.st1 (k:=2) rfl (by simp) rfl fun w37 h37=>?_
    refine hK w37 ⟨x.byte,x.addr,.slice (some ⟨g,0,none⟩) (x.c.l.length+1) cap,x.c.remember a tick rel,L'⟩ rfl rfl rfl ⟨?_,hN,?_,hx.na,?_⟩ ?_
    ·rw[hrem];simp only[List.length_append,List.length_singleton];rw[qde];exact hS
    ·rw[hrem];simp[hx.last]
    ·rw[hrem];intro p hp
     rcases List.mem_append.1 hp with hp | hp
     ·exact hx.th p hp
     ·simp at hp;rw[hp];exact ha
    ·have:=((h37.tail hn33).tail hn4)
     rw[hrem]
     exact this
   have rd:∀ {w':World} {X:qP},St w0 w' (X++((n4,Cs (qO a) 97)::(x.addr,Cs (x.ov::(x.c.last.set (t*3+k) (yk (rel+1))).map qj) 112)::(x.L++H)))->w'.cell? (Addr.mk x.addr 0 none)=some (Value.slice sa x.c.l.length sc):=fun h'=>by
    rw[qv (h'.has x.addr (Cs (x.ov::(x.c.last.set (t*3+k) (yk (rel+1))).map qj) 112) (by simp)),hov];rfl
   constructor
   ·refine⟨sa,_,sc,rd (X:=[]) h25d,⟨rfl,trivial⟩,?_⟩
    refine h25d.newC fun n33 w31 hn33 h31=>?_
    obtain⟨g,cap,w35,hr,hst⟩:=fin n33 w31 hn33 h31
    rw[hov]at hr
    exact⟨_,_,_,w35,hr,hst⟩
   ·refine⟨⟨rfl,trivial⟩,?_⟩
    refine h25d.newC fun n33 w31 hn33 h31=>?_
    obtain⟨g,cap,w35,hr,hst⟩:=fin n33 w31 hn33 h31
    rw[hov]at hr
    exact⟨sa,_,sc,rd (X:=[_]) h31,_,_,_,w35,hr,hst⟩
 have hkl:=q8x a
 have cth:∀ {w':World},St w0 w' ((n4,Cs (qO a) 97)::(cbH x++H))->w'.cell? ((Addr.mk n4 0 none).add 1)=some (Value.int .i64 a.th):=fun h'=>by rw[qc,h'.cell (k:=0) rfl];rfl
 refine hd.ldA (k:=0) (i:=0) rfl (by simp[yz]) ⟨?_,?_⟩
 ·refine⟨a.th,cth hd,ha.1,by have:=ha.2;simpa using this,?_⟩
  refine qkV hd a fun w10 h10=>⟨_,rfl,hkl.1,by have:=hkl.2;simpa using this,s0 w10 h10⟩
 ·refine qkV hd a fun w10 h10=>⟨_,rfl,a.th,cth h10,ha.1,by have:=ha.2;simpa using this,hkl.1,by have:=hkl.2;simpa using this,s0 w10 h10⟩
end Go.Fx.Tryz
namespace Go.Fx
open Go
variable {P:Program} {w0 w:World}
theorem St.appendS(t ty e:TypeId)(i:TypeInfo)(z:Value)(size bytes:Nat)(ht:P.underlying t=some (.slice e))(hi:P.info? e=some i)(hz:i.zero=some z)
  (hsize:i.size=size) (hby:i.bytes=bytes) (hzs:z.cells.size=size) (hsz:0<size)
  {A L H:qP} {ov:Value} {n:Nat} {xs:List Value} (h:St w0 w (A++(L++H))) (hL:zC size e ov n xs L) (hLn:zr w0 L)
  {ad:Addr} {m c:Nat} {news:List Value} (hl:news.length=m*size) (hnews:∀ j u,news[j]?=some u->w.cell? (ad.add j)=some u) (h1:∀ u∈news,u.oneCell'=true)
  (h63:n+m<=maxLen) (hbytes:(n+m)*bytes<=140737488355328) :
  ∃ v' w' L',(Builtin.append_ #[t,t] ty [ov,.slice (some ad) m c].toArray).run P w=.ok v' w'/\
   zC size e v' (n+m) (xs++news) L'/\St w0 w' (A++(L'++H))/\zr w0 L':=by
 have hown:w.ownsRow 0 e size ov n xs:=by
  refine⟨hL.1,?_⟩
  rcases hL.2 with⟨h1,h2,_⟩ | ⟨g,cap,cur,h1,h2,h3,h4,h5,h6⟩
  ·exact .inl ⟨h1,h2⟩
  ·exact .inr ⟨g,cap,cur.toArray,h1,Nat.zero_le _,h.has g (Cs cur e) (by simp[h2]),h3,h4,by simpa using h5,by simpa using h6⟩
 obtain⟨v',w',hr,ho,hgr,_,hblk⟩:=run_append_own_at (P:=P) w 0 t ty e i z size bytes ht hi hz hsize hby hzs hsz ov n xs hown ad m c news hl hnews h1 h63 hbytes (Nat.zero_le _)
 rcases ho.2 with⟨rfl,h0⟩ | ⟨g,cap,cur,rfl,_,hg,hnc,hcm,hcs,htk⟩
 ·-- nothing to nothing
  have hn0:n=0:=by omega
  have hm0:m=0:=by omega
  subst hn0;subst hm0
  have hx0:xs=[]:=List.eq_nil_of_length_eq_zero (by simpa using hL.1)
  have hn0':news=[]:=List.eq_nil_of_length_eq_zero (by simpa using hl)
  subst hx0;subst hn0'
  rcases hL.2 with⟨h1,_,h2⟩ | ⟨g0,cap0,cur0,h1,h2,_⟩
  ·subst h2
   refine⟨_,w',[],hr,⟨by simp,.inl ⟨rfl,rfl,rfl⟩⟩,?_,zr.nil w0⟩
   have hs:w'=w':=rfl
   refine⟨⟨hgr.os.trans h.kept.os,hgr.tape.trans h.kept.tape,hgr.output.trans h.kept.output⟩,Nat.le_trans h.le hgr.size,fun b o hb=>?_,by simpa using h.nd,fun b hb hn=>?_⟩
   ·have hmem:(b,o)∈A++([]++H):=hb
    rw[hgr.block b (h.lt hmem) (by rw[h1];simp[Value.ownBlock])]
    exact h.has b o hmem
   ·rw[hgr.block b (Nat.lt_of_lt_of_le hb h.le) (by rw[h1];simp[Value.ownBlock])]
    exact h.old b hb (by simpa using hn)
  ·rcases hblk with hb | hb
   ·rw[h1]at hb;simp[Value.ownBlock]at hb
   ·simp[Value.ownBlock]at hb
 have hnd:=h.nd
 simp only[List.map_append]at hnd
 have hgsz:=hgr.size
 have hgold:=hgr.block
 have yy:∀ b o,(b,o)∈A\/(b,o)∈H->w'.heap[b]?=some o:=fun b o hb=>by
  have hmem:(b,o)∈A++(L++H):=by simp only[List.mem_append];rcases hb with hb | hb<;>simp[hb]
  rw[hgold b (h.lt hmem) ?_]
  ·exact h.has b o hmem
  ·rcases hL.2 with⟨h1,_,_⟩ | ⟨g0,cap0,cur0,h1,h2,_⟩
   ·rw[h1];simp[Value.ownBlock]
   ·rw[h1]
    simp only[Value.ownBlock,ne_eq,Option.some.injEq]
    rintro rfl
    rw[h2]at hnd
    have h3:=List.nodup_append.1 hnd
    rcases hb with hb | hb
    ·exact h3.2.2 b (List.mem_map.2 ⟨_,hb,rfl⟩) b (by simp) rfl
    ·have h4:=h3.2.1
     simp only[List.map_cons,List.map_nil,List.cons_append,List.nil_append,List.nodup_cons]at h4
     exact h4.1 (List.mem_map.2 ⟨_,hb,rfl⟩)
 have hAH:(A.map (·.1)++H.map (·.1)).Nodup:=by
  have h3:=List.nodup_append.1 hnd
  refine List.nodup_append.2 ⟨h3.1,(List.nodup_append.1 h3.2.1).2.1,fun a ha b hb=>h3.2.2 a ha b (by simp[hb])⟩
 have hgn:g ∉ A.map (·.1)/\g ∉ H.map (·.1)/\w0.heap.size<=g:=by
  rcases hblk with hb | hb
  ·rcases hL.2 with⟨h1,_,_⟩ | ⟨g0,cap0,cur0,h1,h2,_⟩
   ·rw[h1]at hb;simp[Value.ownBlock]at hb
   ·rw[h1]at hb
    simp only[Value.ownBlock,Option.some.injEq]at hb
    subst hb
    rw[h2]at hnd
    have h3:=List.nodup_append.1 hnd
    have h4:=h3.2.1
    simp only[List.map_cons,List.map_nil,List.cons_append,List.nil_append,List.nodup_cons]at h4
    refine⟨fun ha=>h3.2.2 g ha g (by simp) rfl,h4.1,?_⟩
    rw[h2]at hLn
    simpa using hLn (g,Cs cur0 e) (by simp)
  ·simp only[Value.ownBlock,Option.some.injEq]at hb
   subst hb
   refine⟨fun ha=>?_,fun ha=>?_,h.le⟩<;>obtain⟨⟨c,p⟩,hc,he⟩:=List.mem_map.1 ha<;>have:=h.lt (b:=c) (o:=p) (by simp[hc])<;>simp at he<;>omega
 refine⟨_,w',[(g,Cs cur.toList e)],hr,⟨ho.1,.inr ⟨g,cap,cur.toList,rfl,rfl,hnc,hcm,by simpa using hcs,htk⟩⟩,⟨⟨hgr.os.trans h.kept.os,hgr.tape.trans h.kept.tape,hgr.output.trans h.kept.output⟩,Nat.le_trans h.le hgsz,fun b o hb=>?_,?_,fun b hb hn=>?_⟩,by simpa [zr]using hgn.2.2⟩
 ·simp only[List.mem_append,List.mem_singleton]at hb
  rcases hb with hb | hb | hb
  ·exact yy b o (.inl hb)
  ·cases hb;simpa [Cs]using hg
  ·exact yy b o (.inr hb)
 ·simp only[List.map_append,List.map_cons,List.map_nil]
  have h3:=List.nodup_append.1 hAH
  refine List.nodup_append.2 ⟨h3.1,?_,?_⟩
  ·simp only[List.cons_append,List.nil_append,List.nodup_cons];exact⟨hgn.2.1,h3.2.1⟩
  ·intro a ha b hb
   simp only[List.cons_append,List.nil_append,List.mem_cons]at hb
   rcases hb with rfl | hb
   ·rintro rfl;exact hgn.1 ha
   ·exact h3.2.2 a ha b hb
 ·simp only[List.map_append,List.map_cons,List.map_nil,List.mem_append,List.mem_singleton,not_or]at hn
  have hbL:b ∉ L.map (·.1):=fun hh=>by
   obtain⟨x,hx,rfl⟩:=List.mem_map.1 hh
   have:=hLn x hx
   omega
  rw[hgold b (Nat.lt_of_lt_of_le hb h.le) ?_]
  ·exact h.old b hb (by simp only[List.map_append,List.mem_append,not_or];exact⟨hn.1,hbL,hn.2.2⟩)
  ·rcases hL.2 with⟨h1,_,_⟩ | ⟨g0,cap0,cur0,h1,h2,_⟩
   ·rw[h1];simp[Value.ownBlock]
   ·rw[h1]
    simp only[Value.ownBlock,ne_eq,Option.some.injEq]
    rintro rfl
    exact hbL (by simp[h2])
theorem q2A(t ty e:TypeId)(i:TypeInfo)(ht:P.underlying t=some (.slice e))(hi:P.info? e=some i)(w:World)(a:Option Addr)(n cap:Nat)(h:n<=cap) :
  (Builtin.append_ #[t,t] ty [.slice a n cap,.slice none 0 0].toArray).run P w=.ok (.slice a n cap) w:=by
 cases a<;>simp[Builtin.append_,run_underlying ht,sizeOf,typeInfo,hi,Builtin.lenOf,Builtin.firstCells,loadCells,h,storeCells]
theorem St.appendN(t ty e:TypeId)(i:TypeInfo)(z:Value)(size bytes:Nat)(ht:P.underlying t=some (.slice e))(hi:P.info? e=some i)(hz:i.zero=some z)
  (hsize:i.size=size) (hby:i.bytes=bytes) (hzs:z.cells.size=size) (hsz:0<size)
  {A L H M:qP} {ov xv:Value} {n m:Nat} {xs news:List Value} (h:St w0 w (A++(L++H))) (hL:zC size e ov n xs L) (hLn:zr w0 L)
  (hx:zC size e xv m news M) (hM:∀ x∈M,w.heap[x.1]?=some x.2) (h1:∀ u∈news,u.oneCell'=true)
  (h63:n+m<=maxLen) (hbytes:(n+m)*bytes<=140737488355328) :
  ∃ v' w' L',(Builtin.append_ #[t,t] ty [ov,xv].toArray).run P w=.ok v' w'/\
   zC size e v' (n+m) (xs++news) L'/\St w0 w' (A++(L'++H))/\zr w0 L':=by
 rcases hx.2 with⟨rfl,rfl,rfl⟩ | ⟨g,cap,cur,rfl,rfl,hnc,hcm,hcl,htk⟩
 ·have hn0:news=[]:=List.eq_nil_of_length_eq_zero (by simpa using hx.1)
  subst hn0
  have hle:∃ a c,ov=.slice a n c/\n<=c:=by
   rcases hL.2 with⟨h1,h2,_⟩ | ⟨g,cap,cur,h1,_,h3,_⟩
   ·exact⟨_,_,by rw[h1,h2],by omega⟩
   ·exact⟨_,_,h1,h3⟩
  obtain⟨a,c,hov,hle⟩:=hle
  refine⟨ov,w,L,?_,by simpa using hL,h,hLn⟩
  rw[hov]
  exact q2A t ty e i ht hi w a n c hle
 ·refine St.appendS (P:=P) t ty e i z size bytes ht hi hz hsize hby hzs hsz h hL hLn hx.1 (fun j u hu=>?_) h1 h63 hbytes
  rw[qc,qv (hM (g,Cs cur e) (by simp)),Nat.zero_add]
  rw[<-htk,List.getElem?_take]at hu
  split at hu
  ·exact hu
  ·cases hu
end Go.Fx
namespace Go.Fx.Mo
theorem vD{K V:Type} [DecidableEq K] (m:List (K × V)) (a:K) (v:V) (k:K):qr (put m a v) k=if k=a then some v else qr m k:=by
 unfold put
 split
 ·rename_i u hu
  rw[Zm]
  by_cases hk:k=a
  ·subst hk;simp[hu]
  ·simp[hk]
 ·rename_i hu
  rw[Zn]
  by_cases hk:k=a
  ·subst hk;simp[hu]
  ·simp[hk,Ne.symm hk]
theorem QR{d:VO}{a:Qk}{own:vj}:∀ {bs:List Int} {out out':List qQ} {n:Int},jq d a own bs out n=some out'->
  ∃ ext,out'=out++ext/\(ext.map (·.byte)).Sublist bs/\∀ r∈ext,r.second=a/\(qr d.told r.byte).getD false=false/\∃ c,qr d.cells r.byte=some c/\c.race a own=some r.first
 | [],out,out',n,h=>by
  simp[jq]at h
  exact⟨[],by simp[h],by simp,by simp⟩
 | b::r,out,out',n,h=>by
  unfold jq at h
  split at h
  ·split at h
   ·cases h
   ·obtain⟨ext,h1,h2,h3⟩:=QR h
    exact⟨ext,h1,h2.cons _,h3⟩
  ·rename_i c hc
   split at h
   ·obtain⟨ext,h1,h2,h3⟩:=QR h
    exact⟨ext,h1,h2.cons _,h3⟩
   ·rename_i ht
    split at h
    ·rename_i x hx
     obtain⟨ext,h1,h2,h3⟩:=QR h
     refine⟨⟨b,x,a⟩::ext,by simp[h1],by simpa using h2,fun q hq=>?_⟩
     rcases List.mem_cons.1 hq with rfl | hq
     ·exact⟨rfl,by simpa using ht,c,hc,hx⟩
     ·exact h3 q hq
    ·obtain⟨ext,h1,h2,h3⟩:=QR h
     exact⟨ext,h1,h2.cons _,h3⟩
theorem q1U:∀ (out:List qQ) (cs:List (Int × vl)) (ts:List (Int × Bool)) (b:Int),(qr (yB out cs ts).2 b).getD false=((qr ts b).getD false||out.any fun r=>r.byte==b)
 | [],cs,ts,b=>by simp[yB]
 | x::r,cs,ts,b=>by
  rw[yB,q1U r,vD]
  by_cases hb:b=x.byte
  ·simp[hb]
  ·have:(x.byte==b)=false:=by simpa using Ne.symm hb
   simp[hb,this]
theorem q0T{d d':VO}{e:Ev}{out:List qQ}(h:feed d e=(d',.inl out)):∃ p,plan d.th e=some p/\d.many<20000/\
  jq d (jI d e) p.own (if(zl e).2.2 then bytes e.a e.n else[]) [] 0=some out/\yk (d.told.length+out.length)<=1000/\
  d'=(let t:=yB out (yy (jI d e) p.tk (zo d.th.rels e.th) d.told (if(zl e).2.2 then bytes e.a e.n else[]) d.cells) d.told
   { th:=qG d.th e p,many:=yk (d.many+1),cells:=t.1,told:=t.2 }):=by
 unfold feed at h
 split at h
 ·simp at h
 ·rename_i hm
  split at h
  ·simp at h
  ·rename_i p hp
   simp only at h
   split at h
   ·simp at h
   ·rename_i out' hs
    split at h
    ·simp at h
    ·rename_i hl
     simp only[Prod.mk.injEq,Sum.inl.injEq]at h
     obtain⟨h1,rfl⟩:=h
     exact⟨p,hp,by omega,hs,by omega,h1.symm⟩
theorem q55{d d':VO}{e:Ev}{x:Int}(h:feed d e=(d',.inr x)):d'=d:=by
 unfold feed at h
 split at h
 ·simp at h;exact h.1.symm
 ·split at h
  ·simp at h;exact h.1.symm
  ·simp only at h
   split at h
   ·simp at h;exact h.1.symm
   ·split at h
    ·simp at h;exact h.1.symm
    ·simp at h
theorem qeM{e:Ev}{r:List Ev}{d:VO}{out out':List qQ}(h:jH (e::r) d out=.inl out'):∃ d1 x,feed d e=(d1,.inl x)/\jH r d1 (out++x)=.inl out':=by
 unfold jH at h
 split at h
 ·cases h
 ·rename_i d1 x hf;exact⟨d1,x,hf,h⟩
theorem q6z:∀ (l:List Ev) (i:Int) (T:Th) (h:q1M) (d:VO) (out:List qQ),d.th=T->QQ l i T h=none->∃ x,jH l d out=.inr x
 | [],i,T,h,d,out,_,hr=>by simp[QQ]at hr
 | e::r,i,T,h,d,out,ht,hr=>by
  unfold jH
  split
  ·exact⟨_,rfl⟩
  ·rename_i d1 x hf
   obtain⟨p,hp,_,_,_,rfl⟩:=q0T hf
   unfold QQ at hr
   rw[<-ht,hp]at hr
   exact q6z r (i+1) (qG d.th e p) ⟨h.orders++p.orders,h.of++List.replicate p.orders.length i,h.events++[⟨p.tk,p.own⟩]⟩ _ _ rfl hr
theorem qpW{a:Int}{n:Nat}(hn:n<=4294967296):((List.range n).map fun i:Nat=>jE (a+jE (i:Int))).Nodup:=by
 rw[List.nodup_iff_pairwise_ne,List.pairwise_map]
 refine List.Pairwise.imp_of_mem ?_ (List.nodup_iff_pairwise_ne.1 List.nodup_range)
 intro i j hi hj hij h
 have hi:i<n:=by simpa using hi
 have hj:j<n:=by simpa using hj
 simp only[jE,IntKind.wrap,IntKind.bits,IntKind.signed]at h
 simp at h
 omega
theorem q2f{a n:Int}(hn:n<=65536):(bytes a n).Nodup:=qpW om
theorem Jm{T:Th}{e:Ev}(h:zw T e=false)(hi:(zl e).2.2=true):0<=e.n/\e.n<=65536:=by
 unfold zw at h
 simp only[Bool.or_eq_false_iff,decide_eq_false_iff_not,Bool.and_eq_false_iff]at h
 obtain⟨⟨_,h7⟩,_⟩:=h
 rcases h7 with h7 | h7
 ·rw[hi]at h7;cases h7
 ·omega
theorem zO{T:Th}{e:Ev}{p:Pl}(h:plan T e=some p):zw T e=false:=by
 unfold plan at h
 split at h
 ·cases h
 ·rename_i hr;simpa using hr
theorem q2r:∀ (l:List Ev) (d:VO) (out out':List qQ),jH l d out=.inl out'->(out.map (·.byte)).Nodup->(∀ r∈out,(qr d.told r.byte).getD false=true)->(out'.map (·.byte)).Nodup
 | [],d,out,out',h,hn,_=>by simp[jH]at h;rw[<-h];exact hn
 | e::r,d,out,out',h,hn,ht=>by
  obtain⟨d1,x,hf,h⟩:=qeM h
  obtain⟨p,hp,_,hs,_,rfl⟩:=q0T hf
  obtain⟨ext,rfl,hsub,hx⟩:=QR hs
  refine q2r r _ _ _ h ?_ ?_
  ·rw[List.map_append]
   refine List.nodup_append.2 ⟨hn,hsub.nodup ?_,?_⟩
   ·split
    ·rename_i hi
     exact q2f (Jm (zO hp) hi).2
    ·exact List.nodup_nil
   ·intro b hb c hc e
    subst e
    obtain⟨u,hu,rfl⟩:=List.mem_map.1 hb
    obtain⟨v,hv,e⟩:=List.mem_map.1 hc
    have h1:=ht u hu
    have h2:=(hx v hv).2.1
    rw[e,h1]at h2
    cases h2
  ·intro u hu
   simp only[q1U]
   rcases List.mem_append.1 hu with hu | hu
   ·simp[ht u hu]
   ·simp only[Bool.or_eq_true]
    exact .inr (List.any_eq_true.2 ⟨u,hu,by simp⟩)
theorem q2c{l:List Ev}{out:List qQ}(h:jH l Za []=.inl out):(out.map (·.byte)).Nodup:=q2r l Za [] out h (by simp) (by simp)
theorem zV{x:Int}(h1:-9223372036854775808<=x)(h2:x<9223372036854775808):yk x=x:=qk h1 h2
theorem jR(a b:qQ):yE a b=true↔a.second.ev<b.second.ev\/a.second.ev=b.second.ev/\a.byte<=b.byte:=by simp[yE]
theorem q7i(a b c:qQ)(h1:yE a b=true)(h2:yE b c=true):yE a c=true:=by
 rw[jR]at *;omega
theorem q9c(a b:qQ):(yE a b||yE b a)=true:=by
 rw[Bool.or_eq_true,jR,jR];omega
theorem qq4{l:List qQ}(hn:(l.map (·.byte)).Nodup){a b:qQ}(ha:a∈l)(hb:b∈l)(h:a.byte=b.byte):a=b:=by
 induction l with
 | nil=>cases ha
 | cons x r ih=>
  simp only[List.map_cons,List.nodup_cons]at hn
  rcases List.mem_cons.1 ha with ea | ma
  ·rcases List.mem_cons.1 hb with eb | mb
   ·rw[ea,eb]
   ·exact absurd (List.mem_map.2 ⟨b,mb,by rw[<-h,ea]⟩) hn.1
  ·rcases List.mem_cons.1 hb with eb | mb
   ·exact absurd (List.mem_map.2 ⟨a,ma,by rw[h,eb]⟩) hn.1
   ·exact ih hn.2 ma mb
theorem qAn{l s t:List qQ}(hn:(l.map (·.byte)).Nodup)(h1:s.Perm l)(h2:t.Perm l)(hs:s.Pairwise fun a b=>yE a b=true)(ht:t.Pairwise fun a b=>yE a b=true):s=t:=by
 refine List.Perm.eq_of_pairwise (le:=fun a b=>yE a b=true) ?_ hs ht (h1.trans h2.symm)
 intro a b ha hb hab hba
 rw[jR]at hab hba
 exact qq4 hn (h1.mem_iff.1 ha) (h2.mem_iff.1 hb) om
theorem qk6{l s:List qQ}(hn:(l.map (·.byte)).Nodup)(h1:s.Perm l)(hs:s.Pairwise fun a b=>yE a b=true):s=l.mergeSort yE:=
 qAn hn h1 (List.mergeSort_perm _ _) hs (List.pairwise_mergeSort q7i q9c l)
end Go.Fx.Mo
namespace Go.Fx.Tryz
open Go Go.Fx Go.Fx.Mo
open Go.Proofs
variable {w0 w:World} {H:qP} {K:KT}
set_option maxRecDepth 20000
abbrev zt(x:Int):Value:=.int .u32 x
structure DB where
 db:Nat
 tob:Nat
 tnb:Nat
 cb:Nat
 lb:Nat
 es3:Array MapEntry
 c3:Nat
 es4:Array MapEntry
 c4:Nat
 es5:Array MapEntry
 c5:Nat
 es6:Array MapEntry
 c6:Nat
 d:VO
 cs:List CB
def zp(D:DB):List Value:=[.bool true,qj D.d.many,.map (some D.cb),.map (some D.lb)]
def zv(cs:List CB):List (Nat × Obj):=cs.flatMap cbH
abbrev ptr(b:Nat):Value:=.pointer (some (Addr.mk b 0 none))
def zY(cs:List CB):List (Int × Value):=cs.map fun x=>(x.byte,ptr x.addr)
def zI(cs:List CB):List (Int × vl):=cs.map fun x=>(x.byte,x.c)
def zg(D:DB):List (Nat × Obj):=
 (D.db,Cs (qU D.d.th D.tob D.tnb++zp D) 37)::(D.tob,.map D.es3 D.c3)::(D.tnb,.map D.es4 D.c4)::(D.cb,.map D.es5 D.c5)::(D.lb,.map D.es6 D.c6)::zv D.cs
structure jz (w0:World) (D:DB):Prop where
 th:vr D.d.th
 m3:MapIs ym D.es3 D.c3 (yp Zj D.d.th.objs)
 m4:MapIs ym D.es4 D.c4 (yp ZT D.d.th.names)
 m5:MapIs zt D.es5 D.c5 (zY D.cs)
 m6:MapIs zt D.es6 D.c6 (yp Value.bool D.d.told)
 cells:D.d.cells=zI D.cs
 each:∀ x∈D.cs,Ye w0 x/\(x.c.l.length:Int)<=65536*D.d.many
 many:0<=D.d.many/\D.d.many<=20000
 new:w0.heap.size<=D.db/\w0.heap.size<=D.tob/\w0.heap.size<=D.tnb/\w0.heap.size<=D.cb/\w0.heap.size<=D.lb
theorem jz.newH{D:DB}(h:jz w0 D):zr w0 (zg D):=by
 intro x hx
 simp only[zg,List.mem_cons]at hx
 obtain⟨a,b,c,d,e⟩:=h.new
 rcases hx with rfl | rfl | rfl | rfl | rfl | hx
 ·exact a
 ·exact b
 ·exact c
 ·exact d
 ·exact e
 ·obtain⟨y,hy,hx⟩:=List.mem_flatMap.1 hx
  have hy:=(h.each y hy).1
  rcases List.mem_cons.1 hx with rfl | hx
  ·exact hy.na
  ·exact hy.new x hx
theorem PS.frame{B:PB}{R:qP}{p:Pl}(h:PS w0 w B R p):∃ F,St w0 w (R++F)/\(∃ ov ob nb,(B.pb,Cs (qM B.tb B.e ov ob nb p) B.t)∈F)/\(B.tb,Cs (qU B.T B.tob B.tnb++B.rest) B.tt)∈F/\
  ∀ w' R',St w0 w' (R'++F)->PS w0 w' B R' p:=by
 obtain⟨D,L,rfl,hs,h1,h2,h3⟩:=h
 have pm:∀ R':List (Nat × Obj),(L++vN B D R').Perm (R'++(L++vN B D [])):=fun R'=>by
  have e:L++vN B D R'=(L++vN B D [])++R':=by simp[vN]
  rw[e]
  exact List.perm_append_comm
 refine⟨L++vN B D [],hs.perm (pm R),⟨D.ov,B.ob,B.nb,by simp[vN]⟩,by simp[vN],fun w' R' h'=>⟨D,L,rfl,h'.perm (pm R').symm,h1,h2,h3⟩⟩
theorem q6L(cs:List CB)(b:Int):Mo.qr (zI cs) b=(cs.find? fun x=>x.byte==b).map (·.c):=by
 unfold Mo.qr zI
 rw[List.find?_map]
 cases h:cs.find? ((fun p:Int × vl=>p.1==b) ∘ fun x=>(x.byte,x.c))with
 | none=>rw[show cs.find? (fun x=>x.byte==b)=none from h];rfl
 | some x=>rw[show cs.find? (fun x=>x.byte==b)=some x from h];rfl
theorem qvC(cs:List CB)(b:Int):jK (zY cs) b=(cs.find? fun x=>x.byte==b).map fun x=>ptr x.addr:=by
 unfold jK zY
 rw[List.find?_map]
 cases h:cs.find? ((fun p:Int × Value=>p.1==b) ∘ fun x=>(x.byte,ptr x.addr))with
 | none=>rw[show cs.find? (fun x=>x.byte==b)=none from h];rfl
 | some x=>rw[show cs.find? (fun x=>x.byte==b)=some x from h];rfl
theorem jV:P.underlying 34=some (.map 43 101):=Tryz.underlying34
theorem QU:P.underlying 35=some (.map 43 4):=Tryz.underlying35
theorem qCu(w:World):(zeroValue 101).run P w=.ok (.pointer none) w:=Tryz.zeroValue101 w
theorem qKc(w:World):(zeroValue 4).run P w=.ok (.bool false) w:=Tryz.zeroValue4 w
theorem Jn{wq:World}(hx:zZ w wq){b:Nat}{o:Obj}(hb:w.heap[b]?=some o):wq.heap[b]?=some o:=by
 rw[hx b (Array.getElem?_eq_some_iff.1 hb).1,hb]
theorem q20{es:Array MapEntry}{clk:Nat}{cs:List CB}(hm:MapIs zt es clk (zY cs)){wq:World}{m:Nat}(hx:zZ w wq)(hb:w.heap[m]?=some (.map es clk))(b:Int) :
  (Instr.lookup 34 (.map (some m)) (.int .u32 b) false).run P wq=.ok (.pointer ((cs.find? fun x=>x.byte==b).map fun x=>Addr.mk x.addr 0 none)) wq:=by
 have:=hm.lookup qvu jV qCu (Jn hx hb) b false
 rw[qvC]at this
 simp only[Bool.false_eq_true,if_false]at this
 rw[this]
 cases cs.find? fun x=>x.byte==b<;>rfl
theorem q5Y{es:Array MapEntry}{clk:Nat}{m:List (Int × Bool)}(hm:MapIs zt es clk (yp Value.bool m)){wq:World}{k:Nat}(hx:zZ w wq)(hb:w.heap[k]?=some (.map es clk))(b:Int) :
  (Instr.lookup 35 (.map (some k)) (.int .u32 b) false).run P wq=.ok (.bool ((Mo.qr m b).getD false)) wq:=by
 have:=hm.lookup qvu QU qKc (Jn hx hb) b false
 rw[Yd]at this
 simp only[Bool.false_eq_true,if_false]at this
 rw[this]
 cases Mo.qr m b<;>rfl
theorem Yt{cs:List CB}{b:Int}{x:CB}(h:(cs.find? fun x=>x.byte==b)=some x):x.byte=b/\∃ pre post,cs=pre++x::post:=by
 have h1:=List.find?_some h
 have h2:=List.mem_of_find?_eq_some h
 exact⟨by simpa using h1,List.append_of_mem h2⟩
theorem jp(pre post:List CB)(x:CB):(zv (pre++x::post)).Perm (cbH x++zv (pre++post)):=by
 unfold zv
 simp only[List.flatMap_append,List.flatMap_cons]
 rw[<-List.append_assoc,<-List.append_assoc]
 exact List.Perm.append_right _ List.perm_append_comm
theorem q4O(cs:List CB):(zY cs).map (·.1)=cs.map (·.byte):=by simp[zY,Function.comp_def]
theorem q1t{pre post:List CB}{x y:CB}(hn:((pre++x::post).map (·.byte)).Nodup)(hb:y.byte=x.byte):put (zI (pre++x::post)) x.byte y.c=zI (pre++y::post):=by
 have hl:Mo.qr (zI (pre++x::post)) x.byte≠none:=by
  rw[q6L]
  have:((pre++x::post).find? fun z=>z.byte==x.byte)≠none:=by
   rw[ne_eq,List.find?_eq_none]
   intro hh
   exact hh x (by simp) (by simp)
  cases h:(pre++x::post).find? fun z=>z.byte==x.byte with
  | none=>exact absurd h this
  | some z=>simp
 unfold put
 cases h:Mo.qr (zI (pre++x::post)) x.byte with
 | none=>exact absurd h hl
 | some c=>
  simp only[zI,List.map_map,List.map_append,List.map_cons]
  rw[List.map_append,List.map_cons,List.nodup_append,List.nodup_cons]at hn
  congr 1
  ·apply List.map_congr_left
   intro z hz
   have:z.byte≠x.byte:=fun e=>hn.2.2 z.byte (List.mem_map.2 ⟨z,hz,rfl⟩) x.byte (by simp) e
   simp[this]
  ·congr 1
   ·simp[hb]
   ·apply List.map_congr_left
    intro z hz
    have:z.byte≠x.byte:=fun e=>hn.2.1.1 (List.mem_map.2 ⟨z,hz,e⟩)
    simp[this]
theorem q4h{a:Qk}{tk rel:Int}{ts:List (Int × Bool)}{b:Int}{r:List Int}{cs:List (Int × vl)}:yy a tk rel ts (b::r) cs =
  yy a tk rel ts r (if(Mo.qr ts b).getD false then(match Mo.qr cs b with
   | none=>put cs b yI
   | some _=>cs)else put cs b (((Mo.qr cs b).getD yI).remember a tk rel)):=rfl
def qz(r:Mo.qQ):List Value:=.int .u32 r.byte::(qO r.first++qO r.second)
def qA(l:List Mo.qQ):List Value:=(l.map qz).flatten
theorem vY(r:Mo.qQ):∀ v∈(qz r),v.oneCell'=true:=by simp[qz,qO,Value.oneCell']
theorem q1s(l:List Mo.qQ)(r:Mo.qQ):qA (l++[r])=qA l++qz r:=by simp[qA]
theorem qa2(l:List Mo.qQ):∀ v∈qA l,v.oneCell'=true:=by
 intro v hv
 obtain⟨x,hx,hv⟩:=List.mem_flatten.1 hv
 obtain⟨r,_,rfl⟩:=List.mem_map.1 hx
 exact vY r v hv
theorem qkT(b:Int)(x y:Qk)(wq:World):(Instr.build 108 [(0,(Value.int .u32 b)),(1,(Value.agg (qO x).toArray)),(2,(Value.agg (qO y).toArray))].toArray).run P wq=.ok (.agg (qz ⟨b,x,y⟩).toArray) wq:=by
 obtain⟨x1,x2,x3,x4,x5⟩:=x
 obtain⟨y1,y2,y3,y4,y5⟩:=y
 kernel_rfl
theorem qkb(a b c:Int)(d e:Bool)(wq:World):(Instr.build 97 [(0,(Value.int .i64 a)),(1,(Value.int .i64 b)),(2,(Value.int .u32 c)),(3,(Value.bool d)),(4,(Value.bool e))].toArray).run P wq=.ok (.agg (qO ⟨a,b,c,d,e⟩).toArray) wq:=kr
theorem q8j:P.info? 108=some Tryz.t108:=kr
structure GF (G:qP) (D:DB) (n2 n72 n42 pb:Nat) (a:Mo.Qk) (e:Ev) (p:Pl):Prop where
 g2:(n2,Cs [ptr D.db] 25)∈G
 g72:(n72,Cs (qO a) 97)∈G
 g42:(n42,Cs [ptr pb] 91)∈G
 gdb:(D.db,Cs (qU D.d.th D.tob D.tnb++zp D) 37)∈G
 gpl:∃ ov ob nb t,(pb,Cs (qM D.db e ov ob nb p) t)∈G
 own:p.own.length=8
theorem Ze{D:DB}(hT:vr D.d.th)(i:Nat):(qU D.d.th D.tob D.tnb++zp D)[90+i]?=(zp D)[i]?:=by
 rw[List.getElem?_append_right (by rw[yu hT];omega),yu hT]
 congr 1;omega
abbrev Qu(l l' n6 n8 n92 n90:Nat)(o:Obj)(v6:Value)(x8 fresh:Int)(ov:Value)(Lo G:qP):List (Nat × Obj):=
 (l,o)::(l',.deferred (some []))::(n6,Cs [v6] 39)::(n8,Cs [qj x8] 40)::(n92,Cs [qj fresh] 3)::(n90,Cs [ov] 39)::(Lo++G)
theorem yJ{l l' n6 n8 n92 n90:Nat}{o:Obj}{v6:Value}{x8 fresh:Int}{ov:Value}{Lo G:qP}{y:Nat × Obj}(h:y∈G):y∈Qu l l' n6 n8 n92 n90 o v6 x8 fresh ov Lo G:=
 .tail _ (.tail _ (.tail _ (.tail _ (.tail _ (.tail _ (List.mem_append_right _ h))))))
theorem z25:qn P 39=#[.slice none 0 0]:=kr
theorem z28:qn P 40=#[qj 0]:=kr
theorem z3:qn P 3=#[qj 0]:=kr
theorem qGY{es:Array MapEntry}{clk:Nat}{cs:List CB}(hm:MapIs zt es clk (zY cs)){wq:World}{m:Nat}(hx:zZ w wq)(hb:w.heap[m]?=some (.map es clk)) :
  (Builtin.len_ #[34] 3 [Value.map (some m)].toArray).run P wq=.ok (.int .i64 cs.length) wq:=by
 have:=hm.len (Jn hx hb) jV 3
 rw[this]
 simp[zY]
variable {D:DB} {G:qP} {n2 n72 n42 pb:Nat} {a:Mo.Qk} {e:Ev} {p:Pl}
theorem qvA{l l' n6 n8 n92 n90 n153:Nat}{fresh:Int}{ov:Value}{Lo:qP}{out:List Mo.qQ}{Rr:LoopState->Option Code->Loop}{post:Option Code->World->Prop}(hG:GF G D n2 n72 n42 pb a e p)
  (hLo:zC 11 108 ov out.length (qA out) Lo) (hLn:zr w0 Lo) (hlen:out.length<1000000) (b:Int) (x:Option Mo.Qk) {xs:List Value} (hxs:∀ y,x=some y->xs=qO y)
  (h:St w0 w ((n153,Cs xs 97)::Qu l l' n6 n8 n92 n90 (.loop (Rr .busy none)) (.slice none 0 0) 0 fresh ov Lo G)) (hn153:w0.heap.size<=n153)
  (hpost:∀ w' ov' Lo',zC 11 108 ov' (out++(x.map fun y=>Mo.qQ.mk b y a).toList).length (qA (out++(x.map fun y=>Mo.qQ.mk b y a).toList)) Lo'->zr w0 Lo'->
   St w0 w' (Qu l l' n6 n8 n92 n90 (.loop (Rr .ready none)) (.slice none 0 0) 0 fresh ov' Lo' G)->post none w') :
  q3X (Addr.mk n90 0 none) (Addr.mk n72 0 none) (Addr.mk n153 0 none) b x.isSome w l Rr post:=by
 rw[qpF]
 cases x with
 | none=>
  rw[Option.isSome_none,qd]
  refine⟨h.get (k:=1) rfl,?_⟩
  have:=(h.put (k:=1) rfl (.loop (Rr .ready none))).tail hn153
  exact hpost _ ov Lo (by simpa using hLo) hLn this
 | some y=>
  rw[Option.isSome_some,qm]
  have hxs:=hxs y rfl
  subst hxs
  obtain⟨sa,sc,hov⟩:=hLo.form
  refine⟨sa,out.length,sc,by rw[h.cell (k:=6) rfl,<-hov];rfl,?_⟩
  refine h.ldA (k:=0) (i:=0) rfl (by simp[yz]) (jU (h.has n72 _ (.tail _ (yJ hG.g72))) (by simp[yz]) ?_)
  refine⟨_,qkT b y a,⟨rfl,trivial⟩,?_⟩
  refine h.newC fun n168 w166 hn168 h166=>?_
  obtain⟨g,cap,w',L',hr,hS,hs',hN⟩:=St.append (P:=P) 39 39 108 Tryz.t108 (.agg #[.int .u32 0,qj 0,qj 0,.int .u32 0,.bool false,.bool false,qj 0,qj 0,.int .u32 0,.bool false,.bool false]) 11 56 Tryz.underlying39 q8j rfl rfl rfl rfl om
   (A:=[(n168,Cs (qz ⟨b,y,a⟩) 108),(n153,Cs (qO y) 97),(l,.loop (Rr .busy none)),(l',.deferred (some [])),(n6,Cs [.slice none 0 0] 39),(n8,Cs [qj 0] 40),(n92,Cs [qj fresh] 3),(n90,Cs [ov] 39)]) (L:=Lo) (H:=G) (by exact h166) hLo hLn (j:=0) rfl rfl (vY _) (by simp[maxLen];omega) om
  rw[hov]at hr
  refine⟨_,_,_,w',hr,?_⟩
  have hs':St w0 w' ((n168,Cs (qz ⟨b,y,a⟩) 108)::(n153,Cs (qO y) 97)::Qu l l' n6 n8 n92 n90 (.loop (Rr .busy none)) (.slice none 0 0) 0 fresh ov L' G):=hs'
  refine hs'.st1 (k:=7) rfl (by simp) rfl fun w171 h171=>?_
  refine⟨h171.get (k:=2) rfl,?_⟩
  have:=((h171.put (k:=2) rfl (.loop (Rr .ready none))).tail hn168).tail hn153
  refine hpost _ (.slice (some ⟨g,0,none⟩) (out.length+1) cap) L' ?_ hN this
  have e:out++(Option.map (fun y=>Mo.qQ.mk b y a) (some y)).toList=out++[⟨b,y,a⟩]:=rfl
  rw[e,q1s,List.length_append]
  exact hS
theorem qdu{l l' n6 n8 n92 n90 n4:Nat}{fresh:Int}{ov:Value}{Lo:qP}{out:List Mo.qQ}{Rr:LoopState->Option Code->Loop}{post:Option Code->World->Prop}(hG:GF G D n2 n72 n42 pb a e p)(hD:jz w0 D)
  (hcb:(D.cb,.map D.es5 D.c5)∈G) (hlb:(D.lb,.map D.es6 D.c6)∈G) (hcs:∀ x∈D.cs,∀ y∈cbH x,y∈G) (x107:Int)
  (hLo:zC 11 108 ov out.length (qA out) Lo) (hLn:zr w0 Lo) (hlen:out.length<1000000) (b:Int)
  (h:St w0 w (Qu l l' n6 n8 n92 n90 (.loop (Rr .ready none)) (.slice none 0 0) 0 fresh ov Lo G))
  (hnext:∀ w' out' fresh' ov' Lo',(∀ r,jq D.d a p.own (b::r) out fresh=jq D.d a p.own r out' fresh')->out'.length<=out.length+1->zC 11 108 ov' out'.length (qA out') Lo'->zr w0 Lo'->
   St w0 w' (Qu l l' n6 n8 n92 n90 (.loop (Rr .ready none)) (.slice none 0 0) 0 fresh' ov' Lo' G)->post none w')
  (hexit:∀ w' fresh',(∀ r,jq D.d a p.own (b::r) out fresh=none)->St w0 w' (Qu l l' n6 n8 n92 n90 (.loop (Rr .done (some .ret))) (.slice none 0 0) 2 fresh' ov Lo G)->post (some .ret) w') :
  qe6 (Addr.mk n8 0 none) (Addr.mk n6 0 none) (Addr.mk n92 0 none) (Addr.mk n2 0 none) (Addr.mk n90 0 none) (Addr.mk n72 0 none) (Addr.mk n42 0 none) (Addr.mk n4 0 none) x107 b w l Rr post:=by
 rw[qpH]
 refine⟨h.get (k:=0) rfl,?_⟩
 have h1:St w0 (w.putObj l (.loop (Rr .busy none))) (Qu l l' n6 n8 n92 n90 (.loop (Rr .busy none)) (.slice none 0 0) 0 fresh ov Lo G):=h.put (k:=0) rfl _
 generalize w.putObj l (.loop (Rr .busy none))=w1 at h1
 have c2:∀ {w':World} {o x8 fr v lo},St w0 w' (Qu l l' n6 n8 n92 n90 o (.slice none 0 0) x8 fr v lo G)->w'.cell? (Addr.mk n2 0 none)=some (ptr D.db):=fun h'=>by rw[qv (h'.has n2 _ (yJ hG.g2))];rfl
 have cdb:∀ {w':World} {o x8 fr v lo} (i:Nat),St w0 w' (Qu l l' n6 n8 n92 n90 o (.slice none 0 0) x8 fr v lo G)->w'.cell? (Addr.mk D.db (90+i) none)=(zp D)[i]?:=fun i h'=>by rw[qv (h'.has D.db _ (yJ hG.gdb)),Ze hD.th]
 rw[qwJ]
 refine⟨_,c2 h1,some D.cb,by rw[qc,Nat.zero_add,cdb 2 h1];rfl,?_⟩
 refine⟨_,fun wq hx=>q20 hD.m5 hx (h1.has _ _ (yJ hcb)) b,?_⟩
 have hlk:Mo.qr D.d.cells b=(D.cs.find? fun x=>x.byte==b).map (·.c):=by rw[hD.cells,q6L]
 cases hf:D.cs.find? fun x=>x.byte==b with
 | none=>
  rw[hf]at hlk
  simp only[Option.map_none,Option.isNone_none,qm]at hlk ⊢
  refine⟨fresh,by rw[h1.cell (k:=4) rfl];rfl,?_⟩
  refine h1.st1 (k:=4) rfl (by simp) rfl fun w2 h2=>?_
  have h2:St w0 w2 (Qu l l' n6 n8 n92 n90 (.loop (Rr .busy none)) (.slice none 0 0) 0 (yk (fresh+1)) ov Lo G):=h2
  have h2d:=h2.drew
  have hlc:D.d.cells.length=D.cs.length:=by rw[hD.cells];simp[zI]
  refine⟨_,c2 h2d,some D.cb,by rw[qc,Nat.zero_add,cdb 2 h2d];rfl,D.cs.length,fun wq hx=>qGY hD.m5 hx (h2d.has _ _ (yJ hcb)),yk (fresh+1),by rw[h2d.cell (k:=4) rfl];rfl,?_⟩
  rw[qg]
  constructor
  ·intro hgt
   have hgt:yk (D.d.cells.length+yk (fresh+1)) > 20000:=by rw[hlc];simpa [yk]using hgt
   refine h2d.st1 (k:=2) rfl (by simp) rfl fun w3 h3=>h3.st1 (k:=3) rfl (by simp) rfl fun w4 h4=>?_
   refine⟨h4.get (k:=0) rfl,?_⟩
   refine hexit _ (yk (fresh+1)) (fun r=>by simp only[jq,hlk,hgt,if_true]) ?_
   exact h4.put (k:=0) rfl _
  ·intro hle
   have hle:¬ yk (D.d.cells.length+yk (fresh+1)) > 20000:=by rw[hlc];simpa [yk]using hle
   rw[qxB]
   refine⟨h2d.get (k:=0) rfl,?_⟩
   exact hnext _ out (yk (fresh+1)) ov Lo (fun r=>by simp only[jq,hlk,hle,if_false]) om hLo hLn (h2d.put (k:=0) rfl _)
 | some x=>
  rw[hf]at hlk
  obtain⟨hxb,pre,post',hsp⟩:=Yt hf
  have hxm:x∈D.cs:=List.mem_of_find?_eq_some hf
  simp only[Option.map_some,Option.isNone_some,qd]at hlk ⊢
  rw[qqz]
  refine⟨_,c2 h1,some D.lb,by rw[qc,Nat.zero_add,cdb 3 h1];rfl,_,fun wq hx=>q5Y hD.m6 hx (h1.has _ _ (yJ hlb)) b,?_⟩
  rw[qg]
  constructor
  ·intro ht
   refine⟨h1.get (k:=0) rfl,?_⟩
   exact hnext _ out fresh ov Lo (fun r=>by simp only[jq,hlk,ht,if_true]) om hLo hLn (h1.put (k:=0) rfl _)
  ·intro ht
   rw[qmi]
   have hd:=h1.drew
   obtain⟨pov,pob,pnb,pt,hpl⟩:=hG.gpl
   obtain⟨hxo,hxl⟩:=hD.each x hxm
   have hmany:=hD.many
   have hscan:∀ r,jq D.d a p.own (b::r) out fresh=jq D.d a p.own r (out++((x.c.race a p.own).map fun y=>Mo.qQ.mk b y a).toList) fresh:=fun r=>by
    rw[jq,hlk]
    simp only[ht,Bool.false_eq_true,if_false]
    cases x.c.race a p.own<;>simp
   have hfin:∀ w' ov' Lo',zC 11 108 ov' (out++((x.c.race a p.own).map fun y=>Mo.qQ.mk b y a).toList).length (qA (out++((x.c.race a p.own).map fun y=>Mo.qQ.mk b y a).toList)) Lo'->zr w0 Lo'->
     St w0 w' (Qu l l' n6 n8 n92 n90 (.loop (Rr .ready none)) (.slice none 0 0) 0 fresh ov' Lo' G)->post none w':=fun w' ov' Lo' k1 k2 k3=>
    hnext w' _ fresh ov' Lo' hscan (by cases x.c.race a p.own<;>simp) k1 k2 k3
   have hrace:∀ {w':World} {X:qP} {K':KT},St w0 w' (X++Qu l l' n6 n8 n92 n90 (.loop (Rr .busy none)) (.slice none 0 0) 0 fresh ov Lo G)->(∀ w'',St w0 w'' (X++Qu l l' n6 n8 n92 n90 (.loop (Rr .busy none)) (.slice none 0 0) 0 fresh ov Lo G)->K' (qDR (x.c.race a p.own)) w'')->
     qa P 38 [.pointer (some (Addr.mk x.addr 0 none)),.agg (qO a).toArray,.agg (p.own.map qj).toArray] w' K':=fun h' hk=>
    qBn h' (c:=x.c) (ov:=x.ov) (rest:=x.c.last.map qj) (t:=112) (L:=x.L) (List.mem_append_right _ (yJ (hcs x hxm _ (by simp[cbH,yn])))) hxo.sl (fun y hy=>List.mem_append_right _ (yJ (hcs x hxm y (by simp[cbH,hy])))) hxo.th hG.own om a hk
   refine jU (hd.has n72 _ (yJ hG.g72)) (by simp[yz]) ?_
   refine⟨some (Addr.mk pb 0 none),by rw[qv (hd.has n42 _ (yJ hG.g42))];rfl,?_⟩
   have hown:((qM D.db e pov pob pnb p).drop 8).take 8=p.own.map qj:=by
    obtain⟨a,b,c,d,f,g,h,j,hl⟩:=own8 hG.own
    simp only[qM,qE,hl]
    rfl
   show qf 8 ((Addr.mk pb 0 none).add 8) _ _
   rw[qc,Nat.zero_add]
   refine jU (hd.has pb _ (yJ hpl)) (by rw[yf hG.own];omega) ?_
   rw[hown]
   have tail12:∀ w' n153 (cs151:List Value),w0.heap.size<=n153->St w0 w' ((n153,Cs cs151 97)::Qu l l' n6 n8 n92 n90 (.loop (Rr .busy none)) (.slice none 0 0) 0 fresh ov Lo G)->(∀ y,x.c.race a p.own=some y->cs151=qO y)->
     q3X (Addr.mk n90 0 none) (Addr.mk n72 0 none) (Addr.mk n153 0 none) b (x.c.race a p.own).isSome w' l Rr post:=fun w' n153 cs151 k1 k2 k3=>
    qvA hG hLo hLn hlen b (x.c.race a p.own) k3 k2 k1 hfin
   constructor
   ·refine hrace (X:=[]) hd fun w2 h2=>?_
    have h2:St w0 w2 (Qu l l' n6 n8 n92 n90 (.loop (Rr .busy none)) (.slice none 0 0) 0 fresh ov Lo G):=h2
    rw[z45]
    cases hr:x.c.race a p.own with
    | none=>
     refine⟨_,_,rfl,h2.newC fun n153 w3 hn153 h3=>h3.stA (k:=0) rfl rfl (by simp) (by simp[Value.oneCell']) fun w4 h4=>?_⟩
     have:=tail12 w4 n153 _ hn153 h4 (by simp[hr])
     rw[hr]at this
     exact this
    | some y=>
     refine⟨_,_,rfl,h2.newC fun n153 w3 hn153 h3=>h3.stA (k:=0) rfl rfl (by simp) (jN y) fun w4 h4=>?_⟩
     have:=tail12 w4 n153 (qO y) hn153 h4 (by simp[hr])
     rw[hr]at this
     exact this
   ·rw[z45]
    refine hd.newC fun n172 w2 hn172 h2=>?_
    refine hrace (X:=[_]) h2 fun w3 h3=>?_
    cases hr:x.c.race a p.own with
    | none=>
     refine⟨_,_,rfl,h3.stA (k:=0) rfl rfl (by simp) (by simp[Value.oneCell']) fun w4 h4=>?_⟩
     have:=tail12 w4 n172 _ hn172 h4 (by simp[hr])
     rw[hr]at this
     exact this
    | some y=>
     refine⟨_,_,rfl,h3.stA (k:=0) rfl rfl (by simp) (jN y) fun w4 h4=>?_⟩
     have:=tail12 w4 n172 (qO y) hn172 h4 (by simp[hr])
     rw[hr]at this
     exact this
end Go.Fx.Tryz
namespace Go.Fx.Tryz
open Go Go.Fx Go.Fx.Mo
open Go.Proofs
variable {w0 w:World} {H:qP} {K:KT}
set_option maxRecDepth 20000
variable {D:DB} {G:qP} {n2 n72 n42 pb n4:Nat} {a:Mo.Qk} {e:Ev} {p:Pl}
abbrev YU(l l':Nat)(o:Obj)(cb:Nat)(es5:Array MapEntry)(c5:Nat)(cs:List CB)(G:qP):List (Nat × Obj):=
 (l,o)::(l',.deferred (some []))::(cb,.map es5 c5)::(zv cs++G)
theorem ve{l l' cb:Nat}{o:Obj}{es5:Array MapEntry}{c5:Nat}{cs:List CB}{y:Nat × Obj}(h:y∈G):y∈YU l l' o cb es5 c5 cs G:=.tail _ (.tail _ (.tail _ (List.mem_append_right _ h)))
theorem qwD{a b c:Nat × Obj}{X Y Z G:qP}(h:X.Perm (Y++Z)):(a::b::c::(X++G)).Perm (Y++(a::b::c::(Z++G))):=by
 refine(List.Perm.append_left [a,b,c] (h.append_right G)).trans ?_
 have e1:[a,b,c]++(Y++Z++G)=([a,b,c]++Y)++(Z++G):=by simp
 have e2:Y++(a::b::c::(Z++G))=(Y++[a,b,c])++(Z++G):=by simp
 rw[e1,e2]
 exact List.perm_append_comm.append_right _
theorem q11(c:vl)(a:Mo.Qk)(tk rel:Int):(c.remember a tk rel).l.length<=c.l.length+1:=by
 unfold vl.remember
 simp only
 split<;>simp
theorem qLh(wq:World):(Instr.build 112 [].toArray).run P wq=.ok (.agg (yn ⟨0,0,.slice none 0 0,yI,[]⟩).toArray) wq:=kr
theorem qHl(a1 a2 a3 a4 a5:Addr)(x:Int)(w:World)(l:Nat)(R:LoopState->Option Code->Loop)(post:Option Code->World->Prop):qfV a1 a2 a3 a4 a5 x w l R post=q7c a1 a2 a3 a4 (some a5) x w l R post:=by
 rw[qql,q6K]
theorem qqL{D:DB}(hT:vr D.d.th){i:Nat}(hi:i<8):(qU D.d.th D.tob D.tnb++zp D)[80+i]?=some (qj (D.d.th.rels.getD i 0)):=q6T hT hi
theorem qar{l l':Nat}{es5:Array MapEntry}{c5:Nat}{pre post':List CB}{x:CB}{Rr:LoopState->Option Code->Loop}{post:Option Code->World->Prop}(hG:GF G D n2 n72 n42 pb a e p)(hT:vr D.d.th)(hm6:MapIs zt D.es6 D.c6 (yp Value.bool D.d.told))
  (hlb:(D.lb,.map D.es6 D.c6)∈G) (h4:(n4,Cs (qE e) 45)∈G) (ht:0<=e.th/\e.th<8) (ha:a.th=e.th)
  (h:St w0 w (YU l l' (.loop (Rr .busy none)) D.cb es5 c5 (pre++x::post') G)) (hx:Ye w0 x) (hlen:x.c.l.length<1900000000)
  (hpost:∀ w' y,y.byte=x.byte->y.addr=x.addr->y.c=(if(Mo.qr D.d.told x.byte).getD false then x.c else x.c.remember a p.tk (zo D.d.th.rels e.th))->Ye w0 y->
   St w0 w' (YU l l' (.loop (Rr .ready none)) D.cb es5 c5 (pre++y::post') G)->post none w') :
  q7c (Addr.mk n4 0 none) (Addr.mk n2 0 none) (Addr.mk n42 0 none) (Addr.mk n72 0 none) (some (Addr.mk x.addr 0 none)) x.byte w l Rr post:=by
 have c2:∀ {w':World},St w0 w' (YU l l' (.loop (Rr .busy none)) D.cb es5 c5 (pre++x::post') G)->w'.cell? (Addr.mk n2 0 none)=some (ptr D.db):=fun h'=>by rw[qv (h'.has n2 _ (ve hG.g2))];rfl
 rw[q6K]
 refine⟨_,c2 h,some D.lb,?_,_,fun wq hx=>q5Y hm6 hx (h.has _ _ (ve hlb)) x.byte,?_⟩
 ·rw[qc,Nat.zero_add,qv (h.has D.db _ (ve hG.gdb)),show(93:Nat)=90+3 from rfl,Ze hT];rfl
 rw[qg]
 constructor
 ·intro htold
  have htold:(Mo.qr D.d.told x.byte).getD false=false:=by simpa using htold
  have hd:=h.drew
  obtain⟨pov,pob,pnb,pt,hpl⟩:=hG.gpl
  obtain⟨t,hte,ht8⟩:∃ t:Nat,e.th=t/\t<8:=⟨e.th.toNat,by omega,by omega⟩
  refine jU (hd.has n72 _ (ve hG.g72)) (by simp[yz]) ?_
  refine⟨some (Addr.mk pb 0 none),by rw[qv (hd.has n42 _ (ve hG.g42))];rfl,p.tk,?_,_,c2 hd,e.th,?_,ht.1,by have:=ht.2;simpa using this,D.d.th.rels.getD t 0,?_,?_⟩
  ·rw[qc,Nat.zero_add,qv (hd.has pb _ (ve hpl))];exact zR hG.own 0
  ·rw[qc,Nat.zero_add,qv (hd.has n4 _ (ve h4))];rfl
  ·rw[hte,qc,qc,Int.toNat_natCast,Nat.mul_one,Nat.zero_add,qv (hd.has D.db _ (ve hG.gdb))];exact qqL hT ht8
  refine q9U (H:=(l,.loop (Rr .busy none))::(l',.deferred (some []))::(D.cb,.map es5 c5)::(zv (pre++post')++G)) (hd.perm (qwD (jp pre post' x))) hx (by rw[ha];exact ht) om p.tk (D.d.th.rels.getD t 0) fun w' y hya hyb hyc hyo h'=>⟨rfl,?_⟩
  have h'':St w0 w' (YU l l' (.loop (Rr .busy none)) D.cb es5 c5 (pre++y::post') G):=h'.perm (qwD (jp pre post' y)).symm
  refine⟨h''.get (k:=0) rfl,hpost _ y hyb hya ?_ hyo (h''.put (k:=0) rfl _)⟩
  rw[htold,hyc,hte]
  simp[zo]
 ·intro htold
  have htold:(Mo.qr D.d.told x.byte).getD false=true:=by simpa using htold
  refine⟨h.get (k:=0) rfl,hpost _ x rfl rfl ?_ hx (h.put (k:=0) rfl _)⟩
  rw[htold]
  rfl
theorem qyx{pre post:List CB}{x:CB}(hn:((pre++x::post).map (·.byte)).Nodup):put (zI (pre++x::post)) x.byte x.c=zI (pre++x::post):=q1t hn rfl
theorem qg4{l l':Nat}{es5:Array MapEntry}{c5:Nat}{cs:List CB}{N:Nat}{Rr:LoopState->Option Code->Loop}{post:Option Code->World->Prop}(hG:GF G D n2 n72 n42 pb a e p)(hT:vr D.d.th)(hm6:MapIs zt D.es6 D.c6 (yp Value.bool D.d.told))
  (hlb:(D.lb,.map D.es6 D.c6)∈G) (h4:(n4,Cs (qE e) 45)∈G) (ht:0<=e.th/\e.th<8) (ha:a.th=e.th) (n6 n8 n90:Nat)
  (hm5:MapIs zt es5 c5 (zY cs)) (each:∀ x∈cs,Ye w0 x/\x.c.l.length<=N) (hN:N<1900000000) (b:Int)
  (h:St w0 w (YU l l' (.loop (Rr .ready none)) D.cb es5 c5 cs G))
  (hpost:∀ w' es5' c5' cs',MapIs zt es5' c5' (zY cs')->(∀ x∈cs',Ye w0 x/\x.c.l.length<=N+1)->(∀ r,yy a p.tk (zo D.d.th.rels e.th) D.d.told (b::r) (zI cs)=yy a p.tk (zo D.d.th.rels e.th) D.d.told r (zI cs'))->
   St w0 w' (YU l l' (.loop (Rr .ready none)) D.cb es5' c5' cs' G)->post none w') :
  q7b (Addr.mk n4 0 none) (Addr.mk n2 0 none) (Addr.mk n42 0 none) (Addr.mk n72 0 none) (Addr.mk n6 0 none) (Addr.mk n8 0 none) (Addr.mk n90 0 none) b w l Rr post:=by
 rw[qfl]
 refine⟨h.get (k:=0) rfl,?_⟩
 have h1:St w0 (w.putObj l (.loop (Rr .busy none))) (YU l l' (.loop (Rr .busy none)) D.cb es5 c5 cs G):=h.put (k:=0) rfl _
 generalize w.putObj l (.loop (Rr .busy none))=w1 at h1
 have c2:∀ {w':World} {X:qP},St w0 w' (X++YU l l' (.loop (Rr .busy none)) D.cb es5 c5 cs G)->w'.cell? (Addr.mk n2 0 none)=some (ptr D.db):=fun h'=>by rw[qv (h'.has n2 _ (List.mem_append_right _ (ve hG.g2)))];rfl
 have cdb:∀ {w':World} {X:qP},St w0 w' (X++YU l l' (.loop (Rr .busy none)) D.cb es5 c5 cs G)->w'.cell? (Addr.mk D.db 92 none)=some (.map (some D.cb)):=fun h'=>by
  rw[qv (h'.has D.db _ (List.mem_append_right _ (ve hG.gdb))),show(92:Nat)=90+2 from rfl,Ze hT];rfl
 have hnd:(cs.map (·.byte)).Nodup:=by have:=hm5.nodup;rwa [q4O]at this
 rw[qoY]
 refine⟨_,c2 (X:=[]) h1,some D.cb,by rw[qc,Nat.zero_add];exact cdb (X:=[]) h1,_,fun wq hx=>q20 hm5 hx (h1.get (k:=2) rfl) b,?_⟩
 cases hf:cs.find? fun x=>x.byte==b with
 | none=>
  have hlk:Mo.qr (zI cs) b=none:=by rw[q6L,hf];rfl
  simp only[Option.map_none,Option.isNone_none,qm]
  refine⟨_,qLh,?_⟩
  refine h1.newC fun n225 w2 hn h2=>?_
  refine⟨_,c2 (X:=[_]) h2,some D.cb,by rw[qc,Nat.zero_add];exact cdb (X:=[_]) h2,?_⟩
  obtain⟨es',c',hr,hm'⟩:=hm5.update qvu jV (w:=w2) (b:=D.cb) (h2.get (k:=3) rfl) b (ptr n225)
  refine⟨_,hr,?_⟩
  have h3:St w0 (w2.putObj D.cb (.map es' c')) ((n225,Cs (yn ⟨0,0,.slice none 0 0,yI,[]⟩) 112)::YU l l' (.loop (Rr .busy none)) D.cb es' c' cs G):=h2.put (k:=3) rfl _
  let nx:CB:=⟨b,n225,.slice none 0 0,yI,[]⟩
  have hnx:Ye w0 nx:=⟨zC.nil 6 122,zr.nil w0,by simp[nx,yI],hn,by simp[nx,yI]⟩
  have h4':St w0 (w2.putObj D.cb (.map es' c')) (YU l l' (.loop (Rr .busy none)) D.cb es' c' (cs++nx::[]) G):=by
   refine h3.perm (List.Perm.symm ((qwD (jp cs [] nx)).trans ?_))
   rw[List.append_nil]
   exact List.Perm.refl _
  have hm5':MapIs zt es' c' (zY (cs++[nx])):=by
   have e:q7I (zY cs) b (ptr n225)=zY (cs++[nx]):=by
    have hl:jK (zY cs) b=none:=by rw[qvC,hf];rfl
    unfold q7I
    rw[hl]
    simp[zY,nx]
   rw[e]at hm'
   exact hm'
  rw[qHl]
  refine qar (x:=nx) hG hT hm6 hlb h4 ht ha h4' hnx (by simp[nx,yI]) fun w' y hyb hya hyc hyo h'=>?_
  have hyb:y.byte=b:=hyb
  refine hpost w' es' c' (cs++[y]) ?_ ?_ ?_ h'
  ·have e:zY (cs++[y])=zY (cs++[nx]):=by simp[zY,hyb,hya,nx]
   rw[e];exact hm5'
  ·intro z hz
   rcases List.mem_append.1 hz with hz | hz
   ·exact⟨(each z hz).1,by have:=(each z hz).2;omega⟩
   ·simp at hz;subst hz
    refine⟨hyo,?_⟩
    rw[hyc]
    split
    ·simp[nx,yI]
    ·have:=q11 nx.c a p.tk (zo D.d.th.rels e.th)
     simp[nx,yI]at this ⊢;omega
  ·intro r
   rw[q4h,hlk]
   congr 1
   have hput:∀ c,put (zI cs) b c=zI cs++[(b,c)]:=fun c=>by simp[put,hlk]
   simp only[hput,Option.getD_none]
   have:zI (cs++[y])=zI cs++[(b,y.c)]:=by simp[zI,hyb]
   rw[this,hyc]
   show _=zI cs++[(b,if(Mo.qr D.d.told b).getD false then yI else yI.remember a p.tk (zo D.d.th.rels e.th))]
   split<;>rfl
 | some x=>
  obtain⟨hxb,pre,post',hsp⟩:=Yt hf
  have hxm:x∈cs:=List.mem_of_find?_eq_some hf
  have hlk:Mo.qr (zI cs) b=some x.c:=by rw[q6L,hf];rfl
  simp only[Option.map_some,Option.isNone_some,qd]
  subst hxb
  rw[hsp]at h1 hnd
  refine qar (x:=x) hG hT hm6 hlb h4 ht ha h1 (each x hxm).1 (by have:=(each x hxm).2;omega) fun w' y hyb hya hyc hyo h'=>?_
  refine hpost w' es5 c5 (pre++y::post') ?_ ?_ ?_ h'
  ·have e:zY (pre++y::post')=zY cs:=by rw[hsp];simp[zY,hyb,hya]
   rw[e];exact hm5
  ·intro z hz
   have hin:∀ z,z∈pre\/z∈post'->Ye w0 z/\z.c.l.length<=N+1:=fun z hz=>by
    have hz':z∈cs:=by rw[hsp];rcases hz with hz | hz<;>simp[hz]
    exact⟨(each z hz').1,by have:=(each z hz').2;omega⟩
   simp only[List.mem_append,List.mem_cons]at hz
   rcases hz with hz | rfl | hz
   ·exact hin z (.inl hz)
   ·refine⟨hyo,?_⟩
    have h1:=(each x hxm).2
    rw[hyc]
    split
    ·omega
    ·have:=q11 x.c a p.tk (zo D.d.th.rels e.th)
     omega
   ·exact hin z (.inr hz)
  ·intro r
   rw[q4h,hlk]
   congr 1
   have e:=q1t (y:=y) hnd hyb
   simp only[Option.getD_some]
   rw[<-e,hsp]
   split
   ·rename_i ht'
    rw[hyc,if_pos ht',qyx hnd]
   ·rename_i ht'
    rw[hyc,if_neg ht']
abbrev QY(lb:Nat)(es6:Array MapEntry)(c6:Nat)(cs:List CB)(G:qP):List (Nat × Obj):=(lb,.map es6 c6)::(zv cs++G)
theorem ZR{lb:Nat}{es6:Array MapEntry}{c6:Nat}{cs:List CB}{y:Nat × Obj}(h:y∈G):y∈QY lb es6 c6 cs G:=.tail _ (List.mem_append_right _ h)
theorem qDN{a b:Nat × Obj}{X Y Z G:qP}(h:X.Perm (Y++Z)):(a::b::(X++G)).Perm (Y++(a::b::(Z++G))):=by
 refine(List.Perm.append_left [a,b] (h.append_right G)).trans ?_
 have e1:[a,b]++(Y++Z++G)=([a,b]++Y)++(Z++G):=by simp
 have e2:Y++(a::b::(Z++G))=(Y++[a,b])++(Z++G):=by simp
 rw[e1,e2]
 exact List.perm_append_comm.append_right _
theorem yO(r:Mo.qQ):(qz r).length=11:=rfl
theorem z47:qn P 108=#[.int .u32 0,qj 0,qj 0,.int .u32 0,.bool false,.bool false,qj 0,qj 0,.int .u32 0,.bool false,.bool false]:=kr
def clear(x:CB):CB:={ x with ov:=.slice none 0 0,c:={ x.c with l:=[] },L:=[] }
theorem qrd{x:CB}(h:Ye w0 x):Ye w0 (clear x):=⟨zC.nil 6 122,zr.nil w0,h.last,h.na,by simp[clear]⟩
theorem qmY{es5:Array MapEntry}{c5:Nat}{es6:Array MapEntry}{c6 i:Nat}{cs:List CB}{told:List (Int × Bool)}{out:List Mo.qQ}{ov:Value}{sa:Option Addr}{sc:Nat}{Lo:qP}{d:List Deferred}{n6 n8 n90:Nat}{Y:YT}
  (g2:(n2,Cs [ptr D.db] 25)∈G) (gdb:(D.db,Cs (qU D.d.th D.tob D.tnb++zp D) 37)∈G) (hT:vr D.d.th) (gcb:(D.cb,.map es5 c5)∈G)
  (hLo:zC 11 108 ov out.length (qA out) Lo) (hov:ov=.slice sa out.length sc) (hLG:∀ y∈Lo,y∈G)
  (hm5:MapIs zt es5 c5 (zY cs)) (hm6:MapIs zt es6 c6 (yp Value.bool told)) (h:St w0 w (QY D.lb es6 c6 cs G)) (hi:i<out.length) (each:∀ x∈cs,Ye w0 x)
  {x:CB} (hx:(cs.find? fun x=>x.byte==out[i].byte)=some x)
  (hK:∀ w' es6' c6' pre post',cs=pre++x::post'->MapIs zt es6' c6' (yp Value.bool (put told out[i].byte true))->St w0 w' (QY D.lb es6' c6' (pre++clear x::post') G)->
   Y (ql.mk 201 [(168,(Value.int .i64 (IntKind.wrap .i64 ((i:Int)+1)))),(2,(ptr n2)),(166,(Value.slice sa out.length sc)),(4,(ptr n6)),(5,(ptr n8)),(13,(ptr n90)),(6,(ptr n42)),(167,(Value.int .i64 out.length))] d) w') :
  qgi (Addr.mk n2 0 none) sa out.length sc (Addr.mk n6 0 none) (Addr.mk n8 0 none) (Addr.mk n90 0 none) (Addr.mk n42 0 none) out.length i d w K Y:=by
 rw[qm7]
 have hsl:((qA out).drop (i*11)).take 11=qz out[i]:=yD (f:=qz) (fun x _=>yO x) hi
 obtain⟨g,cc,hg,hld⟩:=QC hLo (w:=w) (i:=i) (fun y hy=>h.has _ _ (ZR (hLG y hy))) hi
 rw[hov]at hg
 obtain⟨hsa,-⟩:sa=some ⟨g,0,none⟩/\sc=cc:=by simpa using hg
 subst hsa
 refine⟨by omega,by omega,hld _ ?_⟩
 rw[hsl,z47]
 refine h.newC fun n296 w2 hn h2=>h2.stA (k:=0) rfl rfl (by simp) (by simpa using vY out[i]) fun w3 h3=>?_
 have h3:St w0 w3 ((n296,Cs (qz out[i]) 108)::QY D.lb es6 c6 cs G):=h3
 have hd:=h3.drew
 have c2:∀ {w':World} {X:qP} {es6 c6},St w0 w' (X++QY D.lb es6 c6 cs G)->w'.cell? (Addr.mk n2 0 none)=some (ptr D.db):=fun h'=>by rw[qv (h'.has n2 _ (List.mem_append_right _ (ZR g2)))];rfl
 have cdb:∀ {w':World} {X:qP} {es6 c6} (j:Nat),St w0 w' (X++QY D.lb es6 c6 cs G)->w'.cell? (Addr.mk D.db (90+j) none)=(zp D)[j]?:=fun j h'=>by
  rw[qv (h'.has D.db _ (List.mem_append_right _ (ZR gdb))),Ze hT]
 refine⟨_,c2 (X:=[_]) hd,some D.lb,by rw[qc,Nat.zero_add];exact cdb (X:=[_]) 3 hd,out[i].byte,by rw[hd.cell (k:=0) rfl];rfl,?_⟩
 obtain⟨es',c',hr,hm'⟩:=hm6.update qvu QU (w:=w3.drew) (b:=D.lb) (hd.get (k:=1) rfl) out[i].byte (.bool true)
 rw[Vk]at hm'
 refine⟨_,hr,?_⟩
 have h4:St w0 (w3.drew.putObj D.lb (.map es' c')) ((n296,Cs (qz out[i]) 108)::QY D.lb es' c' cs G):=hd.put (k:=1) rfl _
 generalize w3.drew.putObj D.lb (.map es' c')=w4 at h4
 rw[qq2]
 have hd4:=h4.drew
 refine⟨_,c2 (X:=[_]) hd4,some D.cb,by rw[qc,Nat.zero_add];exact cdb (X:=[_]) 2 hd4,out[i].byte,by rw[hd4.cell (k:=0) rfl];rfl,_,fun wq hx=>q20 hm5 hx (hd4.has _ _ (.tail _ (ZR gcb))) out[i].byte,?_⟩
 rw[hx]
 obtain⟨hxb,pre,post',hsp⟩:=Yt hx
 have hxo:=each x (List.mem_of_find?_eq_some hx)
 have h5:St w0 w4.drew (cbH x++((n296,Cs (qz out[i]) 108)::(D.lb,.map es' c')::(zv (pre++post')++G))):=by
  rw[hsp]at hd4
  exact hd4.perm (qDN (jp pre post' x))
 show zG (Addr.mk x.addr 0 none) _ _ _
 refine h5.st1 (k:=0) (cs:=yn x) rfl (by simp[yn]) rfl fun w6 h6=>?_
 rw[qoW]
 refine hK w6 es' c' pre post' hsp hm' ?_
 have h6:St w0 w6 ((x.addr,Cs ((yn x).set 0 (.slice none 0 0)) 112)::(x.L++((n296,Cs (qz out[i]) 108)::(D.lb,.map es' c')::(zv (pre++post')++G)))):=h6
 have h7:St w0 w6 (x.L++((x.addr,Cs ((yn x).set 0 (.slice none 0 0)) 112)::(n296,Cs (qz out[i]) 108)::(D.lb,.map es' c')::(zv (pre++post')++G))):=h6.perm List.perm_middle.symm
 have h8:=h7.sub hxo.new
 have h9:St w0 w6 ((n296,Cs (qz out[i]) 108)::QY D.lb es' c' (pre++clear x::post') G):=by
  refine h8.perm (List.Perm.symm ((qDN (jp pre post' (clear x))).trans ?_))
  exact List.Perm.refl _
 exact h9.tail hn
theorem qo8{es5:Array MapEntry}{c5:Nat}{es6:Array MapEntry}{c6:Nat}{cs:List CB}{told:List (Int × Bool)}{out:List Mo.qQ}{ov:Value}{sa:Option Addr}{sc:Nat}{Lo:qP}{d:List Deferred}{n6 n8 n90:Nat}{N:Nat}
  (g2:(n2,Cs [ptr D.db] 25)∈G) (gdb:(D.db,Cs (qU D.d.th D.tob D.tnb++zp D) 37)∈G) (hT:vr D.d.th) (gcb:(D.cb,.map es5 c5)∈G)
  (hLo:zC 11 108 ov out.length (qA out) Lo) (hov:ov=.slice sa out.length sc) (hLG:∀ y∈Lo,y∈G) (hlen:out.length<1000000)
  (hm5:MapIs zt es5 c5 (zY cs)) (hm6:MapIs zt es6 c6 (yp Value.bool told)) (h:St w0 w (QY D.lb es6 c6 cs G)) (each:∀ x∈cs,Ye w0 x/\x.c.l.length<=N)
  (hx:∀ r∈out,(cs.find? fun x=>x.byte==r.byte).isSome=true)
  (hK:∀ w' es6' c6' cs' told',yB out (zI cs) told=(zI cs',told')->MapIs zt es5 c5 (zY cs')->MapIs zt es6' c6' (yp Value.bool told')->(∀ x∈cs',Ye w0 x/\x.c.l.length<=N)->St w0 w' (QY D.lb es6' c6' cs' G)->
   q8D (Addr.mk n6 0 none) (Addr.mk n8 0 none) (Addr.mk n90 0 none) (Addr.mk n2 0 none) (Addr.mk n42 0 none) d w' K) :
  za (qlp K) (ql.mk 201 [(168,(Value.int .i64 0)),(2,(ptr n2)),(166,(Value.slice sa out.length sc)),(4,(ptr n6)),(5,(ptr n8)),(13,(ptr n90)),(6,(ptr n42)),(167,(Value.int .i64 out.length))] d) w:=by
 refine⟨fun m e w=>∃ (i:Nat) (es6':Array MapEntry) (c6':Nat) (cs':List CB) (told':List (Int × Bool)),i<=out.length/\m=out.length-i/\
  e=ql.mk 201 [(168,(Value.int .i64 i)),(2,(ptr n2)),(166,(Value.slice sa out.length sc)),(4,(ptr n6)),(5,(ptr n8)),(13,(ptr n90)),(6,(ptr n42)),(167,(Value.int .i64 out.length))] d/\
  yB out (zI cs) told=yB (out.drop i) (zI cs') told'/\MapIs zt es5 c5 (zY cs')/\MapIs zt es6' c6' (yp Value.bool told')/\(∀ x∈cs',Ye w0 x/\x.c.l.length<=N)/\cs'.map (·.byte)=cs.map (·.byte)/\St w0 w (QY D.lb es6' c6' cs' G),
  ⟨out.length,0,es6,c6,cs,told,by omega,rfl,rfl,rfl,hm5,hm6,each,rfl,h⟩,?_⟩
 rintro m e w ⟨i,es6',c6',cs',told',hi,rfl,rfl,htell,hm5',hm6',each',hkeys,hw⟩
 show qjh ..
 rw[qgC,qg]
 constructor
 ·intro hlt
  have hlt:i<out.length:=by simpa using hlt
  have hfind:∃ x,(cs'.find? fun x=>x.byte==out[i].byte)=some x:=by
   have h1:=hx out[i] (List.getElem_mem hlt)
   cases hf:cs'.find? fun x=>x.byte==out[i].byte with
   | some x=>exact⟨x,rfl⟩
   | none=>
    obtain⟨y,hy⟩:=Option.isSome_iff_exists.1 h1
    have hyb:out[i].byte∈cs.map (·.byte):=List.mem_map.2 ⟨y,List.mem_of_find?_eq_some hy,by simpa using List.find?_some hy⟩
    rw[<-hkeys]at hyb
    obtain⟨z,hz,hzb⟩:=List.mem_map.1 hyb
    have:=List.find?_eq_none.1 hf z hz
    simp[hzb]at this
  obtain⟨x,hxf⟩:=hfind
  refine qmY (es5:=es5) (c5:=c5) g2 gdb hT gcb hLo hov hLG hm5' hm6' hw hlt (fun x hx=>(each' x hx).1) hxf fun w' es6'' c6'' pre post' hsp hm6'' h'=>?_
  refine⟨out.length-(i+1),by omega,i+1,es6'',c6'',pre++clear x::post',put told' out[i].byte true,by omega,rfl,?_,?_,?_,hm6'',?_,?_,h'⟩
  ·rw[qk om om];rfl
  ·obtain⟨hxb,-,-,-⟩:=Yt hxf
   have hnd:((pre++x::post').map (·.byte)).Nodup:=by have:=hm5'.nodup;rwa [q4O,hsp]at this
   rw[htell,List.drop_eq_getElem_cons hlt,yB,<-q1t (y:=clear x) hnd rfl,hxb,<-hsp]
   have hl:Mo.qr (zI cs') out[i].byte=some x.c:=by rw[q6L,hxf];rfl
   rw[hl]
   rfl
  ·have e:zY (pre++clear x::post')=zY cs':=by rw[hsp];simp[zY,clear]
   rw[e];exact hm5'
  ·intro z hz
   have hin:∀ z,z∈pre\/z∈post'->Ye w0 z/\z.c.l.length<=N:=fun z hz=>each' z (by rw[hsp];rcases hz with hz | hz<;>simp[hz])
   simp only[List.mem_append,List.mem_cons]at hz
   rcases hz with hz | rfl | hz
   ·exact hin z (.inl hz)
   ·exact⟨qrd (each' x (List.mem_of_find?_eq_some hxf)).1,by simp[clear]⟩
   ·exact hin z (.inr hz)
  ·rw[<-hkeys,hsp];simp[clear]
 ·intro hge
  have:i=out.length:=by simp at hge;omega
  subst this
  rw[List.drop_length]at htell
  exact hK w es6' c6' cs' told' htell hm5' hm6' each' hw
end Go.Fx.Tryz
namespace Go.Fx.Mo
def q1S(p q:Pl):Prop:=q.fork=p.fork/\q.ends=p.ends
theorem q1S.refl(p:Pl):q1S p p:=⟨rfl,rfl⟩
theorem q1S.trans{p q r:Pl}(h1:q1S p q)(h2:q1S q r):q1S p r:=⟨h2.1.trans h1.1,h2.2.trans h1.2⟩
theorem ZM(e:Ev)(p:Pl)(o:vH):q1S p (tick e p o):=⟨rfl,rfl⟩
theorem je(T:Th)(p:Pl)(x:Ob):q1S p (number T p x).2:=by
 unfold number
 split
 ·exact .refl p
 ·split
  ·exact .refl p
  ·exact⟨rfl,rfl⟩
theorem Yq(T:Th)(p:Pl)(x:Ob):q1S p (acquire T p x):=⟨rfl,rfl⟩
theorem YF(T:Th)(p:Pl)(x:Ob):q1S p (release T p x):=⟨rfl,rfl⟩
theorem q76(T:Th)(e:Ev)(x:Ob)(p:Pl):q1S p (Ja T e x p):=
 (((je T p x).trans (Yq T _ x)).trans (ZM e _ _)).trans (YF T _ x)
theorem Qx(T:Th)(e:Ev):∀ (l:List Int) (x:Ob) (p:Pl),q1S p (atomicL T e l x p)
 | [],_,p=>.refl p
 | a::r,last,p=>by
  unfold atomicL
  simp only
  split
  ·exact Qx T e r last p
  ·exact(q76 T e _ p).trans (Qx T e r _ _)
theorem qxl{T:Th}{e:Ev}{p:Pl}(hf:p.fork<8)(he:p.ends<8):(act T e p).fork<8/\(act T e p).ends<8:=by
 have key:∀ {q},q1S p q->q.fork<8/\q.ends<8:=fun h=>by rw[h.1,h.2];exact⟨hf,he⟩
 unfold act
 split
 ·exact key (Qx T e _ _ p)
 ·split
  ·unfold jk
   split
   ·exact⟨hf,he⟩
   ·rename_i h
    simp only[Bool.or_eq_true,not_or]at h
    have:zx e=true:=by simpa using h.1
    simp[zx]at this
    exact⟨this.2,he⟩
  ·split
   ·unfold join
    split
    ·exact⟨hf,he⟩
    ·rename_i h
     simp only[Bool.or_eq_true,not_or]at h
     have:zx e=true:=by simpa using h.1.1.1
     simp[zx]at this
     exact⟨hf,this.2⟩
   ·split
    ·unfold qzK
     exact key (((je T p _).trans (Yq T _ _)).trans (ZM e _ _))
    ·split
     ·unfold q7p
      exact key (((je T p _).trans (ZM e _ _)).trans (YF T _ _))
     ·exact⟨hf,he⟩
theorem QK{T:Th}{e:Ev}{q:Pl}(h:plan T e=some q):q.fork<8/\q.ends<8:=by
 unfold plan at h
 split at h
 ·cases h
 ·split at h
  ·cases h
  ·cases h;exact qxl (by simp[yL]) (by simp[yL])
end Go.Fx.Mo
namespace Go.Fx
open Go
theorem qK{l l':qP}(h:∀ c:Nat × Obj->Nat,(l.map c).sum=(l'.map c).sum):l.Perm l':=by
 classical
 rw[List.perm_iff_count]
 intro a
 have e:∀ l:List (Nat × Obj),l.count a=(l.map fun y=>if y==a then 1 else 0).sum:=by
  intro l
  induction l with
  | nil=>rfl
  | cons x r ih=>rw[List.count_cons,List.map_cons,List.sum_cons,ih];omega
 rw[e,e]
 exact h _
namespace Tryz
open Go Go.Fx Go.Fx.Mo
open Go.Proofs
variable {w0 w:World} {H:qP} {K:KT}
set_option maxRecDepth 20000
variable {D:DB} {n2 n72 n42 pb n4 n6 n8 n90:Nat} {e:Ev}
abbrev qy:Value:=.slice none 0 0
theorem qyL(v200 v199 v198 v197 v196 v195 v194 v193:Value)(a4 a5:Addr)(r:List (Nat × Value))(d0:List Deferred)(w:World)(K:KT) :
  jo P rs7 (ql.mk 201 ((200,v200)::(199,v199)::(198,v198)::(197,v197)::(196,v196)::(195,v195)::(194,v194)::(193,v193)::(4,(Value.pointer (some a4)))::(5,(Value.pointer (some a5)))::r) d0) K [] w =
   (∃ (sa:Option Addr) (sl sc:Nat),w.cell? a4=some (Value.slice sa sl sc)/\∃ x:Int,w.cell? a5=some (Value.int .i64 x)/\K (Value.tuple [(Value.slice sa sl sc),(Value.int .i64 x)].toArray) w):=kr
theorem qvc(v0 v1 v2 v3 v4 v5 v6 v7 v8 v9:Value)(a4 a5:Addr)(r:List (Nat × Value))(d0:List Deferred)(w:World)(K:KT) :
  jo P rs7 (ql.mk 201 ((122,v0)::(122,v1)::(121,v2)::(120,v3)::(119,v4)::(118,v5)::(117,v6)::(116,v7)::(115,v8)::(114,v9)::(4,(Value.pointer (some a4)))::(5,(Value.pointer (some a5)))::r) d0) K [] w =
   (∃ (sa:Option Addr) (sl sc:Nat),w.cell? a4=some (Value.slice sa sl sc)/\∃ x:Int,w.cell? a5=some (Value.int .i64 x)/\K (Value.tuple [(Value.slice sa sl sc),(Value.int .i64 x)].toArray) w):=kr
theorem qmf(a4 a5:Addr)(r:List (Nat × Value))(d0:List Deferred)(w:World)(K:KT) :
  jo P rs7 (ql.mk 201 ((5,(Value.pointer (some a5)))::(4,(Value.pointer (some a4)))::r) d0) K [] w =
   (∃ (sa:Option Addr) (sl sc:Nat),w.cell? a4=some (Value.slice sa sl sc)/\∃ x:Int,w.cell? a5=some (Value.int .i64 x)/\K (Value.tuple [(Value.slice sa sl sc),(Value.int .i64 x)].toArray) w):=kr
abbrev planB(D:DB)(e:Ev)(pb ob nb:Nat):PB:=⟨pb,ob,nb,D.db,D.tob,D.tnb,106,37,e,D.d.th,zp D,D.es3,D.c3,D.es4,D.c4⟩
theorem qfv{T:Th}(hT:vr T){tob tnb:Nat}{D D':DB}(x:Int)(h:zp D'=[.bool true,qj x,.map (some D.cb),.map (some D.lb)]):(qU T tob tnb++zp D).set 91 (qj x)=qU T tob tnb++zp D':=by
 have hl:=yu (ob:=tob) (nb:=tnb) hT
 rw[List.set_append_right _ _ om,hl,h]
 rfl
def quv(D:DB)(T:Th)(es3:Array MapEntry)(c3:Nat)(es4:Array MapEntry)(c4:Nat)(es5:Array MapEntry)(c5:Nat)(es6:Array MapEntry)(c6:Nat)(cs:List CB)(told:List (Int × Bool)):DB:=
 ⟨D.db,D.tob,D.tnb,D.cb,D.lb,es3,c3,es4,c4,es5,c5,es6,c6,{ th:=T,many:=yk (D.d.many+1),cells:=zI cs,told },cs⟩
theorem qse{q:Pl}{ob nb l1 l2:Nat}{sa:Option Addr}{sl sc:Nat}{Z J:qP}
  (h:PS w0 w (planB D e pb ob nb) ((l2,.deferred (some []))::(l1,.deferred (some []))::(n6,Cs [qy] 39)::(n8,Cs [qj 0] 40)::(n90,Cs [.slice sa sl sc] 39)::(n2,Cs [ptr D.db] 25)::(n42,Cs [ptr pb] 91)::(J++Z)) q)
  (hB:yv (planB D e pb ob nb)) (hf:q.fork<8/\q.ends<8) (hnew:∀ x∈[l2,l1,n6,n8,n90,n2,n42,pb,ob,nb],w0.heap.size<=x) (hJ:zr w0 J)
  (hK:∀ w' es3 c3 es4 c4,vr (qG D.d.th e q)->MapIs ym es3 c3 (yp Zj (qG D.d.th e q).objs)->MapIs ym es4 c4 (yp ZT (qG D.d.th e q).names)->
   St w0 w' ((D.db,Cs (qU (qG D.d.th e q) D.tob D.tnb++[.bool true,qj (yk (D.d.many+1)),.map (some D.cb),.map (some D.lb)]) 37)::(D.tob,.map es3 c3)::(D.tnb,.map es4 c4)::Z)->K (.tuple [.slice sa sl sc,qj 0].toArray) w') :
  q8D (Addr.mk n6 0 none) (Addr.mk n8 0 none) (Addr.mk n90 0 none) (Addr.mk n2 0 none) (Addr.mk n42 0 none) [mk l2,mk l1] w K:=by
 rw[qmk]
 have hd:=h.drew
 refine⟨some (Addr.mk D.db 0 none),by rw[qv (hd.get (k:=5) rfl)];rfl,some (Addr.mk pb 0 none),by rw[qv (hd.get (k:=6) rfl)];rfl,?_⟩
 refine q5m (B:=planB D e pb ob nb) hd hB hf.1 hf.2 fun w1 es3 c3 es4 c4 h1 hB1=>⟨rfl,?_⟩
 have hs:=h1.forget (hnew pb (by simp)) (hnew ob (by simp)) (hnew nb (by simp))
 have hs:St w0 w1 ((D.db,Cs (qU (qG D.d.th e q) D.tob D.tnb++zp D) 37)::(D.tob,.map es3 c3)::(D.tnb,.map es4 c4)::(l2,.deferred (some []))::(l1,.deferred (some []))::(n6,Cs [qy] 39)::(n8,Cs [qj 0] 40)::(n90,Cs [.slice sa sl sc] 39)::(n2,Cs [ptr D.db] 25)::(n42,Cs [ptr pb] 91)::(J++Z)):=hs
 have hT:=hB1.th
 have hT:vr (qG D.d.th e q):=hT
 rw[qoe]
 have hlen:=yu (ob:=D.tob) (nb:=D.tnb) hT
 refine⟨some (Addr.mk D.db 0 none),by rw[hs.cell (k:=8) rfl];rfl,D.d.many,?_,?_⟩
 ·rw[qc,Nat.zero_add,hs.cell (k:=0) rfl,List.getElem?_append_right om,hlen];rfl
 show zG ((Addr.mk D.db 0 none).add 91) _ _ _
 rw[qc,Nat.zero_add]
 refine hs.st1 (k:=0) rfl (by rw[List.length_append,hlen];simp[zp]) rfl fun w2 h2=>?_
 rw[qfv (D:=D) (D':=quv D (qG D.d.th e q) es3 c3 es4 c4 D.es5 D.c5 D.es6 D.c6 D.cs D.d.told) hT (IntKind.wrap .i64 (D.d.many+1)) rfl]at h2
 refine⟨sa,sl,sc,by rw[h2.cell (k:=7) rfl];rfl,?_⟩
 refine h2.st1 (k:=5) rfl (by simp) rfl fun w3 h3=>h3.st1 (k:=6) rfl (by simp) rfl fun w4 h4=>?_
 refine⟨h4.get (k:=3) rfl,?_⟩
 have h5:=h4.put (k:=3) rfl (.deferred none)
 refine⟨h5.get (k:=4) rfl,?_⟩
 have h6:=h5.put (k:=4) rfl (.deferred none)
 rw[qyL]
 refine⟨sa,sl,sc,by rw[h6.cell (k:=5) rfl];rfl,0,by rw[h6.cell (k:=6) rfl];rfl,?_⟩
 refine hK _ es3 c3 es4 c4 hT hB1.m3 hB1.m4 ?_
 refine St.sub (L:=(l2,.deferred none)::(l1,.deferred none)::(n6,Cs [.slice sa sl sc] 39)::(n8,Cs [qj 0] 40)::(n90,Cs [.slice sa sl sc] 39)::(n2,Cs [ptr D.db] 25)::(n42,Cs [ptr pb] 91)::J) (h6.perm ?_) ?_
 ·refine qK fun c=>?_
  simp only[List.map_append,List.map_cons,List.sum_append,List.sum_cons,List.set_cons_succ,List.set_cons_zero]
  have:zp (quv D (qG D.d.th e q) es3 c3 es4 c4 D.es5 D.c5 D.es6 D.c6 D.cs D.d.told)=[.bool true,qj (yk (D.d.many+1)),.map (some D.cb),.map (some D.lb)]:=rfl
  rw[this]
  simp only[qj,Cs]
  omega
 ·intro x hx
  simp only[List.mem_cons]at hx
  rcases hx with rfl | rfl | rfl | rfl | rfl | rfl | rfl | hx
  ·exact hnew l2 (by simp)
  ·exact hnew l1 (by simp)
  ·exact hnew n6 (by simp)
  ·exact hnew n8 (by simp)
  ·exact hnew n90 (by simp)
  ·exact hnew n2 (by simp)
  ·exact hnew n42 (by simp)
  ·exact hJ x hx
end Tryz
end Go.Fx
namespace Go.Fx.Tryz
open Go Go.Fx Go.Fx.Mo
open Go.Proofs
variable {w0 w:World} {H:qP} {K:KT}
set_option maxRecDepth 20000
variable {D:DB} {n2 n72 n42 pb ob nb n4 n6 n8 n90 l1 l2:Nat} {e:Ev} {q:Pl} {a:Mo.Qk} {F R0 Lo J:qP} {out:List Mo.qQ} {ov:Value}
abbrev dfr:Obj:=.deferred (some [])
theorem jb{p:Option Addr}{l c:Nat}(wq:World):(Builtin.len_ #[39] 3 [Value.slice p l c].toArray).run P wq=.ok (.int .i64 l) wq:=qZ p l c Tryz.underlying39 3
structure Fr (w0:World) (D:DB) (e:Ev) (q:Pl) (pb ob nb:Nat) (F:qP):Prop where
 plan:plan D.d.th e=some q
 pl:∃ ov ob nb,(pb,Cs (qM D.db e ov ob nb q) 106)∈F
 db:(D.db,Cs (qU D.d.th D.tob D.tnb++zp D) 37)∈F
 own:q.own.length=8
 back:∀ w' R',St w0 w' (R'++F)->PS w0 w' (planB D e pb ob nb) R' q
 npb:w0.heap.size<=pb
 nob:w0.heap.size<=ob
 nnb:w0.heap.size<=nb
theorem Fr.planB{w0:World}(hF:Fr w0 D e q pb ob nb F)(hD:jz w0 D):yv (planB D e pb ob nb):=⟨hD.th,hD.m3,hD.m4,by obtain⟨_,_,t1,t2,_⟩:=QD (zO hF.plan);exact⟨t1,t2⟩⟩
def G3(D:DB)(es5:Array MapEntry)(c5:Nat)(l1 l2 n6 n8 n90 n2 n42 pb:Nat)(ov:Value)(J Lo R0 F:qP):List (Nat × Obj):=
 (D.cb,.map es5 c5)::(l2,dfr)::(l1,dfr)::(n6,Cs [qy] 39)::(n8,Cs [qj 0] 40)::(n90,Cs [ov] 39)::(n2,Cs [ptr D.db] 25)::(n42,Cs [ptr pb] 91)::(J++(Lo++(R0++F)))
theorem qz2{es5:Array MapEntry}{c5 N:Nat}{cs:List CB}(hF:Fr w0 D e q pb ob nb F)(hD:jz w0 D)(hnew:∀ x∈[l2,l1,n6,n8,n90,n2,n42],w0.heap.size<=x)(hJ:zr w0 J)
  (hLo:zC 11 108 ov out.length (qA out) Lo) (hlen:out.length<1000000) (hm5:MapIs zt es5 c5 (zY cs)) (each:∀ x∈cs,Ye w0 x/\x.c.l.length<=N) (hN:(N:Int)<=65536*(D.d.many+1)) (hmany:D.d.many<20000)
  (hx:∀ r∈out,(cs.find? fun x=>x.byte==r.byte).isSome=true)
  (h:St w0 w (QY D.lb D.es6 D.c6 cs (G3 D es5 c5 l1 l2 n6 n8 n90 n2 n42 pb ov J Lo R0 F)))
  (hK:∀ w' D',D'.d={ th:=qG D.d.th e q,many:=yk (D.d.many+1),cells:=(yB out (zI cs) D.d.told).1,told:=(yB out (zI cs) D.d.told).2 }->jz w0 D'->D'.db=D.db->St w0 w' (zg D'++(Lo++R0))->K (.tuple [ov,qj 0].toArray) w') :
  qfd (Addr.mk n2 0 none) (Addr.mk n6 0 none) (Addr.mk n8 0 none) (Addr.mk n90 0 none) (Addr.mk n42 0 none) [mk l2,mk l1] w K:=by
 rw[qoU]
 obtain⟨sa,sc,hov⟩:=hLo.form
 have g90:(n90,Cs [ov] 39)∈G3 D es5 c5 l1 l2 n6 n8 n90 n2 n42 pb ov J Lo R0 F:=by simp[G3]
 refine⟨sa,out.length,sc,by rw[qv (h.has n90 _ (ZR g90)),hov];rfl,out.length,fun wq _=>jb wq,?_⟩
 have hmem:∀ y,y∈Lo\/y∈F->y∈G3 D es5 c5 l1 l2 n6 n8 n90 n2 n42 pb ov J Lo R0 F:=fun y hy=>by rcases hy with hy | hy<;>simp[G3,hy]
 refine qo8 (G:=G3 D es5 c5 l1 l2 n6 n8 n90 n2 n42 pb ov J Lo R0 F) (by simp[G3]) (hmem _ (.inr hF.db)) hD.th (by simp[G3]) hLo hov (fun y hy=>hmem y (.inl hy)) hlen hm5 hD.m6 h each hx
  fun w1 es6' c6' cs' told' htell hm5' hm6' each' h1=>?_
 have hp:PS w0 w1 (planB D e pb ob nb) ((l2,dfr)::(l1,dfr)::(n6,Cs [qy] 39)::(n8,Cs [qj 0] 40)::(n90,Cs [.slice sa out.length sc] 39)::(n2,Cs [ptr D.db] 25)::(n42,Cs [ptr pb] 91)::
   (J++((D.cb,.map es5 c5)::(D.lb,.map es6' c6')::(zv cs'++(Lo++R0))))) q:=by
  refine hF.back w1 _ (h1.perm (qK fun c=>?_))
  simp only[QY,G3,hov,List.map_append,List.map_cons,List.sum_append,List.sum_cons]
  omega
 refine qse (Z:=(D.cb,.map es5 c5)::(D.lb,.map es6' c6')::(zv cs'++(Lo++R0))) hp (hF.planB hD) (QK hF.plan) ?_ hJ fun w2 es3 c3 es4 c4 hT hm3 hm4 h2=>?_
 ·intro x hx
  simp only[List.mem_cons,List.not_mem_nil,or_false]at hx
  have hn:∀ y,y∈[l2,l1,n6,n8,n90,n2,n42]->w0.heap.size<=y:=hnew
  rcases hx with rfl | rfl | rfl | rfl | rfl | rfl | rfl | rfl | rfl | rfl
  ·exact hn _ (by simp)
  ·exact hn _ (by simp)
  ·exact hn _ (by simp)
  ·exact hn _ (by simp)
  ·exact hn _ (by simp)
  ·exact hn _ (by simp)
  ·exact hn _ (by simp)
  ·exact hF.npb
  ·exact hF.nob
  ·exact hF.nnb
 ·rw[hov]at hK
  have hmw:yk (D.d.many+1)=D.d.many+1:=zV (by have:=hD.many;omega) om
  refine hK w2 (quv D (qG D.d.th e q) es3 c3 es4 c4 es5 c5 es6' c6' cs' told') ?_ ⟨hT,hm3,hm4,hm5',hm6',rfl,fun x hx=>⟨(each' x hx).1,?_⟩,?_,hD.new⟩ rfl h2
  ·rw[htell];rfl
  ·show(x.c.l.length:Int)<=65536*yk (D.d.many+1)
   have:=(each' x hx).2
   rw[hmw];omega
  ·show 0<=yk (D.d.many+1)/\yk (D.d.many+1)<=20000
   have:=hD.many
   rw[hmw];omega
theorem ZU{a:Mo.Qk}{tk rel:Int}{ts:List (Int × Bool)}{x:Int}:∀ (bs:List Int) (cs:List (Int × vl)),Mo.qr cs x≠none->Mo.qr (yy a tk rel ts bs cs) x≠none
 | [],_,h=>h
 | b::r,cs,h=>by
  rw[q4h]
  refine ZU r _ ?_
  have hput:∀ c,Mo.qr (put cs b c) x≠none:=fun c=>by
   rw[vD]
   split
   ·simp
   ·exact h
  split
  ·split
   ·exact hput _
   ·exact h
  ·exact hput _
def G13(D:DB)(l1 n6 n8 n90 n2 n42 pb n72 n4:Nat)(a:Mo.Qk)(e:Ev)(ov:Value)(J Lo R0 F:qP):List (Nat × Obj):=
 (D.lb,.map D.es6 D.c6)::(l1,dfr)::(n6,Cs [qy] 39)::(n8,Cs [qj 0] 40)::(n90,Cs [ov] 39)::(n2,Cs [ptr D.db] 25)::(n42,Cs [ptr pb] 91)::(n72,Cs (qO a) 97)::(n4,Cs (qE e) 45)::(J++(Lo++(R0++F)))
theorem qbP(h:St w0 w H)(a n:Int)
  (hK:∀ b1 b2 w',w0.heap.size<=b1->w0.heap.size<=b2->St w0 w' ((b1,Cs [qj n] 3)::(b2,Cs [.int .u32 a] 43)::H)->K (.func (.func 71) #[] #[.pointer (some (Addr.mk b1 0 none)),.pointer (some (Addr.mk b2 0 none))]) w') :
  qa P 37 [.int .u32 a,.int .i64 n] w K:=by
 refine qyK _ _ _ _ ?_
 rw[qxL]
 exact h.newC fun b2 w1 h2 h1'=>h1'.newC fun b1 w2 h1 h2'=>hK b1 b2 w2 h1 h2 h2'
theorem JV(a n:Int){i:Nat}(hi:i<n.toNat):(Mo.bytes a n).drop i=jE (a+jE (i:Int))::(Mo.bytes a n).drop (i+1):=by
 have hl:i<(Mo.bytes a n).length:=by rw[QI];exact hi
 rw[List.drop_eq_getElem_cons hl,q6t]
theorem qzx(D:DB)(es5:Array MapEntry)(c5:Nat)(l1 l2 n6 n8 n90 n2 n42 pb n72 n4 c1 c2:Nat)(a:Mo.Qk)(e:Ev)(ov:Value)(J Lo R0 F:qP)(cs:List CB)(o1 o2:Obj) :
  ((l2,dfr)::(D.cb,.map es5 c5)::(zv cs++((c1,o1)::(c2,o2)::G13 D l1 n6 n8 n90 n2 n42 pb n72 n4 a e ov J Lo R0 F))).Perm
    (QY D.lb D.es6 D.c6 cs (G3 D es5 c5 l1 l2 n6 n8 n90 n2 n42 pb ov ((c1,o1)::(c2,o2)::(n72,Cs (qO a) 97)::(n4,Cs (qE e) 45)::J) Lo R0 F)):=by
 refine qK fun c=>?_
 simp only[QY,G3,G13,List.map_append,List.map_cons,List.sum_append,List.sum_cons,List.cons_append]
 omega
theorem qxZ(hF:Fr w0 D e q pb ob nb F)(hD:jz w0 D)(hnew:∀ x∈[l1,n6,n8,n90,n2,n42,n72,n4],w0.heap.size<=x)(hJ:zr w0 J)(ha:a.th=e.th){n:Int}(hn:n<=65536)
  (hLo:zC 11 108 ov out.length (qA out) Lo) (hlen:out.length<1000000) (hmany:D.d.many<20000) (hx:∀ r∈out,Mo.qr D.d.cells r.byte≠none)
  (h:St w0 w ((D.cb,.map D.es5 D.c5)::(zv D.cs++G13 D l1 n6 n8 n90 n2 n42 pb n72 n4 a e ov J Lo R0 F)))
  (hK:∀ w' D' cs,D'.d={ th:=qG D.d.th e q,many:=yk (D.d.many+1),cells:=(yB out cs D.d.told).1,told:=(yB out cs D.d.told).2 }->cs=yy a q.tk (zo D.d.th.rels e.th) D.d.told (Mo.bytes e.a n) D.d.cells->
   jz w0 D'->D'.db=D.db->St w0 w' (zg D'++(Lo++R0))->K (.tuple [ov,qj 0].toArray) w') :
  qe4 (Addr.mk n4 0 none) (Addr.mk n2 0 none) (Addr.mk n42 0 none) (Addr.mk n72 0 none) (Addr.mk n6 0 none) (Addr.mk n8 0 none) (Addr.mk n90 0 none) n [mk l1] w K:=by
 rw[qmo]
 have ht:0<=e.th/\e.th<8:=(hF.planB hD).lt
 refine⟨e.a,?_,?_⟩
 ·rw[qc,qv (h.has n4 (Cs (qE e) 45) (.tail _ (List.mem_append_right _ (by simp[G13]))))];rfl
 refine qbP h e.a n fun c1 c2 w2 hc1 hc2 h2=>⟨_,rfl,?_⟩
 generalize hG:G13 D l1 n6 n8 n90 n2 n42 pb n72 n4 a e ov J Lo R0 F=G at h h2
 have gm:∀ y,y∈G13 D l1 n6 n8 n90 n2 n42 pb n72 n4 a e ov J Lo R0 F->y∈G:=fun y hy=>hG▸hy
 have gF:∀ y,y∈F->y∈G:=fun y hy=>gm y (by simp[G13,hy])
 let G':List (Nat × Obj):=(c1,Cs [qj n] 3)::(c2,Cs [.int .u32 e.a] 43)::G
 have h3:St w0 w2 ((D.cb,.map D.es5 D.c5)::(zv D.cs++G')):=by
  refine h2.perm (qK fun c=>?_)
  simp only[G',List.map_append,List.map_cons,List.sum_append,List.sum_cons]
  omega
 have hGF:GF G' D n2 n72 n42 pb a e q:=by
  obtain⟨o1,o2,o3,hpl⟩:=hF.pl
  exact⟨.tail _ (.tail _ (gm _ (by simp[G13]))),.tail _ (.tail _ (gm _ (by simp[G13]))),.tail _ (.tail _ (gm _ (by simp[G13]))),.tail _ (.tail _ (gF _ hF.db)),⟨o1,o2,o3,106,.tail _ (.tail _ (gF _ hpl))⟩,hF.own⟩
 let N:Nat:=65536*D.d.many.toNat
 have hmany0:=hD.many
 let I:Nat->List (Nat × Obj)->Prop:=fun i H'=>∃ es5 c5 cs,MapIs zt es5 c5 (zY cs)/\(∀ x∈cs,Ye w0 x/\x.c.l.length<=N+i)/\
  yy a q.tk (zo D.d.th.rels e.th) D.d.told (Mo.bytes e.a n) D.d.cells=yy a q.tk (zo D.d.th.rels e.th) D.d.told ((Mo.bytes e.a n).drop i) (zI cs)/\H'=(D.cb,.map es5 c5)::(zv cs++G')
 refine VD (b1:=c1) (b2:=c2) (n:=n) (at_:=e.a) (t1:=3) (t2:=43) h3 (by simp[G']) om I (fun _ _=>False) ⟨D.es5,D.c5,D.cs,hD.m5,fun x hx=>⟨(hD.each x hx).1,by have:=(hD.each x hx).2;show _<=65536*D.d.many.toNat+0;omega⟩,by rw[hD.cells];rfl,rfl⟩ ?_ ?_ ?_ ?_
 ·rintro i H' ⟨es5,c5,cs,_,_,_,rfl⟩
  simp[G']
 ·rintro l l' Rr post i W H' hi ⟨es5,c5,cs,hm5,each,hkeep,rfl⟩ hs hl hl' hp _
  rw[qhz]
  refine⟨rfl,?_⟩
  have hN:N+i<1900000000:=by show 65536*D.d.many.toNat+i<_;omega
  refine qg4 (G:=G') (N:=N+i) hGF hD.th hD.m6 (.tail _ (.tail _ (gm _ (by simp[G13])))) (.tail _ (.tail _ (gm _ (by simp[G13])))) ht ha n6 n8 n90 hm5 each hN _ hs fun w' es5' c5' cs' hm5' each' hk' h'=>?_
  refine hp w' ((D.cb,.map es5' c5')::(zv cs'++G')) ⟨es5',c5',cs',hm5',each',?_,rfl⟩ h'
  rw[hkeep,JV _ _ om]
  exact hk' _
 ·rintro W H' l' hl' ⟨es5,c5,cs,hm5,each,hkeep,rfl⟩ hs
  show qkz (Addr.mk n4 0 none) (Addr.mk n2 0 none) (Addr.mk n42 0 none) (Addr.mk n72 0 none) (Addr.mk n6 0 none) (Addr.mk n8 0 none) (Addr.mk n90 0 none) [mk l',mk l1] W K
  rw[qeo]
  have hdrop:(Mo.bytes e.a n).drop n.toNat=[]:=List.drop_eq_nil_of_le (by rw[QI];exact Nat.le_refl _)
  rw[hdrop]at hkeep
  have hkeep:yy a q.tk (zo D.d.th.rels e.th) D.d.told (Mo.bytes e.a n) D.d.cells=zI cs:=hkeep
  refine qz2 (R0:=R0) (J:=(c1,Cs [qj n] 3)::(c2,Cs [.int .u32 e.a] 43)::(n72,Cs (qO a) 97)::(n4,Cs (qE e) 45)::J) (N:=N+n.toNat) (cs:=cs) (es5:=es5) (c5:=c5) hF hD ?_ ?_ hLo hlen hm5 each ?_ hmany ?_ ?_ ?_
  ·intro x hx
   simp only[List.mem_cons,List.not_mem_nil,or_false]at hx
   rcases hx with rfl | rfl | rfl | rfl | rfl | rfl | rfl
   ·exact hl'
   all_goals exact hnew _ (by simp)
  ·intro x hx
   simp only[List.mem_cons]at hx
   rcases hx with rfl | rfl | rfl | rfl | hx
   ·exact hc1
   ·exact hc2
   ·exact hnew n72 (by simp)
   ·exact hnew n4 (by simp)
   ·exact hJ x hx
  ·show((65536*D.d.many.toNat+n.toNat:Nat):Int)<=_
   omega
  ·intro r hr
   have h1:=ZU (a:=a) (tk:=q.tk) (rel:=zo D.d.th.rels e.th) (ts:=D.d.told) (Mo.bytes e.a n) _ (hx r hr)
   rw[hkeep,q6L]at h1
   cases hf:cs.find? fun x=>x.byte==r.byte with
   | none=>rw[hf]at h1;exact absurd rfl h1
   | some y=>rfl
  ·have hs':St w0 W ((l',dfr)::(D.cb,.map es5 c5)::(zv cs++((c1,Cs [qj n] 3)::(c2,Cs [.int .u32 e.a] 43)::G))):=hs
   rw[<-hG]at hs'
   exact hs'.perm (qzx D es5 c5 l1 l' n6 n8 n90 n2 n42 pb n72 n4 c1 c2 a e ov J Lo R0 F cs _ _)
  ·intro w' D' h1 h2 h3 h4
   exact hK w' D' (zI cs) h1 hkeep.symm h2 h3 h4
 ·rintro c W H' l' _ hJ
  exact hJ.elim
end Go.Fx.Tryz
namespace Go.Fx.Tryz
open Go Go.Fx Go.Fx.Mo
open Go.Proofs
variable {w0 w:World} {H:qP} {K:KT}
set_option maxRecDepth 20000
variable {D:DB} {n2 n72 n42 pb ob nb n4 n6 n8 n90 n92 l1 l2:Nat} {e:Ev} {q:Pl} {a:Mo.Qk} {F R0 Lo J:qP} {out:List Mo.qQ} {ov:Value}
theorem q6R(hF:Fr w0 D e q pb ob nb F){X:qP}(h:St w0 w (X++((D.cb,.map D.es5 D.c5)::(D.lb,.map D.es6 D.c6)::(zv D.cs++(R0++F)))))(hX:zr w0 X):St w0 w (zg D++R0):=by
 have hp:=hF.back w (X++((D.cb,.map D.es5 D.c5)::(D.lb,.map D.es6 D.c6)::(zv D.cs++R0))) (h.perm (qK fun c=>by
  simp only[List.map_append,List.map_cons,List.sum_append,List.sum_cons];omega))
 have hs:=hp.forget hF.npb hF.nob hF.nnb
 refine St.sub (L:=X) (hs.perm (qK fun c=>?_)) hX
 simp only[zg,List.map_append,List.map_cons,List.sum_append,List.sum_cons]
 omega
def G6(D:DB)(n72 n42 n4 n2 pb:Nat)(a:Mo.Qk)(e:Ev)(R0 F:qP):List (Nat × Obj):=
 (n72,Cs (qO a) 97)::(n42,Cs [ptr pb] 91)::(n4,Cs (qE e) 45)::(n2,Cs [ptr D.db] 25)::(D.cb,.map D.es5 D.c5)::(D.lb,.map D.es6 D.c6)::(zv D.cs++(R0++F))
theorem qAQ(D:DB)(n72 n42 n4 n2 pb l1 n6 n8 n92 n90 b1 b2:Nat)(a:Mo.Qk)(e:Ev)(Lo R0 F:qP)(ov:Value)(o1 o2 o3:Obj) :
  ((l1,dfr)::(n6,Cs [qy] 39)::(n8,Cs [qj 0] 40)::(n92,o1)::(n90,Cs [ov] 39)::(Lo++((b1,o2)::(b2,o3)::G6 D n72 n42 n4 n2 pb a e R0 F))).Perm
    ((D.cb,.map D.es5 D.c5)::(zv D.cs++G13 D l1 n6 n8 n90 n2 n42 pb n72 n4 a e ov [(n92,o1),(b1,o2),(b2,o3)] Lo R0 F)):=by
 refine qK fun c=>?_
 simp only[G6,G13,List.map_append,List.map_cons,List.map_nil,List.sum_append,List.sum_cons,List.sum_nil]
 omega
theorem q6I(D:DB)(n72 n42 n4 n2 pb l1 n6 n8 n92 n90 b1 b2:Nat)(a:Mo.Qk)(e:Ev)(Lo R0 F:qP)(o1 o2 o3 o4 o5 o6 o7:Obj) :
  ((l1,o4)::(n6,o5)::(n8,o6)::(n92,o1)::(n90,o7)::(Lo++((b1,o2)::(b2,o3)::G6 D n72 n42 n4 n2 pb a e R0 F))).Perm
    (((l1,o4)::(n6,o5)::(n8,o6)::(n92,o1)::(n90,o7)::(b1,o2)::(b2,o3)::(n72,Cs (qO a) 97)::(n42,Cs [ptr pb] 91)::(n4,Cs (qE e) 45)::(n2,Cs [ptr D.db] 25)::Lo)++((D.cb,.map D.es5 D.c5)::(D.lb,.map D.es6 D.c6)::(zv D.cs++(R0++F)))):=by
 refine qK fun c=>?_
 simp only[G6,List.map_append,List.map_cons,List.sum_append,List.sum_cons,List.cons_append]
 omega
theorem qck{w0:World}{ns:qP}{Lo:qP}(h:∀ x∈ns.map (·.1),w0.heap.size<=x)(hLo:zr w0 Lo):zr w0 (ns++Lo):=by
 intro x hx
 rcases List.mem_append.1 hx with hx | hx
 ·exact h _ (List.mem_map.2 ⟨x,hx,rfl⟩)
 ·exact hLo x hx
theorem qHg{es:Array MapEntry}{clk:Nat}{m:List (Int × Bool)}(hm:MapIs zt es clk (yp Value.bool m)){wq:World}{k:Nat}(hx:zZ w wq)(hb:w.heap[k]?=some (.map es clk)) :
  (Builtin.len_ #[35] 3 [Value.map (some k)].toArray).run P wq=.ok (.int .i64 m.length) wq:=by
 have:=hm.len (Jn hx hb) QU 3
 rw[this]
 simp[yp]
theorem qwG{b1 b2:Nat}{o1 o2 o3:Obj}(hF:Fr w0 D e q pb ob nb F)(hD:jz w0 D)(hnew:∀ x∈[l1,n6,n8,n92,n90,b1,b2,n72,n42,n4,n2],w0.heap.size<=x)(ha:a.th=e.th){n:Int}(hn:n<=65536)
  (hLo:zC 11 108 ov out.length (qA out) Lo) (hLn:zr w0 Lo) (hlen:out.length<1000000) (hmany:D.d.many<20000) (hx:∀ r∈out,Mo.qr D.d.cells r.byte≠none)
  (h:St w0 w ((l1,dfr)::(n6,Cs [qy] 39)::(n8,Cs [qj 0] 40)::(n92,o1)::(n90,Cs [ov] 39)::(Lo++((b1,o2)::(b2,o3)::G6 D n72 n42 n4 n2 pb a e R0 F))))
  (herr:yk (D.d.told.length+out.length) > 1000->∀ w',St w0 w' (zg D++R0)->K (.tuple [qy,qj 2].toArray) w')
  (hK:¬ yk (D.d.told.length+out.length) > 1000->∀ w' D' cs,D'.d={ th:=qG D.d.th e q,many:=yk (D.d.many+1),cells:=(yB out cs D.d.told).1,told:=(yB out cs D.d.told).2 }->cs=yy a q.tk (zo D.d.th.rels e.th) D.d.told (Mo.bytes e.a n) D.d.cells->
   jz w0 D'->D'.db=D.db->St w0 w' (zg D'++(Lo++R0))->K (.tuple [ov,qj 0].toArray) w') :
  qfT (Addr.mk n6 0 none) (Addr.mk n8 0 none) (Addr.mk n4 0 none) (Addr.mk n2 0 none) (Addr.mk n42 0 none) (Addr.mk n72 0 none) (Addr.mk n90 0 none) n [mk l1] w K:=by
 rw[qn5]
 have hd:=h.drew
 obtain⟨sa,sc,hov⟩:=hLo.form
 have gF:∀ y,y∈F->y∈((l1,dfr)::(n6,Cs [qy] 39)::(n8,Cs [qj 0] 40)::(n92,o1)::(n90,Cs [ov] 39)::(Lo++((b1,o2)::(b2,o3)::G6 D n72 n42 n4 n2 pb a e R0 F))):=fun y hy=>by simp[G6,hy]
 refine⟨some (Addr.mk D.db 0 none),?_,some D.lb,?_,D.d.told.length,fun wq hx=>qHg hD.m6 hx (hd.has D.lb _ (by simp[G6])),sa,out.length,sc,by rw[hd.cell (k:=4) rfl,hov];rfl,out.length,fun wq _=>jb wq,?_⟩
 ·rw[qv (hd.has n2 (Cs [ptr D.db] 25) (by simp[G6]))];rfl
 ·rw[qc,Nat.zero_add,qv (hd.has D.db _ (gF _ hF.db)),show(93:Nat)=90+3 from rfl,Ze hD.th];rfl
 rw[qg]
 constructor
 ·intro hgt
  have hgt:yk (D.d.told.length+out.length) > 1000:=by simpa [yk]using hgt
  refine hd.st1 (k:=1) rfl (by simp) rfl fun w1 h1=>h1.st1 (k:=2) rfl (by simp) rfl fun w2 h2=>?_
  refine⟨h2.get (k:=0) rfl,?_⟩
  have h3:=h2.put (k:=0) rfl (.deferred none)
  rw[qvc]
  refine⟨none,0,0,by rw[h3.cell (k:=1) rfl];rfl,2,by rw[h3.cell (k:=2) rfl];rfl,?_⟩
  refine herr hgt _ (q6R hF (X:=(l1,.deferred none)::(n6,Cs [qy] 39)::(n8,Cs [qj 2] 40)::(n92,o1)::(n90,Cs [ov] 39)::(b1,o2)::(b2,o3)::(n72,Cs (qO a) 97)::(n42,Cs [ptr pb] 91)::(n4,Cs (qE e) 45)::(n2,Cs [ptr D.db] 25)::Lo) (St.perm h3 (q6I ..)) ?_)
  exact qck (ns:=[(l1,.deferred none),(n6,Cs [qy] 39),(n8,Cs [qj 2] 40),(n92,o1),(n90,Cs [ov] 39),(b1,o2),(b2,o3),(n72,Cs (qO a) 97),(n42,Cs [ptr pb] 91),(n4,Cs (qE e) 45),(n2,Cs [ptr D.db] 25)]) hnew hLn
 ·intro hle
  have hle:¬ yk (D.d.told.length+out.length) > 1000:=by simpa [yk]using hle
  refine qxZ (R0:=R0) (J:=[(n92,o1),(b1,o2),(b2,o3)]) hF hD ?_ ?_ ha hn hLo hlen hmany hx (hd.perm (qAQ ..)) (hK hle)
  ·intro x hx
   simp only[List.mem_cons,List.not_mem_nil,or_false]at hx
   rcases hx with rfl | rfl | rfl | rfl | rfl | rfl | rfl | rfl
   all_goals exact hnew _ (by simp)
  ·intro x hx
   simp only[List.mem_cons,List.not_mem_nil,or_false]at hx
   rcases hx with rfl | rfl | rfl
   all_goals exact hnew _ (by simp)
theorem qDu(hF:Fr w0 D e q pb ob nb F)(hD:jz w0 D)(hnew:∀ x∈[n6,n8,n72,n42,n4,n2],w0.heap.size<=x)(ha:a.th=e.th){n:Int}(hn:n<=65536)(hmany:D.d.many<20000)
  (h:St w0 w ((n6,Cs [qy] 39)::(n8,Cs [qj 0] 40)::G6 D n72 n42 n4 n2 pb a e R0 F))
  (herr:(jq D.d a q.own (Mo.bytes e.a n) [] 0=none\/∃ out,jq D.d a q.own (Mo.bytes e.a n) [] 0=some out/\yk (D.d.told.length+out.length) > 1000)->∀ w',St w0 w' (zg D++R0)->K (.tuple [qy,qj 2].toArray) w')
  (hK:∀ out,jq D.d a q.own (Mo.bytes e.a n) [] 0=some out->¬ yk (D.d.told.length+out.length) > 1000->∀ w' D' cs ov Lo,D'.d={ th:=qG D.d.th e q,many:=yk (D.d.many+1),cells:=(yB out cs D.d.told).1,told:=(yB out cs D.d.told).2 }->
   cs=yy a q.tk (zo D.d.th.rels e.th) D.d.told (Mo.bytes e.a n) D.d.cells->jz w0 D'->D'.db=D.db->zC 11 108 ov out.length (qA out) Lo->zr w0 Lo->St w0 w' (zg D'++(Lo++R0))->K (.tuple [ov,qj 0].toArray) w') :
  qcW (Addr.mk n8 0 none) (Addr.mk n6 0 none) (Addr.mk n2 0 none) (Addr.mk n72 0 none) (Addr.mk n42 0 none) (Addr.mk n4 0 none) n w K:=by
 rw[qza,z25,z3]
 refine h.newC fun n90 w1 hn90 h1=>h1.newC fun n92 w2 hn92 h2=>h2.st1 (k:=0) rfl (by simp) rfl fun w3 h3=>?_
 have h3:St w0 w3 ((n92,Cs [qj 0] 3)::(n90,Cs [qy] 39)::(n6,Cs [qy] 39)::(n8,Cs [qj 0] 40)::G6 D n72 n42 n4 n2 pb a e R0 F):=h3
 refine⟨e.a,?_,?_⟩
 ·rw[qc,qv (h3.has n4 (Cs (qE e) 45) (by simp[G6]))];rfl
 refine qbP h3 e.a n fun b1 b2 w4 hb1 hb2 h4=>⟨_,rfl,?_⟩
 generalize hG:G6 D n72 n42 n4 n2 pb a e R0 F=G at h h1 h2 h3 h4
 have gm:∀ y,y∈G6 D n72 n42 n4 n2 pb a e R0 F->y∈G:=fun y hy=>hG▸hy
 have gF:∀ y,y∈F->y∈G:=fun y hy=>gm y (by simp[G6,hy])
 let G':List (Nat × Obj):=(b1,Cs [qj n] 3)::(b2,Cs [.int .u32 e.a] 43)::G
 have gm':∀ y,y∈G6 D n72 n42 n4 n2 pb a e R0 F->y∈G':=fun y hy=>.tail _ (.tail _ (gm y hy))
 have h5:St w0 w4 ((n6,Cs [qy] 39)::(n8,Cs [qj 0] 40)::(n92,Cs [qj 0] 3)::(n90,Cs [qy] 39)::([]++G')):=by
  refine h4.perm (qK fun c=>?_)
  simp only[G',List.nil_append,List.map_cons,List.sum_cons]
  omega
 have hGF:GF G' D n2 n72 n42 pb a e q:=by
  obtain⟨o1,o2,o3,hpl⟩:=hF.pl
  exact⟨gm' _ (by simp[G6]),gm' _ (by simp[G6]),gm' _ (by simp[G6]),.tail _ (.tail _ (gF _ hF.db)),⟨o1,o2,o3,106,.tail _ (.tail _ (gF _ hpl))⟩,hF.own⟩
 have hcs:∀ x∈D.cs,∀ y∈cbH x,y∈G':=fun x hx y hy=>gm' y (by
  have:y∈zv D.cs:=List.mem_flatMap.2 ⟨x,hx,hy⟩
  simp[G6,this])
 let I:Nat->List (Nat × Obj)->Prop:=fun i H'=>∃ out fresh ov Lo,jq D.d a q.own (Mo.bytes e.a n) [] 0=jq D.d a q.own ((Mo.bytes e.a n).drop i) out fresh/\out.length<=i/\zC 11 108 ov out.length (qA out) Lo/\zr w0 Lo/\
  H'=(n6,Cs [qy] 39)::(n8,Cs [qj 0] 40)::(n92,Cs [qj fresh] 3)::(n90,Cs [ov] 39)::(Lo++G')
 let Jx:Code->List (Nat × Obj)->Prop:=fun c H'=>c=.ret/\jq D.d a q.own (Mo.bytes e.a n) [] 0=none/\∃ fresh ov Lo,zr w0 Lo/\H'=(n6,Cs [qy] 39)::(n8,Cs [qj 2] 40)::(n92,Cs [qj fresh] 3)::(n90,Cs [ov] 39)::(Lo++G')
 have hn6:=hnew n6 (by simp)
 have hn8:=hnew n8 (by simp)
 have nns:∀ l':Nat,w0.heap.size<=l'->∀ x∈[l',n6,n8,n92,n90,b1,b2,n72,n42,n4,n2],w0.heap.size<=x:=fun l' hl' x hx=>by
  simp only[List.mem_cons,List.not_mem_nil,or_false]at hx
  rcases hx with rfl | rfl | rfl | rfl | rfl | rfl | rfl | rfl | rfl | rfl | rfl
  ·exact hl'
  ·exact hn6
  ·exact hn8
  ·exact hn92
  ·exact hn90
  ·exact hb1
  ·exact hb2
  all_goals exact hnew _ (by simp)
 refine VD (b1:=b1) (b2:=b2) (n:=n) (at_:=e.a) (t1:=3) (t2:=43) h5 (by simp[G']) om I Jx ⟨[],0,qy,[],rfl,by simp,zC.nil 11 108,zr.nil w0,rfl⟩ ?_ ?_ ?_ ?_
 ·rintro i H' ⟨out,fresh,ov,Lo,_,_,_,_,rfl⟩
  simp[G']
 ·rintro l l' Rr post i W H' hi ⟨out,fresh,ov,Lo,hscan,hol,hS,hN,rfl⟩ hs hl hl' hp hpx
  rw[qmQ]
  refine⟨rfl,?_⟩
  refine qdu (G:=G') hGF hD (gm' _ (by simp[G6])) (gm' _ (by simp[G6])) hcs n hS hN om _ hs ?_ ?_
  ·intro w' out' fresh' ov' Lo' hsc hol' hS' hN' h'
   refine hp w' ((n6,Cs [qy] 39)::(n8,Cs [qj 0] 40)::(n92,Cs [qj fresh'] 3)::(n90,Cs [ov'] 39)::(Lo'++G')) ⟨out',fresh',ov',Lo',?_,by omega,hS',hN',rfl⟩ h'
   rw[hscan,JV _ _ om]
   exact hsc _
  ·intro w' fresh' hsc h'
   refine hpx .ret w' ((n6,Cs [qy] 39)::(n8,Cs [qj 2] 40)::(n92,Cs [qj fresh'] 3)::(n90,Cs [ov] 39)::(Lo++G')) ⟨rfl,?_,fresh',ov,Lo,hN,rfl⟩ h'
   rw[hscan,JV _ _ om]
   exact hsc _
 ·rintro W H' l' hl' ⟨out,fresh,ov,Lo,hscan,hol,hS,hN,rfl⟩ hs
  show qvF (Addr.mk n8 0 none) (Addr.mk n6 0 none) (Addr.mk n92 0 none) (Addr.mk n2 0 none) (Addr.mk n90 0 none) (Addr.mk n72 0 none) (Addr.mk n42 0 none) (Addr.mk n4 0 none) n [mk l'] W K
  rw[qqC]
  have hdrop:(Mo.bytes e.a n).drop n.toNat=[]:=List.drop_eq_nil_of_le (by rw[QI];exact Nat.le_refl _)
  rw[hdrop]at hscan
  have hscan:jq D.d a q.own (Mo.bytes e.a n) [] 0=some out:=hscan
  have hs':St w0 W ((l',dfr)::(n6,Cs [qy] 39)::(n8,Cs [qj 0] 40)::(n92,Cs [qj fresh] 3)::(n90,Cs [ov] 39)::(Lo++((b1,Cs [qj n] 3)::(b2,Cs [.int .u32 e.a] 43)::G))):=hs
  rw[<-hG]at hs'
  refine qwG (R0:=R0) hF hD (nns l' hl') ha hn hS hN om hmany ?_ hs' (fun hgt=>herr (.inr ⟨out,hscan,hgt⟩)) fun hle w' D' cs h1 h2 h3 h4 h5=>hK out hscan hle w' D' cs ov Lo h1 h2 h3 h4 hS hN h5
  intro r hr
  obtain⟨ext,hxe,_,hx⟩:=QR hscan
  rw[List.nil_append]at hxe
  rw[hxe]at hr
  obtain⟨_,_,c,hc,_⟩:=hx r hr
  rw[hc];simp
 ·rintro c W H' l' hl' ⟨rfl,hsc,fresh,ov,Lo,hN,rfl⟩ hs
  show qy7 (Addr.mk n8 0 none) (Addr.mk n6 0 none) (Addr.mk n92 0 none) (Addr.mk n2 0 none) (Addr.mk n90 0 none) (Addr.mk n72 0 none) (Addr.mk n42 0 none) (Addr.mk n4 0 none) n [mk l'] W K
  rw[qqo]
  refine⟨hs.get (k:=0) rfl,?_⟩
  have hs':St w0 (W.putObj l' (.deferred none)) ((l',.deferred none)::(n6,Cs [qy] 39)::(n8,Cs [qj 2] 40)::(n92,Cs [qj fresh] 3)::(n90,Cs [ov] 39)::(Lo++((b1,Cs [qj n] 3)::(b2,Cs [.int .u32 e.a] 43)::G))):=hs.put (k:=0) rfl (.deferred none)
  rw[<-hG]at hs'
  rw[qmf]
  refine⟨none,0,0,by rw[hs'.cell (k:=1) rfl];rfl,2,by rw[hs'.cell (k:=2) rfl];rfl,?_⟩
  refine herr (.inl hsc) _ (q6R hF (X:=(l',.deferred none)::(n6,Cs [qy] 39)::(n8,Cs [qj 2] 40)::(n92,Cs [qj fresh] 3)::(n90,Cs [ov] 39)::(b1,Cs [qj n] 3)::(b2,Cs [.int .u32 e.a] 43)::(n72,Cs (qO a) 97)::(n42,Cs [ptr pb] 91)::(n4,Cs (qE e) 45)::(n2,Cs [ptr D.db] 25)::Lo) (St.perm hs' (q6I ..)) ?_)
  exact qck (ns:=[(l',.deferred none),(n6,Cs [qy] 39),(n8,Cs [qj 2] 40),(n92,Cs [qj fresh] 3),(n90,Cs [ov] 39),(b1,Cs [qj n] 3),(b2,Cs [.int .u32 e.a] 43),(n72,Cs (qO a) 97),(n42,Cs [ptr pb] 91),(n4,Cs (qE e) 45),(n2,Cs [ptr D.db] 25)]) (nns l' hl') hN
end Go.Fx.Tryz
namespace Go.Fx.Tryz
open Go Go.Fx Go.Fx.Mo
open Go.Proofs
variable {w0 w:World} {H:qP} {K:KT}
set_option maxRecDepth 20000
variable {D:DB} {n2 n42 pb ob nb n4 n6 n8:Nat} {e:Ev} {q:Pl} {F R0:qP}
theorem qHv:qn P 91=#[.pointer none]:=kr
abbrev q0g(n8 n6 n4 n2:Nat)(D:DB)(e:Ev)(R:qP):List (Nat × Obj):=(n8,Cs [qj 0] 40)::(n6,Cs [qy] 39)::(n4,Cs (qE e) 45)::(n2,Cs [ptr D.db] 25)::R
abbrev JQ(D:DB)(R:qP):List (Nat × Obj):=(D.cb,.map D.es5 D.c5)::(D.lb,.map D.es6 D.c6)::(zv D.cs++R)
def qX(e:Ev):Int:=if(zl e).2.2 then e.n else 0
theorem q6f(e:Ev):(if(zl e).2.2 then Mo.bytes e.a e.n else[])=Mo.bytes e.a (qX e):=by
 unfold qX
 split<;>rfl
theorem qCV{d:VO}{e:Ev}{q:Pl}(hm:d.many<20000)(hp:plan d.th e=some q):feed d e =
  match jq d (jI d e) q.own (Mo.bytes e.a (qX e)) [] 0 with
  | none=>(d,.inr 2)
  | some out=>if yk (d.told.length+out.length) > 1000 then(d,.inr 2)else
   ({ th:=qG d.th e q,many:=yk (d.many+1),cells:=(yB out (yy (jI d e) q.tk (zo d.th.rels e.th) d.told (Mo.bytes e.a (qX e)) d.cells) d.told).1,
      told:=(yB out (yy (jI d e) q.tk (zo d.th.rels e.th) d.told (Mo.bytes e.a (qX e)) d.cells) d.told).2 },.inl out):=by
 unfold feed
 rw[if_neg om,hp]
 simp only[q6f]
 rfl
theorem qDb(hF:Fr w0 D e q pb ob nb F)(hD:jz w0 D)(hnew:∀ x∈[n6,n8,n42,n4,n2],w0.heap.size<=x)(hmany:D.d.many<20000)
  (h:St w0 w ((n42,Cs [ptr pb] 91)::q0g n8 n6 n4 n2 D e (JQ D (R0++F))))
  (herr:∀ d' x,feed D.d e=(d',.inr x)->∀ w',St w0 w' (zg D++R0)->K (.tuple [qy,qj x].toArray) w')
  (hok:∀ d' out,feed D.d e=(d',.inl out)->∀ w' D' ov Lo,D'.d=d'->jz w0 D'->D'.db=D.db->zC 11 108 ov out.length (qA out) Lo->zr w0 Lo->St w0 w' (zg D'++(Lo++R0))->K (.tuple [ov,qj 0].toArray) w') :
  qqR (Addr.mk n8 0 none) (Addr.mk n6 0 none) (Addr.mk n2 0 none) (Addr.mk n42 0 none) (Addr.mk n4 0 none) w K:=by
 rw[qrZ]
 refine h.ldA (k:=3) (i:=0) rfl (by simp[qE]) ?_
 refine q2s h e fun w1 h1=>⟨_,_,_,rfl,?_⟩
 have hd:=h1.drew
 refine⟨some (Addr.mk D.db 0 none),by rw[hd.cell (k:=4) rfl];rfl,D.d.many,?_,e.th,by rw[qc,Nat.zero_add,hd.cell (k:=3) rfl];rfl,e.pc,by rw[qc,Nat.zero_add,hd.cell (k:=3) rfl];rfl,_,qkb _ _ _ _ _,?_⟩
 ·have hm:∀ y,y∈F->y∈((n42,Cs [ptr pb] 91)::q0g n8 n6 n4 n2 D e (JQ D (R0++F))):=fun y hy=>by simp[hy]
  rw[qc,Nat.zero_add,qv (hd.has D.db _ (hm _ hF.db)),show(91:Nat)=90+1 from rfl,Ze hD.th];rfl
 rw[z45]
 refine hd.newC fun n72 w2 hn72 h2=>h2.stA (k:=0) rfl rfl (by simp) (jN (jI D.d e)) fun w3 h3=>?_
 have h3:St w0 w3 ((n72,Cs (qO (jI D.d e)) 97)::(n42,Cs [ptr pb] 91)::q0g n8 n6 n4 n2 D e (JQ D (R0++F))):=h3
 have hn:qX e<=65536:=by
  unfold qX
  split
  ·rename_i hi;exact(Jm (zO hF.plan) hi).2
  ·omega
 have hfeed:=qCV (e:=e) hmany hF.plan
 have h6:qcW (Addr.mk n8 0 none) (Addr.mk n6 0 none) (Addr.mk n2 0 none) (Addr.mk n72 0 none) (Addr.mk n42 0 none) (Addr.mk n4 0 none) (qX e) w3 K:=by
  refine qDu (R0:=R0) (a:=jI D.d e) hF hD ?_ rfl hn hmany (h3.perm (qK fun c=>?_)) ?_ ?_
  ·intro x hx
   simp only[List.mem_cons,List.not_mem_nil,or_false]at hx
   rcases hx with rfl | rfl | rfl | rfl | rfl | rfl
   ·exact hnew _ (by simp)
   ·exact hnew _ (by simp)
   ·exact hn72
   all_goals exact hnew _ (by simp)
  ·simp only[G6,List.map_append,List.map_cons,List.sum_append,List.sum_cons]
   omega
  ·rintro(hs | ⟨out,hs,hgt⟩) w' h'
   ·rw[hs]at hfeed;exact herr _ _ hfeed w' h'
   ·rw[hs]at hfeed;simp only[hgt,if_true]at hfeed;exact herr _ _ hfeed w' h'
  ·intro out hs hle w' D' cs ov Lo hd' hcs hD' hdb hS hN h'
   rw[hs]at hfeed
   simp only[hle,if_false]at hfeed
   exact hok _ _ hfeed w' D' ov Lo (by rw[hd',hcs]) hD' hdb hS hN h'
 rw[qwO,qg]
 constructor
 ·intro hi
  have e1:qX e=e.n:=by unfold qX;rw[if_pos hi]
  rw[e1]at h6
  exact⟨e.n,by rw[qc,Nat.zero_add,h3.cell (k:=4) rfl];rfl,h6⟩
 ·intro hi
  have e1:qX e=0:=by unfold qX;rw[if_neg (by rw[hi];simp)]
  rw[e1]at h6
  exact h6
theorem qkn(h:St w0 w (zg D++R0))(hD:jz w0 D)
  (herr:∀ d' x,feed D.d e=(d',.inr x)->∀ w',St w0 w' (zg D++R0)->K (.tuple [qy,qj x].toArray) w')
  (hok:∀ d' out,feed D.d e=(d',.inl out)->∀ w' D' ov Lo,D'.d=d'->jz w0 D'->D'.db=D.db->zC 11 108 ov out.length (qA out) Lo->zr w0 Lo->St w0 w' (zg D'++(Lo++R0))->K (.tuple [ov,qj 0].toArray) w') :
  qa P 7 [ptr D.db,.agg (qE e).toArray] w K:=by
 refine qEf _ _ _ _ ?_
 rw[qDF,z25,z28]
 refine h.newC fun n2 w1 hn2 h1=>h1.newC fun n4 w2 hn4 h2=>h2.newC fun n6 w3 hn6 h3=>h3.newC fun n8 w4 hn8 h4=>?_
 have h4:St w0 w4 (q0g n8 n6 n4 n2 D e (zg D++R0)):=h4
 have hdet:∀ i,w4.cell? (Addr.mk D.db (90+i) none)=(zp D)[i]?:=fun i=>by
  rw[h4.cell (k:=4) (cs:=qU D.d.th D.tob D.tnb++zp D) rfl,Ze hD.th]
 have c2:∀ {w':World} {X:qP},St w0 w' (X++q0g n8 n6 n4 n2 D e (zg D++R0))->w'.cell? (Addr.mk n2 0 none)=some (ptr D.db):=fun h'=>by rw[qv (h'.has n2 (Cs [ptr D.db] 25) (by simp))];rfl
 refine⟨some (Addr.mk D.db 0 none),c2 (X:=[]) h4,?_⟩
 rw[Option.isNone_some,qd]
 refine⟨some (Addr.mk D.db 0 none),c2 (X:=[]) h4,true,by rw[qc,Nat.zero_add];exact hdet 0,?_⟩
 rw[qco,Bool.not_true,qd,qsM]
 refine⟨some (Addr.mk D.db 0 none),c2 (X:=[]) h4,D.d.many,by rw[qc,Nat.zero_add];exact hdet 1,?_⟩
 rw[qg]
 constructor
 ·intro hge
  have hge:D.d.many>=20000:=by simpa using hge
  refine h4.st1 (k:=1) rfl (by simp) rfl fun w5 h5=>h5.st1 (k:=0) rfl (by simp) rfl fun w6 h6=>?_
  refine⟨none,0,0,by rw[h6.cell (k:=1) rfl];rfl,2,by rw[h6.cell (k:=0) rfl];rfl,?_⟩
  exact herr D.d 2 (by unfold feed;rw[if_pos hge]) w6 ((((h6.tail hn8).tail hn6).tail hn4).tail hn2)
 ·intro hlt
  have hlt:D.d.many<20000:=by simpa using hlt
  rw[qvx]
  have hd:=h4.drew
  refine⟨some (Addr.mk D.db 0 none),c2 (X:=[]) hd,hd.ldA (k:=2) (i:=0) rfl (by simp[qE]) ?_⟩
  have s3n:∀ w' n42 v,w0.heap.size<=n42->plan D.d.th e=none->St w0 w' ((n42,Cs [.pointer v] 91)::q0g n8 n6 n4 n2 D e (zg D++R0))->qaM (Addr.mk n6 0 none) (Addr.mk n8 0 none) (Addr.mk n2 0 none) (Addr.mk n42 0 none) (Addr.mk n4 0 none) false w' K:=by
   intro w' n42 v hn42 hp h'
   rw[qbm,Bool.not_false,qm]
   refine h'.st1 (k:=2) rfl (by simp) rfl fun w5 h5=>h5.st1 (k:=1) rfl (by simp) rfl fun w6 h6=>?_
   refine⟨none,0,0,by rw[h6.cell (k:=2) rfl];rfl,300,by rw[h6.cell (k:=1) rfl];rfl,?_⟩
   exact herr D.d 300 (by unfold feed;rw[if_neg om,hp]) w6 (((((h6.tail hn42).tail hn8).tail hn6).tail hn4).tail hn2)
  have s3s:∀ w' n42 pb ob nb q F,w0.heap.size<=n42->Fr w0 D e q pb ob nb F->St w0 w' ((n42,Cs [ptr pb] 91)::q0g n8 n6 n4 n2 D e (JQ D (R0++F)))->qaM (Addr.mk n6 0 none) (Addr.mk n8 0 none) (Addr.mk n2 0 none) (Addr.mk n42 0 none) (Addr.mk n4 0 none) true w' K:=by
   intro w' n42 pb ob nb q F hn42 hF h'
   rw[qbm,Bool.not_true,qd]
   refine qDb (R0:=R0) hF hD ?_ hlt h' herr hok
   intro x hx
   simp only[List.mem_cons,List.not_mem_nil,or_false]at hx
   rcases hx with rfl | rfl | rfl | rfl | rfl
   ·exact hn6
   ·exact hn8
   ·exact hn42
   ·exact hn4
   ·exact hn2
  have toFr:∀ {w':World} {X:qP} {q pb ob nb},plan D.d.th e=some q->w0.heap.size<=pb->w0.heap.size<=ob->w0.heap.size<=nb->PS w0 w' (planB D e pb ob nb) (X++q0g n8 n6 n4 n2 D e (JQ D R0)) q->
    ∃ F,Fr w0 D e q pb ob nb F/\St w0 w' (X++q0g n8 n6 n4 n2 D e (JQ D (R0++F))):=by
   intro w' X q pb ob nb hp k1 k2 k3 hps
   have ho:=hps.own
   obtain⟨F,hs,hpl,hth,hback⟩:=hps.frame
   refine⟨F,⟨hp,hpl,hth,ho,hback,k1,k2,k3⟩,hs.perm (qK fun c=>?_)⟩
   simp only[List.map_append,List.map_cons,List.sum_append,List.sum_cons]
   omega
  constructor
  ·refine q9p (T:=D.d.th) (tb:=D.db) (tob:=D.tob) (tnb:=D.tnb) (tt:=37) (rest:=zp D) (R:=q0g n8 n6 n4 n2 D e (JQ D R0)) hD.th hD.m3 hD.m4 (hd.perm (qK fun c=>?_)) (fun hp w' v h'=>?_) (fun q hp w' pb ob nb k1 k2 k3 hps=>?_)
   ·simp only[zg,List.map_append,List.map_cons,List.sum_append,List.sum_cons]
    omega
   ·refine⟨v,false,rfl,?_⟩
    rw[qHv]
    have h':St w0 w' (q0g n8 n6 n4 n2 D e (zg D++R0)):=h'.perm (qK fun c=>by
     simp only[zg,List.map_append,List.map_cons,List.sum_append,List.sum_cons];omega)
    exact h'.newC fun n42 w5 hn42 h5=>h5.st1 (k:=0) rfl (by simp) rfl fun w6 h6=>s3n w6 n42 v hn42 hp h6
   ·refine⟨some (Addr.mk pb 0 none),true,rfl,?_⟩
    rw[qHv]
    obtain⟨F,hF,hs⟩:=toFr (X:=[]) hp k1 k2 k3 hps
    have hs:St w0 w' (q0g n8 n6 n4 n2 D e (JQ D (R0++F))):=hs
    exact hs.newC fun n42 w5 hn42 h5=>h5.st1 (k:=0) rfl (by simp) rfl fun w6 h6=>s3s w6 n42 pb ob nb q F hn42 hF h6
  ·rw[qHv]
   refine hd.newC fun n350 w5 hn350 h5=>?_
   refine q9p (T:=D.d.th) (tb:=D.db) (tob:=D.tob) (tnb:=D.tnb) (tt:=37) (rest:=zp D) (R:=(n350,Cs [.pointer none] 91)::q0g n8 n6 n4 n2 D e (JQ D R0)) hD.th hD.m3 hD.m4 (h5.perm (qK fun c=>?_)) (fun hp w' v h'=>?_) (fun q hp w' pb ob nb k1 k2 k3 hps=>?_)
   ·simp only[zg,List.map_append,List.map_cons,List.sum_append,List.sum_cons]
    omega
   ·refine⟨v,false,rfl,?_⟩
    have h':St w0 w' ((n350,Cs [.pointer none] 91)::q0g n8 n6 n4 n2 D e (zg D++R0)):=h'.perm (qK fun c=>by
     simp only[zg,List.map_append,List.map_cons,List.sum_append,List.sum_cons];omega)
    exact h'.st1 (k:=0) rfl (by simp) rfl fun w6 h6=>s3n w6 n350 v hn350 hp h6
   ·refine⟨some (Addr.mk pb 0 none),true,rfl,?_⟩
    obtain⟨F,hF,hs⟩:=toFr (X:=[(n350,Cs [.pointer none] 91)]) hp k1 k2 k3 hps
    have hs:St w0 w' ((n350,Cs [.pointer none] 91)::q0g n8 n6 n4 n2 D e (JQ D (R0++F))):=hs
    exact hs.st1 (k:=0) rfl (by simp) rfl fun w6 h6=>s3s w6 n350 pb ob nb q F hn350 hF h6
end Go.Fx.Tryz
namespace Go.Fx.Tryz
set_option maxRecDepth 100000
open Go Go.Fx Go.Proofs
def c31:=qx Tryz.f31
def qLC:=Tryz.f31.results.toList
abbrev qg7 K:=qH P qLC K
def f31 a b c w K:=CS P c31 none [2,3] [2,3] (qg7 K) (zh 38 [(VS a b c)]) w
abbrev qFx K:=kq c31 15 [2,3] [2,3] (qg7 K)
abbrev qvf K:=qq 0 (qFx K)
def qCf K Y0 e w:=zJ (fun e w=>CS P (cA c31 244) none [17,6,15,2,3,5,16] [2,3,5,6] (qw [17,6,15,2,3,5,16] Y0 (qvf K)) e w) e w
abbrev q7m K Y0:=qw [17,6,15,2,3,5,16] Y0 (qvf K)
def q7w a b c d f g h i j k l m n w K Y0:=SG c31 244 [17,6,15,2,3,5,16] [2,3,5,6] (q7m K Y0) 38 [(17,VI a),(6,VS b c d),(15,VS f g h),(2,VS i j k),(3,VB l),(5,VI m),(16,VI n)] w
def qtI a b c d f g h i j k l m n w K Y0:=SG c31 979 [17,6,15,2,3,5,16] [2,3,5,6] (q7m K Y0) 38 [(15,VS a b c),(2,VS d f g),(3,VB h),(5,VI i),(16,VI j),(17,VI k),(6,VS l m n)] w
def quj a b c d f g h i j k l m n w K Y0:=SG c31 1959 [17,6,15,2,3,5,16] [2,3,5,6] (q7m K Y0) 38 [(6,VS a b c),(15,VS d f g),(2,VS h i j),(3,VB k),(5,VI l),(16,VI m),(17,VI n)] w
theorem qpc:quj a b c d e f g h i j k l m w K Y0=(Y0 (ql.mk 38 [(17,(Value.int .i64 (IntKind.wrap .i64 (m+1)))),(6,(Value.slice a b c)),(15,(Value.slice d e f)),(2,(Value.slice g h i)),(3,(Value.bool j)),(5,(Value.int .i64 k)),(16,(Value.int .i64 l))] []) w):=kr
theorem qpQ:qtI d e g h i j k l m a n o p w K Y0=(qi d (fun z=>0<=a/\a<(e:Nat)/\qf 11 (z.add (Int.toNat a*11)) w (fun a0=>qt (qn P 108) 108 w (fun b b0=>qN 11 (Addr.mk b 0 none) a0 b0 (fun c=>∃ q:Int,c.cell? (Addr.mk b 0 none)=some (.int .u32 q)/\∃ r:Int,c.cell? ((Addr.mk b 0 none).add 1)=some (.int .i64 r)/\∃ s:Int,c.cell? ((Addr.mk b 0 none).add 6)=some (.int .i64 s)/\∃ f:Array Value,(∀ wq,(Instr.build 88 #[(0,(Value.int .i64 (IntKind.wrap .i64 q))),(1,(Value.int .i64 r)),(2,(Value.int .i64 s))]).run P wq=.ok (.agg f) wq)/\qJ 3 [(Value.agg f)]/\qt (([(Value.agg f)].map fun(v:Value)=>v.cells.toList).flatten.toArray) 88 c (fun c0 d0=>∃ (t:OA) (u x:Nat),∃ y:World,(Builtin.append_ #[84,84] 84 #[(Value.slice n o p),(Value.slice (some (Addr.mk c0 0 none)) 1 1)]).run P d0=.ok (.slice t u x) y/\quj t u x d e g h i j k l m a y K Y0)))))):=kr
def qui a b c d w K:=SG c31 31 [2,3] [2,3] (qg7 K) 38 [(5,VI a),(6,VS b c d)] w
theorem q6r:qui a b c d w K=(K (Value.tuple #[(Value.slice b c d),(Value.bool (a==0))]) w):=kr
theorem q42:q7w a b c d g h i j k l m e f w K Y0=(qC (decide (a<f)) (qtI g h i j k l m e f a b c d w K Y0) (qui e b c d w K)):=kr
theorem qGO:f31 e f g w K=(qa P 34 [(Value.slice e f g)] w (fun m n=>∃ (a:OA) (b c:Nat),∃ h:Int,m=(.tuple #[(Value.slice a b c),(Value.int .i64 h)])/\∃ (i:OA) (j k:Nat),∃ d:World,(Instr.buildSlice 84 0 ([]:List (Nat × Value)).toArray).run P n=.ok (.slice i j k) d/\∃ l:Int,(∀ wq,zZ d wq->(Builtin.len_ #[39] 3 #[(Value.slice a b c)]).run P wq=.ok (.int .i64 l) wq)/\za (qCf K) (ql.mk 38 [(17,(Value.int .i64 0)),(6,(Value.slice i j k)),(15,(Value.slice a b c)),(2,(Value.slice none 0 0)),(3,(Value.bool false)),(5,(Value.int .i64 h)),(16,(Value.int .i64 l))] []) d)):=kr
theorem qGk a b c w K(h:f31 a b c w K):qa P 31 [(Value.slice a b c)] w K:=zj c31 Tryz.func31 h
def c66:=qx Tryz.f66
def qMg:=Tryz.f66.results.toList
abbrev qt3 K:=qH P qMg K
def f66 a b w K:=CS P c66 none [4] [4] (qt3 K) (zh 19 [(Value.agg a),(Value.agg b)]) w
def q1I a w K:=SG c66 7 [4] [4] (qt3 K) 19 [(4,VI a)] w
theorem qpp:q1I a w K=(K (Value.int .i64 a) w):=kr
theorem qIa:f66 s t w K=(qt s 108 w (fun d j0=>qt t 108 j0 (fun e a=>∃ b:Int,a.drew.cell? ((Addr.mk d 0 none).add 6)=some (.int .i64 b)/\∃ c:Int,a.drew.cell? ((Addr.mk e 0 none).add 6)=some (.int .i64 c)/\(qa P 68 [(Value.int .i64 b),(Value.int .i64 c)] a.drew (fun l0 f=>∃ g:Int,l0=(.int .i64 g)/\∃ u:Int,f.cell? (Addr.mk d 0 none)=some (.int .u32 u)/\∃ x:Int,f.cell? (Addr.mk e 0 none)=some (.int .u32 x)/\qa P 69 [(Value.int .u32 u),(Value.int .u32 x)] f (fun m0 n0=>∃ h:Int,m0=(.int .i64 h)/\qJ 1 [(Value.int .i64 g),(Value.int .i64 h)]/\qt (([(Value.int .i64 g),(Value.int .i64 h)].map fun(v:Value)=>v.cells.toList).flatten.toArray) 3 n0 (fun o0 p0=>qa P 67 [(Value.slice (some (Addr.mk o0 0 none)) 2 2)] p0 (fun q0 r0=>∃ y:Int,q0=(.int .i64 y)/\q1I y r0 K)))))/\(∃ i:Int,a.drew.cell? (Addr.mk d 0 none)=some (.int .u32 i)/\(qa P 68 [(Value.int .i64 b),(Value.int .i64 c)] a.drew (fun s0 z=>∃ j:Int,s0=(.int .i64 j)/\∃ a0:Int,z.cell? (Addr.mk e 0 none)=some (.int .u32 a0)/\qa P 69 [(Value.int .u32 i),(Value.int .u32 a0)] z (fun t0 u0=>∃ k:Int,t0=(.int .i64 k)/\qJ 1 [(Value.int .i64 j),(Value.int .i64 k)]/\qt (([(Value.int .i64 j),(Value.int .i64 k)].map fun(v:Value)=>v.cells.toList).flatten.toArray) 3 u0 (fun v0 x0=>qa P 67 [(Value.slice (some (Addr.mk v0 0 none)) 2 2)] x0 (fun y0 z0=>∃ b0:Int,y0=(.int .i64 b0)/\q1I b0 z0 K)))))/\(∃ c0:Int,a.drew.cell? (Addr.mk e 0 none)=some (.int .u32 c0)/\qa P 68 [(Value.int .i64 b),(Value.int .i64 c)] a.drew (fun A0 B0=>∃ l:Int,A0=(.int .i64 l)/\qa P 69 [(Value.int .u32 i),(Value.int .u32 c0)] B0 (fun C0 D0=>∃ m:Int,C0=(.int .i64 m)/\qJ 1 [(Value.int .i64 l),(Value.int .i64 m)]/\qt (([(Value.int .i64 l),(Value.int .i64 m)].map fun(v:Value)=>v.cells.toList).flatten.toArray) 3 D0 (fun E0 F0=>qa P 67 [(Value.slice (some (Addr.mk E0 0 none)) 2 2)] F0 (fun G0 H0=>∃ d0:Int,G0=(.int .i64 d0)/\q1I d0 H0 K))))))/\(∃ n:Int,a.drew.cell? (Addr.mk e 0 none)=some (.int .u32 n)/\(qa P 68 [(Value.int .i64 b),(Value.int .i64 c)] a.drew (fun I0 e0=>∃ o:Int,I0=(.int .i64 o)/\∃ f0:Int,e0.cell? (Addr.mk d 0 none)=some (.int .u32 f0)/\qa P 69 [(Value.int .u32 f0),(Value.int .u32 n)] e0 (fun J0 L0=>∃ p:Int,J0=(.int .i64 p)/\qJ 1 [(Value.int .i64 o),(Value.int .i64 p)]/\qt (([(Value.int .i64 o),(Value.int .i64 p)].map fun(v:Value)=>v.cells.toList).flatten.toArray) 3 L0 (fun M0 N0=>qa P 67 [(Value.slice (some (Addr.mk M0 0 none)) 2 2)] N0 (fun O0 Q0=>∃ g0:Int,O0=(.int .i64 g0)/\q1I g0 Q0 K)))))/\(∃ h0:Int,a.drew.cell? (Addr.mk d 0 none)=some (.int .u32 h0)/\qa P 68 [(Value.int .i64 b),(Value.int .i64 c)] a.drew (fun R0 S0=>∃ q:Int,R0=(.int .i64 q)/\qa P 69 [(Value.int .u32 h0),(Value.int .u32 n)] S0 (fun T0 U0=>∃ r:Int,T0=(.int .i64 r)/\qJ 1 [(Value.int .i64 q),(Value.int .i64 r)]/\qt (([(Value.int .i64 q),(Value.int .i64 r)].map fun(v:Value)=>v.cells.toList).flatten.toArray) 3 U0 (fun V0 W0=>qa P 67 [(Value.slice (some (Addr.mk V0 0 none)) 2 2)] W0 (fun X0 Y0=>∃ i0:Int,X0=(.int .i64 i0)/\q1I i0 Y0 K))))))))):=kr
theorem qIb a b w K(h:f66 a b w K):qa P 66 [(Value.agg a),(Value.agg b)] w K:=zj c66 Tryz.func66 h
def c67:=qx Tryz.f67
def qLS:=Tryz.f67.results.toList
abbrev qh3 K:=qH P qLS K
def f67 a b c w K:=CS P c67 none [2] [2] (qh3 K) (zh 18 [(VS a b c)]) w
abbrev qFL K:=kq c67 7 [2] [2] (qh3 K)
abbrev qxR K:=qq 0 (qFL K)
def qAi K Y0 e w:=zJ (fun e w=>CS P (cA c67 116) none [3,8,6,2,7] [2,3] (qw [3,8,6,2,7] Y0 (qxR K)) e w) e w
abbrev q8e K Y0:=qw [3,8,6,2,7] Y0 (qxR K)
def qjO a b c d f g h w K Y0:=SG c67 116 [3,8,6,2,7] [2,3] (q8e K Y0) 18 [(3,VI a),(8,VI b),(6,VS c d f),(2,VI g),(7,VI h)] w
def qtP a b c d f g h w K Y0:=SG c67 467 [3,8,6,2,7] [2,3] (q8e K Y0) 18 [(3,VI a),(6,VS b c d),(7,VI f),(8,VI g),(2,VI h)] w
def qu5 a b c d f g h w K Y0:=SG c67 935 [3,8,6,2,7] [2,3] (q8e K Y0) 18 [(3,VI a),(6,VS b c d),(2,VI f),(7,VI g),(8,VI h)] w
theorem qq0:qu5 a b c d e f g w K Y0=(Y0 (ql.mk 18 [(3,(Value.int .i64 a)),(8,(Value.int .i64 (IntKind.wrap .i64 (g+1)))),(6,(Value.slice b c d)),(2,(Value.int .i64 e)),(7,(Value.int .i64 f))] []) w):=kr
theorem qoV:qtP b c d f g a h w K Y0=(qi c (fun i=>0<=a/\a<(d:Nat)/\∃ e:Int,w.cell? (i.add (Int.toNat a*1))=some (.int .i64 e)/\qC (e != b) (K (Value.int .i64 e) w) (qu5 b c d f h g a w K Y0))):=kr
def qxz a w K:=SG c67 15 [2] [2] (qh3 K) 18 [(3,VI a)] w
theorem qqu:qxz a w K=(K (Value.int .i64 a) w):=kr
theorem qhb:qjO a b d e f g c w K Y0=(qC (decide (b<c)) (qtP a d e f c b g w K Y0) (qxz a w K)):=kr
theorem qGP:f67 a b c w K=(∃ d:Int,(∀ wq,zZ w wq->(Builtin.len_ #[61] 3 #[(Value.slice a b c)]).run P wq=.ok (.int .i64 d) wq)/\za (qAi K) (ql.mk 18 [(3,(Value.int .i64 0)),(8,(Value.int .i64 0)),(6,(Value.slice a b c)),(2,(Value.int .i64 0)),(7,(Value.int .i64 d))] []) w):=kr
theorem qJi a b c w K(h:f67 a b c w K):qa P 67 [(Value.slice a b c)] w K:=zj c67 Tryz.func67 h
def c68:=qx Tryz.f68
def qLv:=Tryz.f68.results.toList
abbrev q1R K:=qH P qLv K
def f68 a b w K:=CS P c68 none [4] [4] (q1R K) (zh 20 [(VI a),(VI b)]) w
abbrev qIB K:=kq c68 15 [4] [4] (q1R K)
def qEX w K:=SG c68 245 [1,0,6] [4] (qIB K) 20 [] w
def quZ a b c w K:=SG c68 31 [4] [4] (q1R K) 20 [(1,VI a),(0,VI b),(6,VB c)] w
def qwI a b w K:=SG c68 63 [4] [4] (q1R K) 20 [(1,VI a),(0,VI b)] w
def qwv a b w K:=SG c68 127 [4] [4] (q1R K) 20 [(1,VI a),(0,VI b)] w
def qtF w K:=SG c68 255 [4] [4] (q1R K) 20 [] w
theorem qqs:qtF w K=(K (Value.int .i64 0) w):=kr
theorem qoX:qwv a b w K=(qC (decide (b > a)) (K (Value.int .i64 1) w) (qtF w K)):=kr
theorem qp8:qwI a b w K=(qC (decide (b<a)) (K (Value.int .i64 (-1)) w) (qwv a b w K)):=kr
theorem qo6:quZ a b c w K=(qC c (K (Value.int .i64 1) w) (qwI a b w K)):=kr
theorem qGX:f68 a b w K=(qa P 90 [(Value.int .i64 a)] w (fun f g=>∃ e:Bool,f=(.bool e)/\qa P 90 [(Value.int .i64 b)] g (fun h c=>∃ d:Bool,h=(.bool d)/\qC e (qC d (K (Value.int .i64 0) c) (qEX c K)) (quZ b a d c K)))):=kr
theorem qH2 a b w K(h:f68 a b w K):qa P 68 [(Value.int .i64 a),(Value.int .i64 b)] w K:=zj c68 Tryz.func68 h
def c69:=qx Tryz.f69
def qLb:=Tryz.f69.results.toList
abbrev q1L K:=qH P qLb K
def f69 a b w K:=CS P c69 none [4] [4] (q1L K) (zh 20 [(Value.int .u32 a),(Value.int .u32 b)]) w
abbrev qHS K:=kq c69 15 [4] [4] (q1L K)
def qFk w K:=SG c69 245 [1,0,6] [4] (qHS K) 20 [] w
def qyO a b c w K:=SG c69 31 [4] [4] (q1L K) 20 [(1,Value.int .u32 a),(0,Value.int .u32 b),(6,VB c)] w
def qu2 a b w K:=SG c69 63 [4] [4] (q1L K) 20 [(1,Value.int .u32 a),(0,Value.int .u32 b)] w
def qxg a b w K:=SG c69 127 [4] [4] (q1L K) 20 [(1,Value.int .u32 a),(0,Value.int .u32 b)] w
def qwZ w K:=SG c69 255 [4] [4] (q1L K) 20 [] w
theorem qqj:qwZ w K=(K (Value.int .i64 0) w):=kr
theorem qo3:qxg a b w K=(qC (decide (b > a)) (K (Value.int .i64 1) w) (qwZ w K)):=kr
theorem qnc:qu2 a b w K=(qC (decide (b<a)) (K (Value.int .i64 (-1)) w) (qxg a b w K)):=kr
theorem qmM:qyO a b c w K=(qC c (K (Value.int .i64 1) w) (qu2 a b w K)):=kr
theorem qHx:f69 a b w K=(qa P 91 [(Value.int .u32 a)] w (fun f g=>∃ e:Bool,f=(.bool e)/\qa P 91 [(Value.int .u32 b)] g (fun h c=>∃ d:Bool,h=(.bool d)/\qC e (qC d (K (Value.int .i64 0) c) (qFk c K)) (qyO b a d c K)))):=kr
theorem qIR a b w K(h:f69 a b w K):qa P 69 [(Value.int .u32 a),(Value.int .u32 b)] w K:=zj c69 Tryz.func69 h
def c90:=qx Tryz.f90
def qLs:=Tryz.f90.results.toList
abbrev qHi K:=qH P qLs K
def f90 a w K:=CS P c90 none [2] [2] (qHi K) (zh 6 [(VI a)]) w
theorem qGf:f90 a w K=(K (Value.bool (a != a)) w):=kr
theorem qGE a w K(h:f90 a w K):qa P 90 [(Value.int .i64 a)] w K:=zj c90 Tryz.func90 h
def c91:=qx Tryz.f91
def qLR:=Tryz.f91.results.toList
abbrev qEQ K:=qH P qLR K
def f91 a w K:=CS P c91 none [2] [2] (qEQ K) (zh 6 [(Value.int .u32 a)]) w
theorem qJ1:f91 a w K=(K (Value.bool (a != a)) w):=kr
theorem qGJ a w K(h:f91 a w K):qa P 91 [(Value.int .u32 a)] w K:=zj c91 Tryz.func91 h
end Go.Fx.Tryz
namespace Go.Fx.Tryz
open Go Go.Fx Go.Fx.Mo
open Go.Proofs
variable {w0 w:World} {H:qP} {K:KT}
set_option maxRecDepth 20000
theorem qye(a b:Nat)(wq:World):(Instr.build 33 [(4,(Value.map (some a))),(5,(Value.map (some b)))].toArray).run P wq=.ok (.agg ((qU zi a b).set 64 (.bool false)).toArray) wq:=kr
theorem qKy:∃ cs:List Value,qn P 33=cs.toArray/\cs.length=90:=⟨(qU zi 0 0).set 64 (.bool false) |>.set 88 (.map none) |>.set 89 (.map none),by kernel_rfl,by kernel_rfl⟩
theorem Zs(a b:Nat):(qU zi a b).length=90:=kr
theorem q7x(a b:Nat):∀ v∈qU zi a b,v.oneCell'=true:=by
 intro v hv
 simp[qU,zi,qW,List.replicate]at hv
 rcases hv with rfl | rfl | rfl | rfl | rfl | rfl<;>rfl
theorem qB{cs vs:List Value}(h:vs.length=cs.length):qI cs 0 vs=vs:=by
 rw[Ji _ _ _ om]
 simp[h]
theorem qcm(h:St w0 w H)(hK:∀ w' a b,w0.heap.size<=a->w0.heap.size<=b->St w0 w' ((a,.map #[] 0)::(b,.map #[] 0)::H)->K (.agg (qU zi a b).toArray) w'):qa P 47 [] w K:=by
 refine qFE _ _ ?_
 obtain⟨zs,hz,hzl⟩:=qKy
 rw[qJy,hz]
 refine h.newC fun n0 w1 hn0 h1=>h1.newO fun a w2 ha h2=>h2.newO fun b w3 hb h3=>?_
 refine⟨_,qye a b,h3.newC fun n7 w4 hn7 h4=>?_⟩
 have hl:((qU zi a b).set 64 (.bool false)).length=90:=by rw[List.length_set,Zs]
 have hone:∀ v∈(qU zi a b).set 64 (.bool false),v.oneCell'=true:=fun v hv=>by
  rcases List.mem_or_eq_of_mem_set hv with hv | rfl
  ·exact q7x a b v hv
  ·rfl
 refine h4.stA (k:=0) rfl (by simpa using hl) (by simp[hzl]) (by simpa using hone) fun w5 h5=>⟨by omega,by omega,?_⟩
 have h5:St w0 w5 ((n7,Cs (qI zs 0 ((qU zi a b).set 64 (.bool false))) 33)::(b,.map #[] 0)::(a,.map #[] 0)::(n0,Cs zs 33)::H):=h5
 rw[qB (by rw[hl,hzl])]at h5
 simp only[qc,Nat.zero_add]
 refine h5.st1 (k:=0) rfl (by rw[hl];decide) rfl fun w6 h6=>?_
 have h6:St w0 w6 ((n7,Cs (((qU zi a b).set 64 (.bool false)).set 64 (.bool true)) 33)::(b,.map #[] 0)::(a,.map #[] 0)::(n0,Cs zs 33)::H):=h6
 have e:((qU zi a b).set 64 (.bool false)).set 64 (.bool true)=qU zi a b:=by
  rw[List.set_set];kernel_rfl
 rw[e]at h6
 refine h6.ldA (k:=0) (i:=0) rfl (by rw[Zs];decide) ?_
 have e2:((qU zi a b).drop 0).take 90=qU zi a b:=List.take_of_length_le (by simp[Zs])
 rw[e2]
 refine h6.stA (k:=3) rfl (by simp[Zs]) (by simp[hzl]) (by simpa using q7x a b) fun w7 h7=>?_
 have h7:St w0 w7 ((n7,Cs (qU zi a b) 33)::(b,.map #[] 0)::(a,.map #[] 0)::(n0,Cs (qI zs 0 (qU zi a b)) 33)::H):=h7
 rw[qB (by rw[Zs,hzl])]at h7
 refine h7.ldA (k:=3) (i:=0) rfl (by rw[Zs];decide) ?_
 rw[e2]
 refine hK w7 a b ha hb ?_
 refine St.sub (L:=[(n7,Cs (qU zi a b) 33),(n0,Cs (qU zi a b) 33)]) (h7.perm (qK fun c=>?_)) ?_
 ·simp only[List.map_append,List.map_cons,List.map_nil,List.sum_append,List.sum_cons,List.sum_nil];omega
 ·intro x hx
  simp only[List.mem_cons,List.not_mem_nil,or_false]at hx
  rcases hx with rfl | rfl
  ·exact hn7
  ·exact hn0
theorem qv3:vr zi:=⟨rfl,by simp[zi,qW],rfl,rfl,rfl,by simp[zi]⟩
def D0(db tob tnb cb lb:Nat):DB:=⟨db,tob,tnb,cb,lb,#[],0,#[],0,#[],0,#[],0,Za,[]⟩
theorem qxT(a b c d:Nat)(wq:World):(Instr.build 37 [(0,(Value.agg (qU zi a b).toArray)),(1,(Value.bool true)),(3,(Value.map (some c))),(4,(Value.map (some d)))].toArray).run P wq=.ok (.agg (qU zi a b++zp (D0 0 a b c d)).toArray) wq:=kr
theorem qJP{db a b c d:Nat}(hn:w0.heap.size<=db/\w0.heap.size<=a/\w0.heap.size<=b/\w0.heap.size<=c/\w0.heap.size<=d):jz w0 (D0 db a b c d):=
 ⟨qv3,MapIs.empty,MapIs.empty,MapIs.empty,MapIs.empty,rfl,by simp[D0],by simp[D0,Za],hn⟩
theorem qz1(h:St w0 w H)(hK:∀ w' D,D.d=Za->jz w0 D->St w0 w' (zg D++H)->K (ptr D.db) w'):qa P 11 [] w K:=by
 refine qEP _ _ ?_
 rw[qIq]
 refine qcm h fun w1 a b ha hb h1=>⟨_,rfl,?_⟩
 refine h1.newO fun c w2 hc h2=>h2.newO fun d w3 hd h3=>⟨_,qxT a b c d,?_⟩
 refine h3.newC fun n8 w4 hn8 h4=>hK w4 (D0 n8 a b c d) rfl (qJP ⟨hn8,ha,hb,hc,hd⟩) ?_
 have h4:St w0 w4 ((n8,Cs (qU zi a b++zp (D0 n8 a b c d)) 37)::(d,.map #[] 0)::(c,.map #[] 0)::(a,.map #[] 0)::(b,.map #[] 0)::H):=h4
 have e:zg (D0 n8 a b c d)=[(n8,Cs (qU zi a b++zp (D0 n8 a b c d)) 37),(a,.map #[] 0),(b,.map #[] 0),(c,.map #[] 0),(d,.map #[] 0)]:=rfl
 rw[e]
 refine h4.perm (qK fun f=>?_)
 simp only[List.map_append,List.map_cons,List.map_nil,List.sum_append,List.sum_cons,List.sum_nil]
 omega
end Go.Fx.Tryz
namespace Go.Fx
open Go
variable {P:Program} {w0 w:World} {H:qP}
theorem Ya(a:Addr)(m n:Nat):(a.add m).add n=a.add (m+n):=by
 unfold Addr.add
 by_cases hm:m=0
 ·subst hm;simp
 ·by_cases hn:n=0
  ·subst hn;simp[hm]
  ·have:¬ (m+n=0):=by omega
   simp[hm,hn];omega
def Qt(w:World)(size:Nat)(ov:Value)(n:Nat)(xs:List Value):Prop:=
 xs.length=n*size/\((ov=.slice none 0 0/\n=0)\/∃ a c,ov=.slice (some a) n c/\∀ i,i<n*size->w.cell? (a.add i)=xs[i]?)
theorem Qt.form{size:Nat}{ov:Value}{n:Nat}{xs:List Value}(h:Qt w size ov n xs):∃ a c,ov=.slice a n c:=by
 rcases h.2 with⟨h1,h2⟩ | ⟨a,c,h1,_⟩
 ·exact⟨_,_,by rw[h1,h2]⟩
 ·exact⟨_,_,h1⟩
theorem Qt.ldA{size:Nat}{ov:Value}{n:Nat}{xs:List Value}(h:Qt w size ov n xs){i:Nat}(hi:i<n) :
  ∃ a c,ov=.slice (some a) n c/\∀ K:Array Value->Prop,K ((xs.drop (i*size)).take size).toArray->qf size (a.add (i*size)) w K:=by
 rcases h.2 with⟨_,h0⟩ | ⟨a,c,h1,h2⟩
 ·omega
 ·have hle:i*size+size<=n*size:=by rw[<-Nat.succ_mul];exact Nat.mul_le_mul_right _ hi
  refine⟨a,c,h1,fun K hK=>⟨_,by simp[h.1];omega,fun j hj=>?_,hK⟩⟩
  rw[Ya,h2 _ om]
  simp[hj]
theorem zC.row{size:Nat}{e:TypeId}{ov:Value}{n:Nat}{xs:List Value}{L:qP}(h:zC size e ov n xs L)(hL:∀ x∈L,w.heap[x.1]?=some x.2):Qt w size ov n xs:=by
 refine⟨h.1,?_⟩
 rcases h.2 with⟨h1,h2,_⟩ | ⟨g,cap,cur,h1,h2,h3,h4,h5,h6⟩
 ·exact .inl ⟨h1,h2⟩
 ·refine .inr ⟨_,_,h1,fun i hi=>?_⟩
  rw[qc,qv (hL (g,Cs cur e) (by simp[h2])),Nat.zero_add,<-h6,List.getElem?_take,if_pos hi]
theorem Qt.old{size:Nat}{ov:Value}{n:Nat}{xs:List Value}(h:Qt w0 size ov n xs)(hn:zr w0 H)(hs:St w0 w H):Qt w size ov n xs:=by
 refine⟨h.1,?_⟩
 rcases h.2 with h1 | ⟨a,c,h1,h2⟩
 ·exact .inl h1
 ·refine .inr ⟨a,c,h1,fun i hi=>?_⟩
  have hx:=h2 i hi
  have hi':i<xs.length:=by rw[h.1];exact hi
  rw[List.getElem?_eq_getElem hi']at hx
  rw[List.getElem?_eq_getElem hi',<-hx]
  have hb:(a.add i).block<w0.heap.size:=by
   unfold World.cell? at hx
   cases hh:w0.heap[(a.add i).block]? with
   | none=>rw[hh]at hx;simp at hx
   | some o=>exact(Array.getElem?_eq_some_iff.1 hh).1
  unfold World.cell?
  rw[hs.old _ hb (fun hm=>by
   obtain⟨x,hx,he⟩:=List.mem_map.1 hm
   have:=hn x hx
   omega)]
end Go.Fx
namespace Go.Fx.Tryz
set_option maxRecDepth 100000
open Go Go.Fx Go.Proofs
def c59:=qx Tryz.f59
def qLe:=Tryz.f59.results.toList
abbrev q9l K:=qH P qLe K
def f59 a b c w K:=CS P c59 none [2,3] [2,3] (q9l K) (zh 70 [(VS a b c)]) w
def qwa a b c d f g w K:=SG c59 15 [2,3] [2,3] (q9l K) 70 [(2,VQ a),(4,VQ b),(3,VI c),(0,VS d f g)] w
abbrev qHj K:=kq c59 31 [2,3] [2,3] (q9l K)
abbrev qs6 K:=qq 0 (qHj K)
def qDC K Y1 e w:=zJ (fun e w=>CS P (cA c59 500) none [2,4,17,3,5,15,16] [2,3,4] (qw [2,4,17,3,5,15,16] Y1 (qs6 K)) e w) e w
abbrev q34 K Y1:=qw [2,4,17,3,5,15,16] Y1 (qs6 K)
def qi0 a b c d f g h i j w K Y1:=SG c59 500 [2,4,17,3,5,15,16] [2,3,4] (q34 K Y1) 70 [(2,VQ a),(4,VQ b),(17,VI c),(3,VI d),(5,VQ f),(15,VS g h i),(16,VI j)] w
def qtj a b c d f g h i j w K Y1:=SG c59 2003 [2,4,17,3,5,15,16] [2,3,4] (q34 K Y1) 70 [(2,VQ a),(4,VQ b),(5,VQ c),(15,VS d f g),(16,VI h),(17,VI i),(3,VI j)] w
abbrev qCw K Y1:=kq c59 2003 [2,4,17,3,5,15,16] [2,3,4] (q34 K Y1)
abbrev q2I K Y1:=qq 1 (qCw K Y1)
def qtd a b c d f g h i j k l w K Y1:=SG c59 64103 [2,4,3,5,15,16,17] [2,3,4,5,15,16,17] (q2I K Y1) 70 [(4,VQ a),(6,VI b),(2,VQ c),(3,VI d),(5,VQ f),(15,VS g h i),(16,VI j),(17,VI k),(8,VP l)] w
def qg2 a b c d f g h i j k l w K Y1:=SG c59 256415 [2,4,3,5,15,16,17] [2,3,4,5,15,16,17] (q2I K Y1) 70 [(4,VQ a),(6,VI b),(2,VQ c),(3,VI d),(5,VQ f),(15,VS g h i),(16,VI j),(17,VI k),(8,VP l)] w
abbrev qAS K Y1:=kq c59 256415 [2,4,3,5,15,16,17] [2,3,4,5,15,16,17] (q2I K Y1)
abbrev qiH K Y1:=qq 2 (qAS K Y1)
def qAm K Y1 Y5 e w:=zJ (fun e w=>CS P (cA c59 4102644) none [45,4,6,2,3,5,15,16,17,8,44] [2,3,4,5,15,16,17,8] (qw [45,4,6,2,3,5,15,16,17,8,44] Y5 (qiH K Y1)) e w) e w
abbrev q7O K Y1 Y5:=qw [45,4,6,2,3,5,15,16,17,8,44] Y5 (qiH K Y1)
def qji a b c d f g h i j k l m n w K Y1 Y5:=SG c59 4102644 [45,4,6,2,3,5,15,16,17,8,44] [2,3,4,5,15,16,17,8] (q7O K Y1 Y5) 70 [(45,VI a),(4,VQ b),(6,VI c),(2,VQ d),(3,VI f),(5,VQ g),(15,VS h i j),(16,VI k),(17,VI l),(8,VP m),(44,VI n)] w
def quE a b c d f g h i j k l m n w K Y1 Y5:=SG c59 16410579 [45,4,6,2,3,5,15,16,17,8,44] [2,3,4,5,15,16,17,8] (q7O K Y1 Y5) 70 [(4,VQ a),(6,VI b),(2,VQ c),(3,VI d),(5,VQ f),(15,VS g h i),(16,VI j),(17,VI k),(8,VP l),(44,VI m),(45,VI n)] w
def qtK a b c d f g h i j k l m n w K Y1 Y5:=SG c59 32821159 [45,4,6,2,3,5,15,16,17,8,44] [2,3,4,5,15,16,17,8] (q7O K Y1 Y5) 70 [(4,VQ a),(6,VI b),(2,VQ c),(3,VI d),(5,VQ f),(15,VS g h i),(16,VI j),(17,VI k),(8,VP l),(44,VI m),(45,VI n)] w
theorem qmb:qtK a b c d e f g h i j k l m w K Y1 Y5=(Y5 (ql.mk 70 [(45,(Value.int .i64 (IntKind.wrap .i64 (m+1)))),(4,(Value.pointer (some a))),(6,(Value.int .i64 b)),(2,(Value.pointer (some c))),(3,(Value.int .i64 d)),(5,(Value.pointer (some e))),(15,(Value.slice f g h)),(16,(Value.int .i64 i)),(17,(Value.int .i64 j)),(8,(Value.pointer k)),(44,(Value.int .i64 l))] []) w):=kr
theorem qmr:quE a b c d e f g h i j k l m w K Y1 Y5=(∃ (n:OA) (o p:Nat),w.cell? (a.add 1)=some (.slice n o p)/\qJ 1 [(Value.int .i64 b)]/\qt (([(Value.int .i64 b)].map fun(v:Value)=>v.cells.toList).flatten.toArray) 3 w (fun u x=>∃ (q:OA) (r s:Nat),∃ t:World,(Builtin.append_ #[61,61] 61 #[(Value.slice n o p),(Value.slice (some (Addr.mk u 0 none)) 1 1)]).run P x=.ok (.slice q r s) t/\zG (a.add 1) (Value.slice q r s) t (fun y=>qtK a b c d e f g h i j k l m y K Y1 Y5))):=kr
def quU a b c d f g h i j k w K Y1:=SG c59 512831 [2,4,3,5,15,16,17] [2,3,4,5,15,16,17] (q2I K Y1) 70 [(2,VQ a),(4,VQ b),(3,VI c),(5,VQ d),(15,VS f g h),(16,VI i),(17,VI j),(8,VP k)] w
def q7h a b c d f g h i j w K Y1:=SG c59 4007 [2,4,17,3,5,15,16] [2,3,4] (q34 K Y1) 70 [(2,VQ a),(4,VQ b),(3,VI c),(5,VQ d),(15,VS f g h),(16,VI i),(17,VI j)] w
theorem qok:q7h a b c d e f g h i w K Y1=(Y1 (ql.mk 70 [(2,(Value.pointer (some a))),(4,(Value.pointer (some b))),(17,(Value.int .i64 (IntKind.wrap .i64 (i+1)))),(3,(Value.int .i64 c)),(5,(Value.pointer (some d))),(15,(Value.slice e f g)),(16,(Value.int .i64 h))] []) w):=kr
theorem qoH:quU c a d e f g h i j k w K Y1=(qi k (fun d0=>qi k (fun e0=>∃ l:Int,w.drew.cell? (d0.add 16)=some (.int .i64 l)/\qf 8 (e0.add 8) w.drew (fun f0=>∃ b:Array Value,(∀ wq,(Instr.build 173 #[(0,(Value.int .i64 l)),(1,(Value.agg f0))]).run P wq=.ok (.agg b) wq)/\(∃ (m:OA) (n o:Nat),w.drew.cell? (a.add 2)=some (.slice m n o)/\qJ 9 [(Value.agg b)]/\qt (([(Value.agg b)].map fun(v:Value)=>v.cells.toList).flatten.toArray) 173 w.drew (fun g0 h0=>∃ (p:OA) (q r:Nat),∃ s:World,(Builtin.append_ #[139,139] 139 #[(Value.slice m n o),(Value.slice (some (Addr.mk g0 0 none)) 1 1)]).run P h0=.ok (.slice p q r) s/\zG (a.add 2) (Value.slice p q r) s (fun i0=>q7h c a d e f g h i j i0 K Y1)))/\(qJ 9 [(Value.agg b)]/\qt (([(Value.agg b)].map fun(v:Value)=>v.cells.toList).flatten.toArray) 173 w.drew (fun j0 t=>∃ (u:OA) (x y:Nat),t.cell? (a.add 2)=some (.slice u x y)/\∃ (z:OA) (a0 b0:Nat),∃ c0:World,(Builtin.append_ #[139,139] 139 #[(Value.slice u x y),(Value.slice (some (Addr.mk j0 0 none)) 1 1)]).run P t=.ok (.slice z a0 b0) c0/\zG (a.add 2) (Value.slice z a0 b0) c0 (fun l0=>q7h c a d e f g h i j l0 K Y1))))))):=kr
theorem qgb:qji a b m c d e f g h i j k l w K Y1 Y5=(qC (decide (a<l)) (quE b m c d e f g h i j k l a w K Y1 Y5) (quU c b d e f g h i j k w K Y1)):=kr
theorem qms:qg2 b c d e f g h i j k a w K Y1=(qi a (fun p=>∃ (l:OA) (m n:Nat),w.cell? (p.add 7)=some (.slice l m n)/\∃ o:Int,(∀ wq,zZ w wq->(Builtin.len_ #[60] 3 #[(Value.slice l m n)]).run P wq=.ok (.int .i64 o) wq)/\za (qAm K Y1) (ql.mk 70 [(45,(Value.int .i64 0)),(4,(Value.pointer (some b))),(6,(Value.int .i64 c)),(2,(Value.pointer (some d))),(3,(Value.int .i64 e)),(5,(Value.pointer (some f))),(15,(Value.slice g h i)),(16,(Value.int .i64 j)),(17,(Value.int .i64 k)),(8,(Value.pointer a)),(44,(Value.int .i64 o))] []) w)):=kr
theorem qoA:qtd a e f g c h i j k l b w K Y1=(qa P 40 [(Value.pointer (some c)),(Value.pointer b)] w (fun x d=>x=(.tuple #[])/\qi b (fun y=>∃ (m:OA) (n o:Nat),d.drew.cell? a=some (.slice m n o)/\∃ (p:OA) (q r:Nat),d.drew.cell? (y.add 7)=some (.slice p q r)/\∃ (s:OA) (t u:Nat),∃ v:World,(Builtin.append_ #[60,60] 60 #[(Value.slice m n o),(Value.slice p q r)]).run P d.drew=.ok (.slice s t u) v/\zG a (Value.slice s t u) v (fun z=>qg2 a e f g c h i j k l b z K Y1)))):=kr
theorem qlG:qtj b f c d e g h a i w K Y1=(qi d (fun q=>0<=a/\a<(e:Nat)/\qf 6 (q.add (Int.toNat a*6)) w (fun r=>qt (qn P 45) 45 w (fun j s=>qN 6 (Addr.mk j 0 none) r s (fun k=>qf 6 (Addr.mk j 0 none) k (fun t=>qa P 35 [(Value.pointer (some c)),(Value.agg t)] k (fun u l=>∃ m:Option Addr,∃ n:Bool,u=(.tuple #[(Value.pointer m),(Value.bool n)])/\qC (!n) (∃ o:Array Value,(∀ wq,(Instr.build 141 #[]).run P wq=.ok (.agg o) wq)/\qN 3 b o l (fun p=>qf 3 b p (fun v=>K (Value.tuple #[(Value.agg v),(Value.int .i64 300)]) p))) (qtd f a b i c d e g h a m l K Y1)))))))):=kr
def qjC a b w K:=SG c59 63 [2,3] [2,3] (q9l K) 70 [(2,VQ a),(4,VQ b)] w
theorem qhp:qjC a b w K=(qf 3 b w (fun d=>qN 3 a d w (fun c=>qf 3 a c (fun e=>K (Value.tuple #[(Value.agg e),(Value.int .i64 0)]) c)))):=kr
theorem qfy:qi0 a b c e f g h i d w K Y1=(qC (decide (c<d)) (qtj a b f g h i d c e w K Y1) (qjC a b w K)):=kr
theorem qoy:qwa d e f a b c w K=(qa P 47 [] w (fun k l=>∃ g:Array Value,k=(.agg g)/\qt (qn P 33) 33 l (fun h m=>qN 90 (Addr.mk h 0 none) g m (fun i=>∃ j:Int,(∀ wq,zZ i wq->(Builtin.len_ #[22] 3 #[(Value.slice a b c)]).run P wq=.ok (.int .i64 j) wq)/\za (qDC K) (ql.mk 70 [(2,(Value.pointer (some d))),(4,(Value.pointer (some e))),(17,(Value.int .i64 0)),(3,(Value.int .i64 f)),(5,(Value.pointer (some (Addr.mk h 0 none)))),(15,(Value.slice a b c)),(16,(Value.int .i64 j))] []) i)))):=kr
theorem qH0:f59 b c d w K=(qt (qn P 141) 141 w (fun e i=>qt (qn P 141) 141 i (fun f a=>∃ g:Int,(∀ wq,zZ a wq->(Builtin.len_ #[22] 3 #[(Value.slice b c d)]).run P wq=.ok (.int .i64 g) wq)/\qC (decide (g > 20000)) (qf 3 (Addr.mk f 0 none) a (fun j=>qN 3 (Addr.mk e 0 none) j a (fun h=>qf 3 (Addr.mk e 0 none) h (fun k=>K (Value.tuple #[(Value.agg k),(Value.int .i64 2)]) h)))) (qwa (Addr.mk e 0 none) (Addr.mk f 0 none) 0 b c d a K)))):=kr
theorem qFy a b c w K(h:f59 a b c w K):qa P 59 [(Value.slice a b c)] w K:=zj c59 Tryz.func59 h
def c34:=qx Tryz.f34
def qLM:=Tryz.f34.results.toList
abbrev q7a K:=qH P qLM K
def f34 a b c w K:=CS P c34 none [2,3] [2,3] (q7a K) (zh 43 [(VS a b c)]) w
def quY a b c d f g h w K:=SG c34 7 [2,3] [2,3] (q7a K) 43 [(2,VS a b c),(3,VI d),(0,VS f g h)] w
abbrev qIY K:=kq c34 31 [2,3] [2,3] (q7a K)
abbrev qqY K:=qq 0 (qIY K)
def qzY K Y1 e w:=zJ (fun e w=>CS P (cA c34 500) none [7,23,6,21,2,3,22] [2,3,7] (qw [7,23,6,21,2,3,22] Y1 (qqY K)) e w) e w
abbrev q38 K Y1:=qw [7,23,6,21,2,3,22] Y1 (qqY K)
def qiQ a b c d f g h i j k l m n w K Y1:=SG c34 500 [7,23,6,21,2,3,22] [2,3,7] (q38 K Y1) 43 [(7,VS a b c),(23,VI d),(6,VP f),(21,VS g h i),(2,VS j k l),(3,VI m),(22,VI n)] w
def qtY a b c d f g h i j k l m n w K Y1:=SG c34 2003 [7,23,6,21,2,3,22] [2,3,7] (q38 K Y1) 43 [(7,VS a b c),(6,VP d),(21,VS f g h),(22,VI i),(23,VI j),(2,VS k l m),(3,VI n)] w
abbrev qCD K Y1:=kq c34 2003 [7,23,6,21,2,3,22] [2,3,7] (q38 K Y1)
abbrev qBv K Y1:=qq 1 (qCD K Y1)
def qvj a b c d f g h i j k l m n o p q w K Y1:=SG c34 64103 [7,6,21,2,3,22,23] [2,3,7,6,21,22,23] (qBv K Y1) 43 [(6,VP a),(21,VS b c d),(2,VS f g h),(3,VI i),(22,VI j),(23,VI k),(10,VS l m n),(7,VS o p q)] w
def qrD a b c d f g h i j k l m n w K Y1:=SG c34 4007 [7,23,6,21,2,3,22] [2,3,7] (q38 K Y1) 43 [(7,VS a b c),(6,VP d),(21,VS f g h),(2,VS i j k),(3,VI l),(22,VI m),(23,VI n)] w
theorem qpa:qrD a b c d e f g h i j k l m w K Y1=(Y1 (ql.mk 43 [(7,(Value.slice a b c)),(23,(Value.int .i64 (IntKind.wrap .i64 (m+1)))),(6,(Value.pointer d)),(21,(Value.slice e f g)),(2,(Value.slice h i j)),(3,(Value.int .i64 k)),(22,(Value.int .i64 l))] []) w):=kr
theorem qom:qvj a b c d e f g h i j k l m n o p w K Y1=(∃ (q:OA) (r s:Nat),∃ t:World,(Builtin.append_ #[39,39] 39 #[(Value.slice n o p),(Value.slice k l m)]).run P w=.ok (.slice q r s) t/\qrD q r s a b c d e f g h i j t K Y1):=kr
theorem qnl:qtY f g h b c d i j a k l m n w K Y1=(qi c (fun u=>0<=a/\a<(d:Nat)/\qf 6 (u.add (Int.toNat a*6)) w (fun v=>qt (qn P 45) 45 w (fun o x=>qN 6 (Addr.mk o 0 none) v x (fun p=>qf 6 (Addr.mk o 0 none) p (fun y=>qa P 7 [(Value.pointer b),(Value.agg y)] p (fun z q=>∃ (r:OA) (s t:Nat),∃ e:Int,z=(.tuple #[(Value.slice r s t),(Value.int .i64 e)])/\qC (e != 0) (K (Value.tuple #[(Value.slice none 0 0),(Value.int .i64 e)]) q) (qvj b c d i k l m n j a r s t f g h q K Y1)))))))):=kr
def qrt a b c w K:=SG c34 63 [2,3] [2,3] (q7a K) 43 [(7,VS a b c)] w
theorem qmL:qrt a b c w K=(qa P 65 [(Value.slice a b c),(Value.func (.func 66) #[] #[])] w (fun d e=>d=(.tuple #[])/\K (Value.tuple #[(Value.slice a b c),(Value.int .i64 0)]) e)):=kr
theorem qdT:qiQ a b c d f g h i j k l m e w K Y1=(qC (decide (d<e)) (qtY a b c f g h i e d j k l m w K Y1) (qrt a b c w K)):=kr
theorem qoa:quY d e f g a b c w K=(qa P 11 [] w (fun k h=>∃ i:Option Addr,k=(.pointer i)/\∃ j:Int,(∀ wq,zZ h wq->(Builtin.len_ #[22] 3 #[(Value.slice a b c)]).run P wq=.ok (.int .i64 j) wq)/\za (qzY K) (ql.mk 43 [(7,(Value.slice none 0 0)),(23,(Value.int .i64 0)),(6,(Value.pointer i)),(21,(Value.slice a b c)),(2,(Value.slice d e f)),(3,(Value.int .i64 g)),(22,(Value.int .i64 j))] []) h)):=kr
theorem qHD:f34 a b c w K=(qa P 59 [(Value.slice a b c)] w (fun g h=>∃ e:Array Value,∃ d:Int,g=(.tuple #[(Value.agg e),(Value.int .i64 d)])/\qt (qn P 141) 141 h (fun i j=>qN 3 (Addr.mk i 0 none) e j (fun f=>qC (d != 0) (K (Value.tuple #[(Value.slice none 0 0),(Value.int .i64 d)]) f) (quY none 0 0 0 a b c f K))))):=kr
theorem qFm a b c w K(h:f34 a b c w K):qa P 34 [(Value.slice a b c)] w K:=zj c34 Tryz.func34 h
def c16:=qx Tryz.f16
def qLp:=Tryz.f16.results.toList
abbrev qh2 K:=qH P qLp K
def f16 a b c w K:=CS P c16 none [2] [2] (qh2 K) (zh 30 [(VS a b c)]) w
abbrev qId K:=kq c16 7 [2] [2] (qh2 K)
abbrev qtb K:=qq 0 (qId K)
def qCS K Y0 e w:=zJ (fun e w=>CS P (cA c16 116) none [8,3,6,2,7] [2,3] (qw [8,3,6,2,7] Y0 (qtb K)) e w) e w
abbrev q2Q K Y0:=qw [8,3,6,2,7] Y0 (qtb K)
def qiD a b c d f g h w K Y0:=SG c16 116 [8,3,6,2,7] [2,3] (q2Q K Y0) 30 [(8,VI a),(3,VI b),(6,VS c d f),(2,VI g),(7,VI h)] w
def qrF a b c d f g h w K Y0:=SG c16 467 [8,3,6,2,7] [2,3] (q2Q K Y0) 30 [(6,VS a b c),(2,VI d),(7,VI f),(8,VI g),(3,VI h)] w
abbrev qFI K Y0:=kq c16 467 [8,3,6,2,7] [2,3] (q2Q K Y0)
abbrev qEV K Y0:=qq 1 (qFI K Y0)
abbrev qzz K Y0:=qq 2 (qEV K Y0)
def q0q a b c d f g h i j w K Y0:=SG c16 29901 [3,6,2,7,8] [2,3,6,7,8] (qzz K Y0) 30 [(14,VB a),(6,VS b c d),(2,VI f),(7,VI g),(8,VI h),(5,VQ i),(3,VI j)] w
def q4j a b c d f g h w K Y0:=SG c16 935 [8,3,6,2,7] [2,3] (q2Q K Y0) 30 [(3,VI a),(6,VS b c d),(2,VI f),(7,VI g),(8,VI h)] w
theorem qoC:q4j a b c d e f g w K Y0=(Y0 (ql.mk 30 [(8,(Value.int .i64 (IntKind.wrap .i64 (g+1)))),(3,(Value.int .i64 a)),(6,(Value.slice b c d)),(2,(Value.int .i64 e)),(7,(Value.int .i64 f))] []) w):=kr
theorem qnr:q0q i a b c d e f h g w K Y0=(qC i (∃ j:Int,w.cell? (h.add 5)=some (.int .i64 j)/\qC (decide (j > 0)) (∃ k:Int,w.cell? (h.add 5)=some (.int .i64 k)/\∃ l:Int,∃ m:World,(Builtin.min_ #[3,3] 3 #[(Value.int .i64 k),(Value.int .i64 1048576)]).run P w=.ok (.int .i64 l) m/\q4j (IntKind.wrap .i64 (g+l)) a b c d e f m K Y0) (q4j g a b c d e f w K Y0)) (q4j g a b c d e f w K Y0)):=kr
theorem qoo:qrF b c e f g a h w K Y0=(qi b (fun k=>0<=a/\a<(c:Nat)/\qf 6 (k.add (Int.toNat a*6)) w (fun l=>qt (qn P 45) 45 w (fun d m=>qN 6 (Addr.mk d 0 none) l m (fun i=>∃ j:Int,i.cell? (Addr.mk d 0 none)=some (.int .i64 j)/\qC (j==2) (q0q true b c e f g a (Addr.mk d 0 none) h i K Y0) (qC (j==3) (q0q true b c e f g a (Addr.mk d 0 none) h i K Y0) (qC (j==4) (q0q true b c e f g a (Addr.mk d 0 none) h i K Y0) (qC (j==22) (q0q true b c e f g a (Addr.mk d 0 none) h i K Y0) (q0q (j==23) b c e f g a (Addr.mk d 0 none) h i K Y0))))))))):=kr
def qt9 a w K:=SG c16 15 [2] [2] (qh2 K) 30 [(3,VI a)] w
theorem qpV:qt9 a w K=(K (Value.int .i64 a) w):=kr
theorem qep:qiD a b d e f g c w K Y0=(qC (decide (a<c)) (qrF d e f g c a b w K Y0) (qt9 b w K)):=kr
theorem qI7:f16 a b c w K=(∃ d:Int,(∀ wq,zZ w wq->(Builtin.len_ #[22] 3 #[(Value.slice a b c)]).run P wq=.ok (.int .i64 d) wq)/\za (qCS K) (ql.mk 30 [(8,(Value.int .i64 0)),(3,(Value.int .i64 0)),(6,(Value.slice a b c)),(2,(Value.int .i64 0)),(7,(Value.int .i64 d))] []) w):=kr
theorem qFH a b c w K(h:f16 a b c w K):qa P 16 [(Value.slice a b c)] w K:=zj c16 Tryz.func16 h
def c14:=qx Tryz.f14
def qLY:=Tryz.f14.results.toList
abbrev q8R K:=qH P qLY K
def f14 a b c d e f w K:=CS P c14 none [4] [4] (q8R K) (zh 26 [(VS a b c),(VS d e f)]) w
def quq a b c d f g h w K:=SG c14 7 [4] [4] (q8R K) 26 [(1,VS a b c),(0,VS d f g),(4,VB h)] w
abbrev qFF K:=kq c14 7 [4] [4] (q8R K)
abbrev qx6 K:=qq 0 (qFF K)
def qCv K Y1 e w:=zJ (fun e w=>CS P (cA c14 116) none [5,1,0,4] [4] (qw [5,1,0,4] Y1 (qx6 K)) e w) e w
abbrev q9v K Y1:=qw [5,1,0,4] Y1 (qx6 K)
def qjZ a b c d f g h i w K Y1:=SG c14 116 [5,1,0,4] [4] (q9v K Y1) 26 [(5,VI a),(1,VS b c d),(0,VS f g h),(4,VB i)] w
def qsO a b c d f g h i w K Y1:=SG c14 233 [5,1,0,4] [4] (q9v K Y1) 26 [(1,VS a b c),(0,VS d f g),(5,VI h),(4,VB i)] w
def qwi a b c d f g h i w K Y1:=SG c14 467 [5,1,0,4] [4] (q9v K Y1) 26 [(1,VS a b c),(0,VS d f g),(4,VB h),(5,VI i)] w
theorem qnw:qwi a b c d e f g h w K Y1=(Y1 (ql.mk 26 [(5,(Value.int .i64 (IntKind.wrap .i64 (h+1)))),(1,(Value.slice a b c)),(0,(Value.slice d e f)),(4,(Value.bool g))] []) w):=kr
theorem qoq:qsO b c f d e g a h w K Y1=(qi d (fun l=>0<=a/\a<(e:Nat)/\qi b (fun m=>0<=a/\a<(c:Nat)/\qf 11 (l.add (Int.toNat a*11)) w.drew (fun i=>qf 11 (m.add (Int.toNat a*11)) w.drew (fun j=>∃ k:Bool,(∀ wq,(do eqGuard .neq 108 (.tmp 20) (.tmp 24) (Value.agg i) (Value.agg j);binOp .neq 108 (Value.agg i) (Value.agg j):Sem Value).run P wq=.ok (.bool k) wq)/\qC k (K (Value.bool false) w.drew) (qwi b c f d e g h a w.drew K Y1)))))):=kr
def qsm w K:=SG c14 15 [4] [4] (q8R K) 26 [] w
theorem qm2:qsm w K=(K (Value.bool true) w):=kr
theorem qdq:qjZ a e f g b c d h w K Y1=(∃ i:Int,(∀ wq,zZ w wq->(Builtin.len_ #[39] 3 #[(Value.slice b c d)]).run P wq=.ok (.int .i64 i) wq)/\qC (decide (a<i)) (qsO e f g b c d a h w K Y1) (qsm w K)):=kr
theorem qpk:quq a b c d e f g w K=(za (qCv K) (ql.mk 26 [(5,(Value.int .i64 0)),(1,(Value.slice a b c)),(0,(Value.slice d e f)),(4,(Value.bool g))] []) w):=kr
theorem qJf:f14 a b c d e f w K=(∃ g:Int,(∀ wq,zZ w wq->(Builtin.len_ #[39] 3 #[(Value.slice a b c)]).run P wq=.ok (.int .i64 g) wq)/\∃ h:Int,(∀ wq,zZ w wq->(Builtin.len_ #[39] 3 #[(Value.slice d e f)]).run P wq=.ok (.int .i64 h) wq)/\qC (g != h) (K (Value.bool false) w) (quq d e f a b c false w K)):=kr
theorem qG7 a b c d e f w K(h:f14 a b c d e f w K):qa P 14 [(Value.slice a b c),(Value.slice d e f)] w K:=zj c14 Tryz.func14 h
end Go.Fx.Tryz
