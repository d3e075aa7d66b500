/- A part of the proof. -/
import Derived.Test.YtamciedmojpjaaaKdXh
import Derived.Test.YtamciedmojpjaaaKbXh
import Derived.Test.YtamciedmojpjaaaKcXh
import Derived.KernelRfl
namespace Go.Fx.Mo
def wl:List Int→Ob→List Ob
 | [],_=>[]
 | a::r,last=>if ((true,w32 (a.tdiv 4)):Ob)=last then wl r last else (true,w32 (a.tdiv 4))::wl r (true,w32 (a.tdiv 4))
theorem wl_fold:∀ (bs:List Int) (l0:List Ob),bs.foldl (fun l a=>if l.getLast?=some ((true,w32 (a.tdiv 4)):Ob) then l else l++[(true,w32 (a.tdiv 4))]) l0=l0++wl bs (l0.getLast?.getD (false,0))
 | [],l0=>by simp [wl]
 | a::r,l0=>by
  rw [List.foldl_cons]
  by_cases hx:l0.getLast?=some ((true,w32 (a.tdiv 4)):Ob)
  ·rw [if_pos hx,wl_fold r l0,wl,hx]
   simp
  ·rw [if_neg hx,wl_fold r (l0++[(true,w32 (a.tdiv 4))]),wl]
   have hne:¬ ((true,w32 (a.tdiv 4)):Ob)=l0.getLast?.getD (false,0):=by
    cases hl:l0.getLast? with
    | none=>simp
    | some y=>
     intro he
     rw [hl] at hx
     exact hx (by rw [he]; rfl)
   rw [if_neg hne,List.getLast?_append]
   simp
theorem words_wl (e:Ev):words e=wl (bytes e.a e.n) (false,0):=by
 unfold words bytes
 have h:=wl_fold ((List.range e.n.toNat).map fun i:Nat=>w32 (e.a+w32 (i:Int))) []
 rw [List.foldl_map,List.nil_append] at h
 exact h
theorem atomicL_is (T:Th) (e:Ev):∀ (bs:List Int) (last:Ob) (p:Pl),atomicL T e bs last p=(wl bs last).foldl (fun p x=>touchP T e 4 p x) p
 | [],_,_=>rfl
 | a::r,last,p=>by
  unfold atomicL wl
  dsimp only
  split
  ·exact atomicL_is T e r last p
  ·rw [List.foldl_cons,atomicL_is T e r _ _]; rfl
theorem number_bad {T:Th} {p:Pl} {x:Ob} (h:p.bad=true):(number T p x).2.bad=true:=by
 unfold number
 split
 ·exact h
 ·split
  ·exact h
  ·simp [h]
theorem touchP_bad {T:Th} {e:Ev} {k:Int} {p:Pl} {x:Ob} (h:p.bad=true):(touchP T e k p x).bad=true:=by
 have:=number_bad (T:=T) (x:=x) h
 unfold touchP
 simp only
 split <;> split <;> exact this
theorem fold_bad {T:Th} {e:Ev} {k:Int}:∀ (ws:List Ob) (p:Pl),p.bad=true→(ws.foldl (fun p x=>touchP T e k p x) p).bad=true
 | [],_,h=>h
 | x::t,p,h=>by
  rw [List.foldl_cons]
  exact fold_bad t _ (touchP_bad h)
theorem touchP_same (T:Th) (e:Ev) (k:Int) (p:Pl) (x:Ob):(touchP T e k p x).fork=p.fork∧(touchP T e k p x).ends=p.ends:=by
 have:=number_same T p x
 unfold touchP
 simp only
 split <;> split <;> exact ⟨this.1,this.2⟩
theorem fold_same (T:Th) (e:Ev) (k:Int):∀ (ws:List Ob) (p:Pl),(ws.foldl (fun p x=>touchP T e k p x) p).fork=p.fork∧(ws.foldl (fun p x=>touchP T e k p x) p).ends=p.ends
 | [],_=>⟨rfl,rfl⟩
 | x::t,p=>by
  rw [List.foldl_cons]
  have h1:=fold_same T e k t (touchP T e k p x)
  have h2:=touchP_same T e k p x
  exact ⟨h1.1.trans h2.1,h1.2.trans h2.2⟩
theorem atomics_step {T:Th} {e:Ev} {i:Int} {r0:RR} (ht:0≤e.th∧e.th < 8) (hbe:getB T.begun e.th=true) (hen:getB T.ended e.th=false):∀ (ws:List Ob) (r:RR) (p:Pl) (tk:List Int) (B:Int),PR T e i r0 p r tk B→0≤B→B+ws.length < 4611686018427387904→
  (rtouches e i ws r=none∧(ws.foldl (fun p x=>touchP T e 4 p x) p).bad=true)∨∃ r',rtouches e i ws r=some r'∧∃ ext,PR T e i r0 (ws.foldl (fun p x=>touchP T e 4 p x) p) r' (tk++ext) (B+ws.length)
 | [],r,p,tk,B,h,h0,hB=>.inr ⟨r,rfl,[],by simpa using h⟩
 | x::t,r,p,tk,B,h,h0,hB=>by
  simp only [List.length_cons] at hB
  rw [List.foldl_cons]
  rcases touch_step (x:=x) h ht (.inr (.inr rfl)) hbe hen (by omega) h0 h.vi.len with ⟨h1,h2⟩ | ⟨r',h1,v,h2⟩
  ·refine .inl ⟨?_,fold_bad t _ h2⟩
   unfold rtouches
   rw [h1]
  ·rcases atomics_step ht hbe hen t r' _ _ (B+1) h2 (by omega) (by omega) with ⟨h3,h4⟩ | ⟨r2,h3,ext,h4⟩
   ·refine .inl ⟨?_,h4⟩
    unfold rtouches
    rw [h1]
    exact h3
   ·refine .inr ⟨r2,?_,v::ext,?_⟩
    ·unfold rtouches
     rw [h1]
     exact h3
    ·have e1:tk++v::ext=(tk++[v])++ext:=by simp
     have e2:B+((x::t).length:Nat)=B+1+(t.length:Nat):=by simp only [List.length_cons]; omega
     rw [e1,e2]
     exact h4
structure SR (T:Th) (r:RR) (tk:List Int) (B:Int):Prop where
 begun:r.begun=T.begun
 ended:r.ended=T.ended
 names:T.names=enumO 0 r.objs
 nd:r.objs.Nodup
 few:r.objs.length≤65536
 vi:VI (getC T.clocks) (fun k=>(look T.objs k).getD zeroC) r.L tk r.objs B
 cl8:T.clocks.length=8
 bl:T.begun.length=8
 el:T.ended.length=8
 pos:0≤B
theorem SR.pl {T:Th} {r:RR} {tk:List Int} {B:Int} (h:SR T r tk B) (e:Ev) (i:Int):PR T e i r (pl0 T e) r tk B:=by
 refine ⟨by simp [pl0],by simp [pl0],h.begun,h.ended,by simpa [pl0] using h.names,h.nd,h.few,rfl,by simp [pl0],h.vi.congr (fun u _ _=>?_) (fun k=>rfl) (Int.le_refl B),by simp [pl0],by simp [pl0]⟩
 unfold clP
 split
 ·rename_i hu; rw [hu]; rfl
 ·rfl
theorem perform_fields (T:Th) (e:Ev) (p:Pl):(perform T e p).begun=(if p.fork≥0 then T.begun.set p.fork.toNat true else T.begun)∧(perform T e p).ended=(if p.ends≥0 then T.ended.set p.ends.toNat true else T.ended)∧
  (perform T e p).names=putAll T.names p.names∧(perform T e p).objs=putAll T.objs p.objs:=by
 unfold perform
 simp only
 split <;> split <;> split <;> exact ⟨rfl,rfl,rfl,rfl⟩
structure EvR (T:Th) (e:Ev) (i:Int) (r0:RR) (tk0:List Int) (p:Pl) (r:RR) (tk:List Int) (B:Int):Prop where
 sr:SR (perform T e p) r tk B
 L:r.L=r0.L++p.orders
 of:r.of=r0.of++List.replicate p.orders.length i
 ne:p.orders≠[]
 ths:∀ o∈p.orders,o.th=e.th
 tkp:p.tk=tk.getD r0.L.length 0
 ext:∃ ext,tk=tk0++ext
 own:∀ a,a < r.L.length→(tk.getD a 0≤at0 p.own (opA r.L a).th↔Kn r.L a (edge e.th))
 th:0≤e.th∧e.th < 8
theorem PR.finish {T:Th} {e:Ev} {i:Int} {r0 r:RR} {p:Pl} {tk0 tk:List Int} {B B':Int} (h:PR T e i r0 p r tk B) (h0:SR T r0 tk0 B') (ht:0≤e.th∧e.th < 8) (hf:p.fork=-1) (he:p.ends=-1) (hne:p.orders≠[]) (hB:B≤B'+16) (hext:∃ ext,tk=tk0++ext) :
  EvR T e i r0 tk0 p r tk (B'+16):=by
 obtain ⟨f1,f2,f3,f4⟩:=perform_fields T e p
 rw [hf,if_neg (by omega)] at f1
 rw [he,if_neg (by omega)] at f2
 have hcl:∀ u,0≤u→u < 8→getC (perform T e p).clocks u=clP T e p u:=fun u u0 u8=>by
  rw [perform_clocks,if_neg (by omega),getC_set (by rw [h0.cl8]; omega)]
  unfold clP
  by_cases hu:u=e.th
  ·rw [if_pos hu,if_pos (by rw [hu])]
  ·rw [if_neg hu,if_neg (by omega)]
 have hvi:VI (getC (perform T e p).clocks) (fun k=>(look (perform T e p).objs k).getD zeroC) r.L tk r.objs (B'+16):=h.vi.congr hcl (fun k=>perform_objs h.ndo k) hB
 refine ⟨⟨h.begun.trans f1.symm,h.ended.trans f2.symm,?_,h.nd,h.few,hvi,?_,by rw [f1]; exact h0.bl,by rw [f2]; exact h0.el,by have:=h0.pos; omega⟩,h.L,h.of,hne,h.ths,?_,hext,fun a ha=>?_,ht⟩
 ·rw [f3,putAll_new,h.names]
  rw [h.names,enumO_keys]
  exact h.nd
 ·rw [perform_clocks,if_neg (by omega),List.length_set]; exact h0.cl8
 ·rw [h.tkp,if_neg hne]
 ·have:=h.vi.T e.th ht.1 ht.2 a ha
  unfold clP at this
  rw [if_pos rfl] at this
  exact this
theorem single {T:Th} {e:Ev} {i:Int} {r0:RR} {tk:List Int} {B:Int} (h:SR T r0 tk B) (hB:B < 4611686018427387888) (ht:0≤e.th∧e.th < 8) {o:Ord} {p:Pl} {own0:Clk} (ho:o.th=e.th) (hk:o.kind=1∨o.kind=5∨o.kind=6)
  (h0B:CB own0 B) (hown0:∀ s v,v≤at0 own0 s↔v≤at0 (getC T.clocks e.th) s∨(o.kind=6∧v≤at0 (getC T.clocks o.other) s))
  (hj:o.kind=6→0≤o.other∧o.other < 8) (hf:o.kind=5→0≤o.other∧o.other < 8∧o.other≠o.th)
  (pown:p.own=own0.set e.th.toNat (w64 (at0 own0 e.th+1))) (por:p.orders=[o]) (pob:p.objs=[]) (pna:p.names=[]) (ptk:p.tk=at0 p.own e.th) (pf:p.fork=if o.kind=5 then o.other else -1) (pe:p.ends=if o.kind=6 then o.other else -1) :
  EvR T e i r0 tk p { r0 with L:=r0.L++[o],of:=r0.of++[i],begun:=if o.kind=5 then r0.begun.set o.other.toNat true else r0.begun,ended:=if o.kind=6 then r0.ended.set o.other.toNat true else r0.ended } (tk++[at0 p.own e.th]) (B+16):=by
 obtain ⟨f1,f2,f3,f4⟩:=perform_fields T e p
 have h8:own0.length=8:=h0B.1
 have ha0:=h0B.2 e.th
 have hown:∀ s,at0 p.own s=if s.toNat=e.th.toNat then at0 own0 e.th+1 else at0 own0 s:=fun s=>by
  rw [pown,set_at (by rw [h8]; omega),w64_small (by omega) (by omega)]
 have hownB:CB p.own (B+1):=by
  refine ⟨by rw [pown,List.length_set]; exact h8,fun s=>?_⟩
  rw [hown s]
  have:=h0B.2 s
  split <;> omega
 have hfork:p.fork≥0↔o.kind=5:=by
  rw [pf]
  constructor
  ·intro hh
   by_cases h5:o.kind=5
   ·exact h5
   ·rw [if_neg h5] at hh; omega
  ·intro h5
   rw [if_pos h5]
   exact (hf h5).1
 have hends:p.ends≥0↔o.kind=6:=by
  rw [pe]
  constructor
  ·intro hh
   by_cases h6:o.kind=6
   ·exact h6
   ·rw [if_neg h6] at hh; omega
  ·intro h6
   rw [if_pos h6]
   exact (hj h6).1
 have hi:e.th.toNat < T.clocks.length:=by rw [h.cl8]; omega
 have hvi:VI (getC (perform T e p).clocks) (fun k=>(look (perform T e p).objs k).getD zeroC) (r0.L++[o]) (tk++[at0 p.own o.th]) r0.objs (B+1):=by
  refine h.vi.op (own:=p.own) (own0:=own0) (x:=(false,0)) (by rw [ho]; exact ht) (fun s v=>?_) (fun s s0 s8=>?_) hownB hj hf (fun hh=>?_) (fun u u0 u8=>?_) (fun k=>?_)
  ·rw [hown0 s v,ho]
   have:acqK o=false:=by unfold acqK; rw [Bool.or_eq_false_iff,beq_eq_false_iff_ne,beq_eq_false_iff_ne]; omega
   rw [this]
   simp
  ·rw [hown s,ho]
   by_cases hs:s=e.th
   ·rw [if_pos hs,if_pos (by rw [hs])]
   ·rw [if_neg hs,if_neg (by omega)]
  ·have h1:acqK o=false:=by unfold acqK; rw [Bool.or_eq_false_iff,beq_eq_false_iff_ne,beq_eq_false_iff_ne]; omega
   have h2:relK o=false:=by unfold relK; rw [Bool.or_eq_false_iff,beq_eq_false_iff_ne,beq_eq_false_iff_ne]; omega
   rw [h1,h2] at hh
   rcases hh with hh | hh <;> cases hh
  ·rw [perform_clocks,ho]
   by_cases h5:o.kind=5
   ·obtain ⟨g0,g8,gne⟩:=hf h5
    rw [ho] at gne
    have hpf:p.fork=o.other:=by rw [pf,if_pos h5]
    have g1:∀ v,getC (T.clocks.set e.th.toNat p.own) v=if v.toNat=e.th.toNat then p.own else getC T.clocks v:=fun v=>getC_set hi _ v
    rw [if_pos (hfork.2 h5),hpf,getC_set (l:=T.clocks.set e.th.toNat p.own) (i:=o.other.toNat) (by rw [List.length_set,h.cl8]; omega) _ u,g1 u,g1 o.other]
    have n1:¬ o.other.toNat=e.th.toNat:=by omega
    rw [if_neg n1]
    by_cases hu:u=e.th
    ·subst hu
     have n2:¬ e.th.toNat=o.other.toNat:=by omega
     rw [if_neg n2,if_pos rfl,if_pos rfl]
    ·rw [if_neg hu]
     by_cases hu2:u=o.other
     ·subst hu2
      rw [if_pos rfl,if_pos ⟨h5,rfl⟩]
     ·have n2:¬ u.toNat=o.other.toNat:=by omega
      have n3:¬ u.toNat=e.th.toNat:=by omega
      rw [if_neg n2,if_neg n3,if_neg (fun hh=>hu2 hh.2)]
   ·rw [if_neg (fun hh=>h5 (hfork.1 hh)),getC_set hi]
    by_cases hu:u=e.th
    ·rw [if_pos hu,if_pos (by rw [hu])]
    ·rw [if_neg hu,if_neg (by omega),if_neg (fun hh=>h5 hh.1)]
  ·have h2:relK o=false:=by unfold relK; rw [Bool.or_eq_false_iff,beq_eq_false_iff_ne,beq_eq_false_iff_ne]; omega
   rw [h2,f4,pob]
   simp [putAll]
 rw [ho] at hvi
 have hvi2:=hvi.congr (fun _ _ _=>rfl) (fun _=>rfl) (by omega:B+1≤B+16)
 have hb5:(if p.fork≥0 then T.begun.set p.fork.toNat true else T.begun)=if o.kind=5 then T.begun.set o.other.toNat true else T.begun:=by
  by_cases h5:o.kind=5
  ·rw [if_pos (hfork.2 h5),if_pos h5,pf,if_pos h5]
  ·rw [if_neg (fun hh=>h5 (hfork.1 hh)),if_neg h5]
 have hb6:(if p.ends≥0 then T.ended.set p.ends.toNat true else T.ended)=if o.kind=6 then T.ended.set o.other.toNat true else T.ended:=by
  by_cases h6:o.kind=6
  ·rw [if_pos (hends.2 h6),if_pos h6,pe,if_pos h6]
  ·rw [if_neg (fun hh=>h6 (hends.1 hh)),if_neg h6]
 refine ⟨⟨?_,?_,?_,h.nd,h.few,hvi2,?_,?_,?_,by have:=h.pos; omega⟩,?_,?_,by rw [por]; simp,fun o' ho'=>?_,?_,⟨_,rfl⟩,fun a ha=>?_,ht⟩
 ·rw [f1,hb5]; show (if o.kind=5 then _ else _)=_; rw [h.begun]
 ·rw [f2,hb6]; show (if o.kind=6 then _ else _)=_; rw [h.ended]
 ·rw [f3,pna]; exact h.names
 ·rw [perform_clocks]; split <;> simp [h.cl8]
 ·rw [f1]; split <;> simp [h.bl]
 ·rw [f2]; split <;> simp [h.el]
 ·rw [por]
 ·rw [por]; rfl
 ·rw [por] at ho'; simp at ho'; rw [ho']; exact ho
 ·rw [ptk,← h.vi.len]
  simp [List.getD]
 ·have:=hvi.T e.th ht.1 ht.2 a ha
  have hc:getC (perform T e p).clocks e.th=p.own:=by
   rw [perform_clocks]
   by_cases h5:o.kind=5
   ·obtain ⟨g0,g8,gne⟩:=hf h5
    rw [ho] at gne
    have hpf:p.fork=o.other:=by rw [pf,if_pos h5]
    have n2:¬ e.th.toNat=o.other.toNat:=by omega
    rw [if_pos (hfork.2 h5),hpf,getC_set (l:=T.clocks.set e.th.toNat p.own) (i:=o.other.toNat) (by rw [List.length_set,h.cl8]; omega) _ e.th,if_neg n2,getC_set hi,if_pos rfl]
   ·rw [if_neg (fun hh=>h5 (hfork.1 hh)),getC_set hi,if_pos rfl]
  rw [hc] at this
  exact this
end Go.Fx.Mo
namespace Go.Fx.Mo
theorem rput_bar {r:RR} {o:Ord} {i:Int} (h:getB r.begun o.th=false∨getB r.ended o.th=true):rput r o i=none:=by
 unfold rput barred
 rcases h with h | h
 ·rw [h]; simp
 ·rw [h]; simp
theorem rtouch_bar {r:RR} {k:Int} {e:Ev} {x:Ob} {i:Int} (h:getB r.begun e.th=false∨getB r.ended e.th=true):rtouch r k e x i=none:=by
 unfold rtouch
 split
 ·rfl
 ·have hc:(come r x).begun=r.begun∧(come r x).ended=r.ended:=by unfold come; split <;> exact ⟨rfl,rfl⟩
  exact rput_bar (by rw [hc.1,hc.2]; exact h)
theorem words_ne {e:Ev} (h:1≤e.n):words e≠[]:=by
 rw [words_wl]
 unfold bytes
 obtain ⟨m,hm⟩:∃ m,e.n.toNat=m+1:=⟨e.n.toNat - 1,by omega⟩
 rw [hm,List.range_succ_eq_map]
 simp [wl]
theorem rtouches_len {e:Ev} {i:Int}:∀ {l:List Ob} {r r':RR},rtouches e i l r=some r'→r'.L.length=r.L.length+l.length
 | [],r,r',h=>by cases h; rfl
 | x::t,r,r',h=>by
  unfold rtouches at h
  split at h
  ·cases h
  ·rename_i r2 h2
   have h3:=rtouches_len h
   have h4:r2.L.length=r.L.length+1:=by
    unfold rtouch at h2
    split at h2
    ·cases h2
    ·unfold rput at h2
     split at h2
     ·cases h2
     ·cases h2
      have:(come r x).L=r.L:=by unfold come; split <;> rfl
      simp [this]
   rw [h3,h4,List.length_cons]; omega
theorem shaped_refused (T:Th) (e:Ev):refused T e=(!shaped e || !getB T.begun e.th || getB T.ended e.th):=by
 have hacc:(accesses e).2.2=acs e∧(accesses e).2.1=decide (e.kind=4):=by
  unfold accesses acs ld sto
  by_cases h2:e.kind=2∨e.kind=23
  ·rw [if_pos h2]
   rcases h2 with h2 | h2 <;> simp [h2]
  ·rw [if_neg h2]
   by_cases h3:e.kind=3∨e.kind=22
   ·rw [if_pos h3]
    rcases h3 with h3 | h3 <;> simp [h3]
   ·rw [if_neg h3]
    by_cases h4:e.kind=4
    ·rw [if_pos h4]; simp [h4]
    ·rw [if_neg h4]
     simp only [not_or] at h2 h3
     simp [h2,h3,h4]
 unfold refused shaped
 rw [hacc.1,hacc.2]
 by_cases h1:e.kind < 1∨e.kind > 24∨e.th < 0∨e.th≥8
 ·rw [if_pos h1]
  rcases h1 with h | h | h | h <;> simp [h]
 ·rw [if_neg h1]
  have a1:decide (e.kind < 1)=false:=by simp; omega
  have a2:decide (e.kind > 24)=false:=by simp; omega
  have a3:decide (e.th < 0)=false:=by simp; omega
  have a4:decide (e.th≥8)=false:=by simp; omega
  rw [a1,a2,a3,a4]
  by_cases h4:e.kind=4
  ·rw [if_pos h4,decide_eq_true h4]
   have ha:acs e=true:=by unfold acs sto; simp [h4]
   rw [ha]
   by_cases n1:e.n < 1
   ·have:decide (e.n≥1)=false:=by simp; omega
    rw [this,decide_eq_true n1]; simp
   ·by_cases n2:e.n > 16
    ·have:decide (e.n≤16)=false:=by simp; omega
     rw [this,decide_eq_true n2]; simp
    ·have b1:decide (e.n≥1)=true:=by simp; omega
     have b2:decide (e.n≤16)=true:=by simp; omega
     have b3:decide (e.n < 1)=false:=by simp; omega
     have b4:decide (e.n > 16)=false:=by simp; omega
     have b5:decide (e.n < 0)=false:=by simp; omega
     have b6:decide (e.n > 65536)=false:=by simp; omega
     rw [b1,b2,b3,b4,b5,b6]
     cases getB T.begun e.th <;> cases getB T.ended e.th <;> rfl
  ·rw [if_neg h4,decide_eq_false h4]
   cases ha:acs e
   ·cases getB T.begun e.th <;> cases getB T.ended e.th <;> rfl
   ·by_cases n1:e.n < 0
    ·have:decide (e.n≥0)=false:=by simp; omega
     rw [this,decide_eq_true n1]; simp
    ·by_cases n2:e.n > 65536
     ·have:decide (e.n≤65536)=false:=by simp; omega
      rw [this,decide_eq_true n2]; simp
     ·have b1:decide (e.n≥0)=true:=by simp; omega
      have b2:decide (e.n≤65536)=true:=by simp; omega
      have b5:decide (e.n < 0)=false:=by simp; omega
      have b6:decide (e.n > 65536)=false:=by simp; omega
      rw [b1,b2,b5,b6]
      cases getB T.begun e.th <;> cases getB T.ended e.th <;> rfl
theorem shaped_n {e:Ev} (h:shaped e=true):(e.kind=4→1≤e.n∧e.n≤16)∧1≤e.kind∧e.kind≤24:=by
 unfold shaped at h
 split at h
 ·cases h
 ·rename_i hk
  refine ⟨fun h4=>?_,by omega,by omega⟩
  rw [if_pos h4] at h
  simpa using h
theorem plan_both {T:Th} {r0:RR} {tk:List Int} {B:Int} (h:SR T r0 tk B) (hB:B < 4611686018427387000) (e:Ev) (i:Int) :
  (plan T e=none∧rwith r0 e i=none)∨∃ p r' tk',plan T e=some p∧rwith r0 e i=some r'∧EvR T e i r0 tk p r' tk' (B+16):=by
 have hpos:=h.pos
 have href:=shaped_refused T e
 cases hs:shaped e
 ·left
  refine ⟨?_,by unfold rwith; rw [if_pos hs]⟩
  unfold plan
  rw [href,hs]
  simp
 ·have hsf:¬ shaped e=false:=by simp [hs]
  obtain ⟨h4n,hk1,hk24⟩:=shaped_n hs
  have ht:0≤e.th∧e.th < 8:=⟨(shaped_th hs).1,(shaped_th hs).2.1⟩
  by_cases hlive:getB T.begun e.th=true∧getB T.ended e.th=false
  ·obtain ⟨hbe,hen⟩:=hlive
   have hr:refused T e=false:=by rw [href,hs,hbe,hen]; rfl
   have hplan:plan T e=if (act T e (pl0 T e)).bad then none else some (act T e (pl0 T e)):=by
    unfold plan
    rw [hr]
    simp
   rw [hplan]
   have hpl:=h.pl e i
   have pf:(pl0 T e).fork=-1:=rfl
   have pe:(pl0 T e).ends=-1:=rfl
   unfold rwith
   rw [if_neg hsf]
   have one:∀ (k:Int) (x:Ob),(k=2∨k=3∨k=4)→act T e (pl0 T e)=touchP T e k (pl0 T e) x→
     (((if (act T e (pl0 T e)).bad then none else some (act T e (pl0 T e)))=none∧rtouch r0 k e x i=none)∨∃ p r' tk',(if (act T e (pl0 T e)).bad then none else some (act T e (pl0 T e)))=some p∧rtouch r0 k e x i=some r'∧EvR T e i r0 tk p r' tk' (B+16)):=by
    intro k x hk ha
    rw [ha]
    rcases touch_step (x:=x) hpl ht hk hbe hen (by omega) hpos h.vi.len with ⟨h1,h2⟩ | ⟨r',h1,v,h2⟩
    ·left
     rw [if_pos h2]
     exact ⟨rfl,h1⟩
    ·right
     have hb:¬ (touchP T e k (pl0 T e) x).bad=true:=by rw [h2.bad]; decide
     rw [if_neg hb]
     refine ⟨_,r',_,rfl,h1,h2.finish h ht ((touchP_same T e k _ x).1.trans pf) ((touchP_same T e k _ x).2.trans pe) ?_ (by omega) ⟨[v],rfl⟩⟩
     intro hne
     have h3:=h2.L
     rw [hne,List.append_nil] at h3
     have h4:r'.L.length=r0.L.length+1:=by
      have:=rtouches_len (e:=e) (i:=i) (l:=[x]) (r:=r0) (r':=r')
      unfold rtouch at h1
      split at h1
      ·cases h1
      ·unfold rput at h1
       split at h1
       ·cases h1
       ·cases h1
        have:(come r0 x).L=r0.L:=by unfold come; split <;> rfl
        simp [this]
     rw [h3] at h4; omega
   by_cases k4:e.kind=4
   ·rw [if_pos k4]
    have ha:act T e (pl0 T e)=(words e).foldl (fun p x=>touchP T e 4 p x) (pl0 T e):=by
     unfold act
     rw [if_pos k4,words_wl]
     exact atomicL_is T e _ _ _
    rw [ha]
    have hwl:(words e).length≤16:=by
     have:=wfold_len e e.n.toNat
     have:=h4n k4
     unfold words; omega
    rcases atomics_step ht hbe hen (words e) r0 (pl0 T e) tk B hpl hpos (by omega) with ⟨h1,h2⟩ | ⟨r',h1,ext,h2⟩
    ·left
     rw [if_pos h2]
     exact ⟨rfl,h1⟩
    ·right
     have hb:¬ ((words e).foldl (fun p x=>touchP T e 4 p x) (pl0 T e)).bad=true:=by rw [h2.bad]; decide
     rw [if_neg hb]
     refine ⟨_,r',_,rfl,h1,h2.finish h ht ((fold_same T e 4 (words e) _).1.trans pf) ((fold_same T e 4 (words e) _).2.trans pe) ?_ (by omega) ⟨ext,rfl⟩⟩
     intro hne
     have h3:=h2.L
     rw [hne,List.append_nil] at h3
     have h4:=rtouches_len h1
     have h5:=List.length_pos_iff.2 (words_ne (h4n k4).1)
     rw [h3] at h4; omega
   ·rw [if_neg k4]
    by_cases k14:e.kind=14
    ·rw [if_pos k14]
     refine one 3 (false,e.a) (by omega) ?_
     unfold act
     rw [if_neg k4,if_neg (by omega),if_neg (by omega),if_pos k14]
     rfl
    ·rw [if_neg k14]
     by_cases k15:e.kind=15
     ·rw [if_pos k15]
      refine one 2 (false,e.a) (by omega) ?_
      unfold act
      rw [if_neg k4,if_neg (by omega),if_neg (by omega),if_neg k14,if_pos k15]
      rfl
     ·rw [if_neg k15]
      have hcb:=h.vi.cb e.th ht.1 ht.2
      have rbe:getB r0.begun e.th=true:=by rw [h.begun]; exact hbe
      have ren:getB r0.ended e.th=false:=by rw [h.ended]; exact hen
      by_cases k11:e.kind=11
      ·rw [if_pos k11]
       have ha:act T e (pl0 T e)=spawn T e (pl0 T e):=by unfold act; rw [if_neg k4,if_pos k11]
       rw [ha]
       by_cases hbad:(!otherIs e || getB T.begun e.n)=true
       ·left
        have hb:(spawn T e (pl0 T e)).bad=true:=by unfold spawn; rw [if_pos hbad]
        rw [if_pos hb]
        refine ⟨rfl,?_⟩
        have:barred r0 ⟨5,e.th,e.n,0⟩=true:=by
         unfold barred
         rw [h.begun]
         unfold otherIs at hbad
         by_cases hn0:e.n < 0
         ·simp [hn0]
         ·by_cases hn8:e.n≥8
          ·simp [hn8]
          ·have a1:decide (e.n≥0)=true:=by simp; omega
           have a2:decide (e.n < 8)=true:=by simp; omega
           rw [a1,a2] at hbad
           simp at hbad
           simp [hbad]
        unfold rput
        rw [if_pos this]
       ·right
        have hb0:(!otherIs e || getB T.begun e.n)=false:=by simpa using hbad
        rw [Bool.or_eq_false_iff] at hb0
        obtain ⟨ho,hbn⟩:=hb0
        have ho:otherIs e=true:=by simpa using ho
        have hn:0≤e.n∧e.n < 8:=by unfold otherIs at ho; simpa using ho
        have hne:e.n≠e.th:=fun he=>by rw [he,hbe] at hbn; cases hbn
        have hsp:spawn T e (pl0 T e)={ tick e (pl0 T e) ⟨5,0,e.n,0⟩ with fork:=e.n,rel:=true }:=by
         unfold spawn
         rw [if_neg hbad]
        have hb:¬ (spawn T e (pl0 T e)).bad=true:=by rw [hsp]; exact Bool.false_ne_true
        rw [if_neg hb]
        have hbar:barred r0 ⟨5,e.th,e.n,0⟩=false:=by
         unfold barred
         have a1:decide (e.n < 0)=false:=by simp; omega
         have a2:decide (e.n≥8)=false:=by simp; omega
         simp only
         rw [rbe,ren,a1,a2,h.begun,hbn]; rfl
        have hrp:rput r0 ⟨5,e.th,e.n,0⟩ i=some { r0 with L:=r0.L++[⟨5,e.th,e.n,0⟩],of:=r0.of++[i],begun:=if (5:Int)=5 then r0.begun.set e.n.toNat true else r0.begun,ended:=if (5:Int)=6 then r0.ended.set e.n.toNat true else r0.ended }:=by
         unfold rput
         rw [hbar]
         rfl
        refine ⟨_,_,_,rfl,hrp,single h (by omega) ht (o:=⟨5,e.th,e.n,0⟩) (own0:=getC T.clocks e.th) rfl (.inr (.inl rfl)) hcb (fun s v=>?_) (fun h6=>?_) (fun _=>⟨hn.1,hn.2,hne⟩) ?_ ?_ ?_ ?_ ?_ ?_ ?_⟩
        ·constructor
         ·exact fun hh=>.inl hh
         ·rintro (hh | ⟨hh,_⟩)
          ·exact hh
          ·cases hh
        ·cases h6
        all_goals rw [hsp]; rfl
      ·rw [if_neg k11]
       by_cases k13:e.kind=13
       ·rw [if_pos k13]
        have ha:act T e (pl0 T e)=join T e (pl0 T e):=by unfold act; rw [if_neg k4,if_neg k11,if_pos k13]
        rw [ha]
        by_cases hbad:(!otherIs e || !getB T.begun e.n || getB T.ended e.n || e.n == e.th)=true
        ·left
         have hb:(join T e (pl0 T e)).bad=true:=by unfold join; rw [if_pos hbad]
         rw [if_pos hb]
         refine ⟨rfl,?_⟩
         have:barred r0 ⟨6,e.th,e.n,0⟩=true:=by
          unfold barred
          rw [h.begun,h.ended]
          unfold otherIs at hbad
          by_cases hn0:e.n < 0
          ·simp [hn0]
          ·by_cases hn8:e.n≥8
           ·simp [hn8]
           ·have a1:decide (e.n≥0)=true:=by simp; omega
            have a2:decide (e.n < 8)=true:=by simp; omega
            rw [a1,a2] at hbad
            simp only [Bool.and_self,Bool.not_true,Bool.false_or] at hbad
            simp only
            rw [show ((6:Int) == 5)=false from rfl,show ((6:Int) == 6)=true from rfl]
            simp only [Bool.false_or,Bool.true_and,Bool.false_and]
            rw [hbad]
            simp
         unfold rput
         rw [if_pos this]
        ·right
         have hb0:(!otherIs e || !getB T.begun e.n || getB T.ended e.n || e.n == e.th)=false:=by simpa using hbad
         rw [Bool.or_eq_false_iff,Bool.or_eq_false_iff,Bool.or_eq_false_iff] at hb0
         obtain ⟨⟨⟨ho,hbn⟩,hen'⟩,hne⟩:=hb0
         have ho:otherIs e=true:=by simpa using ho
         have hn:0≤e.n∧e.n < 8:=by unfold otherIs at ho; simpa using ho
         have hjn:join T e (pl0 T e)={ tick e { pl0 T e with own:=joinC (pl0 T e).own (getC T.clocks e.n) } ⟨6,0,e.n,0⟩ with ends:=e.n }:=by
          unfold join
          rw [if_neg hbad]
         have hb:¬ (join T e (pl0 T e)).bad=true:=by rw [hjn]; exact Bool.false_ne_true
         rw [if_neg hb]
         have hbar:barred r0 ⟨6,e.th,e.n,0⟩=false:=by
          unfold barred
          have a1:decide (e.n < 0)=false:=by simp; omega
          have a2:decide (e.n≥8)=false:=by simp; omega
          simp only
          rw [rbe,ren,a1,a2,h.begun,h.ended,hbn,hen',hne]; rfl
         have hrp:rput r0 ⟨6,e.th,e.n,0⟩ i=some { r0 with L:=r0.L++[⟨6,e.th,e.n,0⟩],of:=r0.of++[i],begun:=if (6:Int)=5 then r0.begun.set e.n.toNat true else r0.begun,ended:=if (6:Int)=6 then r0.ended.set e.n.toNat true else r0.ended }:=by
          unfold rput
          rw [hbar]
          rfl
         have hcn:=h.vi.cb e.n hn.1 hn.2
         refine ⟨_,_,_,rfl,hrp,single h (by omega) ht (o:=⟨6,e.th,e.n,0⟩) (own0:=joinC (getC T.clocks e.th) (getC T.clocks e.n)) rfl (.inr (.inr rfl)) (hcb.join hcn) (fun s v=>?_) (fun _=>hn) (fun h5=>?_) ?_ ?_ ?_ ?_ ?_ ?_ ?_⟩
         ·rw [join_le hcb.1 hcn.1]
          constructor
          ·rintro (hh | hh)
           ·exact .inl hh
           ·exact .inr ⟨rfl,hh⟩
          ·rintro (hh | ⟨_,hh⟩)
           ·exact .inl hh
           ·exact .inr hh
         ·cases h5
         all_goals rw [hjn]; rfl
       ·rw [if_neg k13]
        right
        have ha:act T e (pl0 T e)=step e (pl0 T e):=by unfold act; rw [if_neg k4,if_neg k11,if_neg k13,if_neg k14,if_neg k15]
        rw [ha]
        have hb:¬ (step e (pl0 T e)).bad=true:=Bool.false_ne_true
        rw [if_neg hb]
        have hbar:barred r0 ⟨1,e.th,0,0⟩=false:=by
         unfold barred
         simp only
         rw [rbe,ren]; rfl
        have hrp:rput r0 ⟨1,e.th,0,0⟩ i=some { r0 with L:=r0.L++[⟨1,e.th,0,0⟩],of:=r0.of++[i],begun:=if (1:Int)=5 then r0.begun.set (0:Int).toNat true else r0.begun,ended:=if (1:Int)=6 then r0.ended.set (0:Int).toNat true else r0.ended }:=by
         unfold rput
         rw [hbar]
         rfl
        refine ⟨_,_,_,rfl,hrp,single h (by omega) ht (o:=⟨1,e.th,0,0⟩) (own0:=getC T.clocks e.th) rfl (.inl rfl) hcb (fun s v=>?_) (fun h6=>?_) (fun h5=>?_) ?_ ?_ ?_ ?_ ?_ ?_ ?_⟩
        ·constructor
         ·exact fun hh=>.inl hh
         ·rintro (hh | ⟨hh,_⟩)
          ·exact hh
          ·cases hh
        ·cases h6
        ·cases h5
        all_goals rfl
  ·left
   have hdead:getB T.begun e.th=false∨getB T.ended e.th=true:=by
    cases h1:getB T.begun e.th
    ·exact .inl rfl
    ·cases h2:getB T.ended e.th
     ·exact absurd ⟨h1,h2⟩ hlive
     ·exact .inr rfl
   have hr:refused T e=true:=by
    rw [href,hs]
    rcases hdead with hd | hd <;> rw [hd] <;> simp
   refine ⟨by unfold plan; rw [if_pos hr],?_⟩
   rw [← h.begun,← h.ended] at hdead
   unfold rwith
   rw [if_neg hsf]
   by_cases k4:e.kind=4
   ·rw [if_pos k4]
    obtain ⟨x,t,hw⟩:=List.exists_cons_of_ne_nil (words_ne (h4n k4).1)
    rw [hw]
    unfold rtouches
    rw [rtouch_bar hdead]
   ·rw [if_neg k4]
    split
    ·exact rtouch_bar hdead
    ·split
     ·exact rtouch_bar hdead
     ·split
      ·exact rput_bar hdead
      ·split
       ·exact rput_bar hdead
       ·exact rput_bar hdead
end Go.Fx.Mo
namespace Go.Fx.Mo
def EvF (th:Nat→Int) (r:RR) (tk:List Int) (ev:List Made):Prop:=∀ k,k < ev.length→∃ s f,s < f∧f≤r.L.length∧(∀ a,a < r.L.length→(r.of.getD a 0=(k:Int)↔s≤a∧a < f))∧(∀ a,a < r.L.length→f≤a→(k:Int) < r.of.getD a 0)∧
 (∀ a,s≤a→a < f→(opA r.L a).th=th k)∧(ev.getD k ⟨0,[]⟩).first=tk.getD s 0∧
 (∀ a,a < f→(tk.getD a 0≤at0 (ev.getD k ⟨0,[]⟩).last (opA r.L a).th↔∃ b,b < f∧(a=b∨HB r.L a b)∧edge (th k) (opA r.L b)=true))
theorem getD_l {α:Type} {l m:List α} {a:Nat} {d:α} (h:a < l.length):(l++m).getD a d=l.getD a d:=by
 simp [List.getD,List.getElem?_append_left h]
theorem getD_rep_r {l:List Int} {n a:Nat} {i:Int} (h:l.length≤a) (h2:a < l.length+n):(l++List.replicate n i).getD a 0=i:=by
 simp only [List.getD,List.getElem?_append_right h,List.getElem?_replicate]
 rw [if_pos (by omega)]
 rfl
theorem EvF.step {T:Th} {th:Nat→Int} {e:Ev} {i:Nat} {r0 r:RR} {tk0 tk:List Int} {p:Pl} {B:Int} {ev:List Made} (h:EvF th r0 tk0 ev) (hev:ev.length=i) (hr:EvR T e (i:Nat) r0 tk0 p r tk B)
  (hol:r0.of.length=r0.L.length) (hof:∀ x∈r0.of,0≤x∧x < (i:Int)) (ht0:tk0.length=r0.L.length) (hth:th i=e.th):EvF th r tk (ev++[⟨p.tk,p.own⟩]):=by
 have hLl:r.L.length=r0.L.length+p.orders.length:=by rw [hr.L]; simp
 have hpos:0 < p.orders.length:=List.length_pos_iff.2 hr.ne
 have ofl:∀ a,a < r0.L.length→r.of.getD a 0=r0.of.getD a 0:=fun a ha=>by rw [hr.of]; exact getD_l (by omega)
 have ofr:∀ a,r0.L.length≤a→a < r.L.length→r.of.getD a 0=(i:Int):=fun a ha hb=>by rw [hr.of]; exact getD_rep_r (by omega) (by omega)
 have opl:∀ a,a < r0.L.length→opA r.L a=opA r0.L a:=fun a ha=>by rw [hr.L]; exact opA_left ha
 obtain ⟨ext,hext⟩:=hr.ext
 have tkl:∀ a,a < r0.L.length→tk.getD a 0=tk0.getD a 0:=fun a ha=>by rw [hext]; exact getD_l (by omega)
 have hbl:∀ a b,b < r0.L.length→(HB r.L a b↔HB r0.L a b):=fun a b hb=>by
  rw [hr.L]
  exact ⟨fun h=>h.of_app hb,fun h=>h.app⟩
 intro k hk
 rw [List.length_append,List.length_singleton] at hk
 by_cases hki:k < i
 ·obtain ⟨s,f,h1,h2,h3,h3',h4,h5,h6⟩:=h k (by omega)
  refine ⟨s,f,h1,by omega,fun a ha=>?_,fun a ha hf=>?_,fun a ha hb=>?_,?_,fun a ha=>?_⟩
  ·by_cases hal:a < r0.L.length
   ·rw [ofl a hal]; exact h3 a hal
   ·rw [ofr a (by omega) ha]
    constructor
    ·intro he; omega
    ·intro he; omega
  ·by_cases hal:a < r0.L.length
   ·rw [ofl a hal]; exact h3' a hal hf
   ·rw [ofr a (by omega) ha]; omega
  ·rw [opl a (by omega)]; exact h4 a ha hb
  ·rw [getD_l (by omega),tkl s (by omega)]; exact h5
  ·rw [getD_l (by omega),tkl a (by omega),opl a (by omega),h6 a ha]
   constructor
   ·rintro ⟨b,hb,hab,he⟩
    exact ⟨b,hb,hab.imp id fun hh=>(hbl a b (by omega)).2 hh,by rw [opl b (by omega)]; exact he⟩
   ·rintro ⟨b,hb,hab,he⟩
    exact ⟨b,hb,hab.imp id fun hh=>(hbl a b (by omega)).1 hh,by rw [opl b (by omega)] at he; exact he⟩
 ·have hke:k=i:=by omega
  subst hke
  have hg:(ev++[(⟨p.tk,p.own⟩:Made)]).getD k ⟨0,[]⟩=⟨p.tk,p.own⟩:=by
   rw [← hev]
   simp [List.getD]
  refine ⟨r0.L.length,r.L.length,by omega,by omega,fun a ha=>?_,fun a ha hf=>by omega,fun a ha hb=>?_,?_,fun a ha=>?_⟩
  ·by_cases hal:a < r0.L.length
   ·rw [ofl a hal]
    have:r0.of.getD a 0∈r0.of:=by
     simp only [List.getD,List.getElem?_eq_getElem (by omega:a < r0.of.length)]
     exact List.getElem_mem _
    have:=hof _ this
    constructor
    ·intro he; omega
    ·intro he; omega
   ·rw [ofr a (by omega) ha]
    simp only [true_iff]
    omega
  ·have hm:opA r.L a∈p.orders:=by
    unfold opA
    rw [hr.L]
    simp only [List.getD,List.getElem?_append_right ha]
    rw [List.getElem?_eq_getElem (by omega)]
    exact List.getElem_mem _
   rw [hr.ths _ hm,hth]
  ·rw [hg]; exact hr.tkp
  ·rw [hg,hr.own a ha,hth]
   exact Iff.rfl
theorem SR0:SR begin' rr0 [] 0:=by
 refine ⟨rfl,rfl,rfl,List.nodup_nil,by decide,?_,rfl,rfl,rfl,Int.le_refl 0⟩
 have hz:∀ u:Int,0≤u→u < 8→getC begin'.clocks u=zeroC:=fun u h0 h8=>by
  show (List.replicate 8 zeroC).getD u.toNat zeroC=zeroC
  simp only [List.getD,List.getElem?_replicate]
  split <;> rfl
 have ho:∀ k:Ob,(look begin'.objs k).getD zeroC=zeroC:=fun k=>rfl
 refine ⟨rfl,fun a ha=>absurd ha (Nat.not_lt_zero a),fun a ha=>absurd ha (Nat.not_lt_zero a),fun a ha=>absurd ha (Nat.not_lt_zero a),fun u _ _ a ha=>absurd ha (Nat.not_lt_zero a),fun k a ha=>absurd ha (Nat.not_lt_zero a),fun u t u0 u8 t0 t8=>?_,fun k t t0 t8=>?_,fun u u0 u8=>?_,fun k=>?_⟩
 ·rw [hz u u0 u8,hz t t0 t8]; exact Int.le_refl _
 ·rw [hz t t0 t8]; exact Int.le_refl _
 ·rw [hz u u0 u8]; exact CB.zero (Int.le_refl 0)
 ·exact CB.zero (Int.le_refl 0)
theorem runL_sim (th:Nat→Int):∀ (l:List Ev) (i:Nat) (T:Th) (h:Hist) (r:RR) (tk:List Int) (B:Int),SR T r tk B→h.orders=r.L→h.of=r.of→h.events.length=i→r.of.length=r.L.length→(∀ x∈r.of,0≤x∧x < (i:Int))→
  EvF th r tk h.events→(∀ m,m < l.length→th (i+m)=(l.getD m default).th)→B+16 * l.length < 4611686018427387000→
  (runL l i T h=none∧rsteps l i r=none)∨∃ h' r' tk',runL l i T h=some h'∧rsteps l i r=some r'∧h'.orders=r'.L∧h'.of=r'.of∧EvF th r' tk' h'.events∧h'.events.length=i+l.length
 | [],i,T,h,r,tk,B,hs,ho,hf,he,hol,hof,hev,hth,hB=>.inr ⟨h,r,tk,rfl,rfl,ho,hf,hev,by simpa using he⟩
 | e::t,i,T,h,r,tk,B,hs,ho,hf,he,hol,hof,hev,hth,hB=>by
  simp only [List.length_cons] at hB
  rcases plan_both hs (by omega) e (i:Nat) with ⟨h1,h2⟩ | ⟨p,r',tk',h1,h2,h3⟩
  ·left
   constructor
   ·unfold runL; rw [h1]
   ·unfold rsteps; rw [h2]
  ·have hth0:th i=e.th:=by have:=hth 0 (by simp); simpa using this
   have hev':=hev.step he h3 hol hof hs.vi.len hth0
   have key:=runL_sim th t (i+1) (perform T e p) ⟨h.orders++p.orders,h.of++List.replicate p.orders.length ((i:Nat):Int),h.events++[⟨p.tk,p.own⟩]⟩ r' tk' (B+16) h3.sr (by rw [h3.L]; simp [ho]) (by rw [h3.of]; simp [hf]) (by simp [he])
    (by rw [h3.L,h3.of]; simp [hol]) (fun x hx=>?_) hev' (fun m hm=>?_) (by omega)
   ·unfold runL rsteps
    rw [h1,h2]
    rcases key with ⟨k1,k2⟩ | ⟨h',r2,tk2,k1,k2,k3,k4,k5,k6⟩
    ·exact .inl ⟨k1,k2⟩
    ·exact .inr ⟨h',r2,tk2,k1,k2,k3,k4,k5,by rw [k6,List.length_cons]; omega⟩
   ·rw [h3.of] at hx
    rcases List.mem_append.1 hx with hx | hx
    ·have:=hof x hx; omega
    ·have:=List.eq_of_mem_replicate hx; omega
   ·have:=hth (m+1) (by simp; omega)
    rw [show i+1+m=i+(m+1) by omega,this]
    simp
theorem run_rord (l:List Ev):(∃ x,run l=.inr x∧rord l=.inr x∧(x=2∨x=300))∨∃ h r tk,run l=.inl h∧rord l=.inl r∧h.orders=r.L∧h.of=r.of∧EvF (fun k=>(l.getD k default).th) r tk h.events∧h.events.length=l.length:=by
 unfold run rord
 by_cases hl:l.length > 20000
 ·rw [if_pos hl,if_pos hl]
  exact .inl ⟨2,rfl,rfl,.inl rfl⟩
 ·rw [if_neg hl,if_neg hl]
  rcases runL_sim (fun k=>(l.getD k default).th) l 0 begin' ⟨[],[],[]⟩ rr0 [] 0 SR0 rfl rfl rfl rfl (by simp [rr0]) (fun k hk=>absurd hk (Nat.not_lt_zero k)) (fun m _=>by simp) (by omega) with ⟨h1,h2⟩ | ⟨h',r',tk',h1,h2,h3,h4,h5,h6⟩
  ·left
   have h1:runL l 0 begin' ⟨[],[],[]⟩=none:=h1
   have h2:rsteps l 0 rr0=none:=h2
   rw [h1,h2]
   exact ⟨300,rfl,rfl,.inr rfl⟩
  ·right
   have h1:runL l 0 begin' ⟨[],[],[]⟩=some h':=h1
   have h2:rsteps l 0 rr0=some r':=h2
   rw [h1,h2]
   exact ⟨h',r',tk',rfl,rfl,h3,h4,h5,by simpa using h6⟩
theorem before_is {th:Nat→Int} {r:RR} {tk:List Int} {ev:List Made} (h:EvF th r tk ev) (hol:r.of.length=r.L.length) (hof:∀ x∈r.of,0≤x∧x < (ev.length:Int)) {i j:Nat} (hij:i < j) (hj:j < ev.length) :
  decide (at0 (ev.getD j ⟨0,[]⟩).last (th i)≥(ev.getD i ⟨0,[]⟩).first)=(afterE r (i:Nat) ev.length).getD j false:=by
 rw [Bool.eq_iff_iff,afterE_spec hol hof hj,decide_eq_true_iff]
 obtain ⟨s,f,s1,s2,s3,s3',s4,s5,s6⟩:=h i (by omega)
 obtain ⟨s',f',t1,t2,t3,t3',t4,t5,t6⟩:=h j hj
 have hmem:∀ a,a < r.L.length→r.of.getD a 0∈r.of:=fun a ha=>by
  simp only [List.getD,List.getElem?_eq_getElem (by omega:a < r.of.length)]
  exact List.getElem_mem _
 have hs:r.of.getD s 0=(i:Int):=(s3 s (by omega)).2 ⟨Nat.le_refl s,s1⟩
 have hs':r.of.getD s' 0=(j:Int):=(t3 s' (by omega)).2 ⟨Nat.le_refl s',t1⟩
 have thS:(opA r.L s).th=th i:=s4 s (Nat.le_refl s) s1
 have hd:∀ a b,a < b→b < r.L.length→(opA r.L a).th=(opA r.L b).th→HB r.L a b:=fun a b hab hb ht=>HB.one hab hb (by rw [direct_is]; left; unfold edge; rw [ht]; simp)
 rw [s5,ge_iff_le,← thS]
 constructor
 ·intro hle
  by_cases hsf:s < f'
  ·obtain ⟨b,hb,hab,he⟩:=(t6 s hsf).1 hle
   by_cases hbj:s'≤b
   ·refine ⟨s,b,by omega,by omega,hs,(t3 b (by omega)).2 ⟨hbj,hb⟩,hij,?_⟩
    rcases hab with rfl | hab
    ·have:=(t3 s (by omega)).2 ⟨hbj,hb⟩
     omega
    ·exact hab
   ·refine ⟨s,s',by omega,by omega,hs,hs',hij,?_⟩
    have hdir:direct (opA r.L b) (opA r.L s')=true:=by
     rw [direct_is,t4 s' (Nat.le_refl s') t1]
     exact .inl he
    rcases hab with rfl | hab
    ·exact .one (by omega) (by omega) hdir
    ·exact .step hab (by omega) (by omega) hdir
  ·-- the operations of the later event come first: cannot be
   exfalso
   have:=t3' s (by omega) (by omega)
   omega
 ·rintro ⟨d,c,hd1,hc1,hd2,hc2,_,hdc⟩
  have hdr:=(s3 d hd1).1 hd2
  have hcr:=(t3 c hc1).1 hc2
  have hlt:=hdc.lt
  refine (t6 s (by omega)).2 ⟨c,hcr.2,.inr ?_,?_⟩
  ·by_cases hsd:s=d
   ·rw [hsd]; exact hdc
   ·exact (hd s d (by omega) hd1 (by rw [thS,s4 d hdr.1 hdr.2])).trans hdc
  ·unfold edge
   rw [t4 c hcr.1 hcr.2]
   simp
end Go.Fx.Mo
namespace Go.Fx.Mo
section assoc
variable {K V:Type} [DecidableEq K]
theorem put_len (m:List (K × V)) (k:K) (v:V):(put m k v).length≤m.length+1:=by
 unfold put
 split <;> simp
end assoc
def bad0 (T:Th) (e:Ev):Bool:=if e.kind=11 then !otherIs e || getB T.begun e.n else if e.kind=13 then !otherIs e || !getB T.begun e.n || getB T.ended e.n || e.n == e.th else false
structure Sim (T T':Th):Prop where
 begun:T'.begun=T.begun
 ended:T'.ended=T.ended
theorem plan_bad0 {T:Th} {e:Ev} {p:Pl} (h:plan T e=some p):bad0 T e=false:=by
 obtain ⟨_,rfl,hb⟩:=plan_act h
 unfold bad0
 split
 ·rename_i hk
  unfold act at hb
  rw [if_neg (by omega),if_pos hk] at hb
  unfold spawn at hb
  split at hb
  ·simp at hb
  ·rename_i hc; simpa using hc
 ·split
  ·rename_i hk
   unfold act at hb
   rw [if_neg (by omega),if_neg (by omega),if_pos hk] at hb
   unfold join at hb
   split at hb
   ·simp at hb
   ·rename_i hc; simpa using hc
  ·rfl
theorem act_fork_is {T:Th} {e:Ev} (hb:bad0 T e=false):(act T e (pl0 T e)).fork=(if e.kind=11 then e.n else -1)∧(act T e (pl0 T e)).ends=(if e.kind=13 then e.n else -1):=by
 unfold act
 split
 ·rename_i hk
  rw [if_neg (by omega),if_neg (by omega)]
  exact atomicL_same T e _ _ (pl0 T e)
 ·split
  ·rename_i hk
   unfold bad0 at hb
   rw [if_pos hk] at hb
   unfold spawn
   rw [if_neg (by rw [hb]; decide)]
   refine ⟨rfl,?_⟩
   rw [if_neg (by omega)]
   rfl
  ·split
   ·rename_i hk
    unfold bad0 at hb
    rw [if_neg (by omega),if_pos hk] at hb
    unfold join
    rw [if_neg (by rw [hb]; decide)]
    exact ⟨rfl,rfl⟩
   ·split
    ·exact (number_same T (pl0 T e) (false,e.a)).trans ((acquire_same T _ _).trans (tick_same e _ _))
    ·split
     ·exact (number_same T (pl0 T e) (false,e.a)).trans ((tick_same e _ _).trans (release_same T _ _))
     ·exact ⟨rfl,rfl⟩
theorem perform_ended (T:Th) (e:Ev) (p:Pl):(perform T e p).ended=if p.ends≥0 then T.ended.set p.ends.toNat true else T.ended:=by
 unfold perform; simp only; split <;> split <;> split <;> rfl
theorem keep_len {a:Acc} {tk rel:Int} {ts:List (Int × Bool)}:∀ {bs:List Int} {cs:List (Int × Cell)},(keep a tk rel ts bs cs).length≤cs.length+bs.length
 | [],cs=>by simp [keep]
 | b::r,cs=>by
  unfold keep
  simp only [List.length_cons]
  refine Nat.le_trans keep_len ?_
  have h1:=put_len cs b cell0
  have h2:=put_len cs b (((look cs b).getD cell0).remember a tk rel)
  split
  ·split
   ·omega
   ·omega
  ·omega
def touched (e:Ev):Nat:=if (accesses e).2.2 then e.n.toNat else 0
theorem getB_set_true {l:List Bool} {i:Nat} {t:Int} (h:getB l t=true):getB (l.set i true) t=true:=by
 unfold getB at h ⊢
 rw [List.getD_eq_getElem?_getD] at h ⊢
 rw [List.getElem?_set]
 split
 ·split
  ·rfl
  ·rw [List.getElem?_eq_none (by omega)] at h; exact h
 ·exact h
end Go.Fx.Mo
namespace Go.Fx.Mo
def Fv (T:Th) (t x:Int):Prop:=(∃ u,0≤u∧u < 8∧u≠t∧x=at0 (getC T.clocks u) t)∨∃ k,x=at0 ((look T.objs k).getD zeroC) t
def Fw (T:Th) (e:Ev) (t x:Int):Prop:=Fv T t x∨(e.kind=13∧t=e.n∧x=at0 (getC T.clocks t) t)
structure PF (T:Th) (e:Ev) (p:Pl):Prop where
 own:∀ t,0≤t→t < 8→t≠e.th→Fw T e t (at0 p.own t)
 ob:∀ k t,0≤t→t < 8→Fw T e t (at0 (clockOf T p k) t)∨(t=e.th∧p.rel=true∧p.tk≠0∧p.tk≤at0 (clockOf T p k) t)
 tk:p.tk=0∨(at0 (getC T.clocks e.th) e.th < p.tk∧p.tk≤at0 p.own e.th)
 own0:at0 (getC T.clocks e.th) e.th≤at0 p.own e.th
 rel0:p.rel=false→p.objs=[]
theorem PF.same {T:Th} {e:Ev} {p q:Pl} (h:PF T e p) (h1:q.own=p.own) (h2:q.objs=p.objs) (h3:q.tk=p.tk) (h4:q.rel=p.rel):PF T e q:=
 ⟨by rw [h1]; exact h.own,fun k t h0 h8=>by have:=h.ob k t h0 h8; unfold clockOf at this ⊢; rw [h2,h3,h4]; exact this,by rw [h1,h3]; exact h.tk,by rw [h1]; exact h.own0,by rw [h4,h2]; exact h.rel0⟩
theorem number_rel (T:Th) (p:Pl) (x:Ob):(number T p x).2.rel=p.rel:=by
 unfold number
 split
 ·rfl
 ·split <;> rfl
theorem PF.number {T:Th} {e:Ev} {p:Pl} (h:PF T e p) (x:Ob):PF T e (number T p x).2:=
 have n:=number_objs T p x
 h.same n.1 n.2.1 n.2.2 (number_rel T p x)
theorem join_or {c d:Clk} (hc:c.length=8) (hd:d.length=8) {Q:Int→Prop} {t:Int} (h1:Q (at0 c t)) (h2:Q (at0 d t)):Q (at0 (joinC c d) t):=by
 rw [joinC_at hc hd]
 split
 ·exact h2
 ·exact h1
theorem PF.acquire {T:Th} {e:Ev} {p0 p:Pl} {B:Int} (hT:ThB T B) (hp:PM T e p0 p B) (h:PF T e p) (x:Ob):PF T e (acquire T p x):=by
 have hc:=clockOf_CB hT hp.objs x
 refine ⟨fun t h0 h8 hne=>?_,h.ob,?_,Int.le_trans h.own0 (join_l hp.own.1 hc.1 e.th),h.rel0⟩
 ·refine join_or hp.own.1 hc.1 (h.own t h0 h8 hne) ?_
  rcases h.ob x t h0 h8 with h1 | h1
  ·exact h1
  ·exact absurd h1.1 hne
 ·rcases h.tk with h1 | h1
  ·exact .inl h1
  ·exact .inr ⟨h1.1,Int.le_trans h1.2 (join_l hp.own.1 hc.1 e.th)⟩
theorem PF.tick {T:Th} {e:Ev} {p0 p:Pl} {B:Int} (hp:PM T e p0 p B) (h:PF T e p) (ht:0≤e.th∧e.th < 8) (hB:B < 4611686018427387904) (o:Ord):PF T e (tick e p o)∧(tick e p o).tk≠0:=by
 have h1:=hp.own.2 e.th
 have h2:=tick_own (o:=o) hp.own ht hB e.th
 rw [if_pos rfl] at h2
 have htk:(Mo.tick e p o).tk=if p.tk=0 then at0 (Mo.tick e p o).own e.th else p.tk:=rfl
 have hown0:=h.own0
 have htk2:=h.tk
 refine ⟨⟨fun t h0 h8 hne=>?_,fun k t h0 h8=>?_,?_,?_,h.rel0⟩,?_⟩
 ·rw [tick_own hp.own ht hB,if_neg (by omega)]
  exact h.own t h0 h8 hne
 ·rcases h.ob k t h0 h8 with h3 | ⟨h3,h4,h5,h6⟩
  ·exact .inl h3
  ·refine .inr ⟨h3,h4,?_⟩
   rw [htk,if_neg h5]
   exact ⟨h5,h6⟩
 ·right
  rw [htk,h2]
  split <;> omega
 ·rw [h2]; omega
 ·rw [htk,h2]
  split <;> omega
theorem PF.release {T:Th} {e:Ev} {p0 p:Pl} {B:Int} (hT:ThB T B) (hp:PM T e p0 p B) (h:PF T e p) (htk:p.tk≠0) (x:Ob):PF T e (release T p x):=by
 have hc:=clockOf_CB hT hp.objs x
 refine ⟨h.own,fun k t h0 h8=>?_,h.tk,h.own0,fun hr=>by cases hr⟩
 rw [release_clock]
 have tr:∀ k,Fw T e t (at0 (clockOf T p k) t)∨(t=e.th∧true=true∧p.tk≠0∧p.tk≤at0 (clockOf T p k) t):=fun k=>by
  rcases h.ob k t h0 h8 with h3 | ⟨h3,h4,h5,h6⟩
  ·exact .inl h3
  ·exact .inr ⟨h3,rfl,h5,h6⟩
 show Fw T e t (at0 (if k=x then joinC (clockOf T p x) p.own else clockOf T p k) t)∨(t=e.th∧true=true∧p.tk≠0∧p.tk≤at0 (if k=x then joinC (clockOf T p x) p.own else clockOf T p k) t)
 split
 ·refine join_or hc.1 hp.own.1 (Q:=fun v=>Fw T e t v∨(t=e.th∧true=true∧p.tk≠0∧p.tk≤v)) (tr x) ?_
  by_cases hte:t=e.th
  ·right
   refine ⟨hte,rfl,htk,?_⟩
   rw [hte]
   rcases h.tk with h1 | h1
   ·exact absurd h1 htk
   ·exact h1.2
  ·exact .inl (h.own t h0 h8 hte)
 ·exact tr k
theorem PF.atomicL {T:Th} {e:Ev} {p0:Pl} (ht:0≤e.th∧e.th < 8):∀ (l:List Int) (x:Ob) (p:Pl) (B:Int),ThB T B→PM T e p0 p B→PF T e p→B+l.length < 4611686018427387904→PF T e (atomicL T e l x p)
 | [],_,p,B,_,_,h,_=>h
 | a::r,last,p,B,hT,hp,h,hB=>by
  simp only [List.length_cons] at hB
  unfold Mo.atomicL
  simp only
  split
  ·exact PF.atomicL ht r last p B hT hp h (by omega)
  ·have p1:=hp.number (true,w32 (a.tdiv 4))
   have p2:=p1.acquire hT (true,w32 (a.tdiv 4))
   have f2:=(h.number (true,w32 (a.tdiv 4))).acquire hT p1 (true,w32 (a.tdiv 4))
   have p3:=p2.tick ht (by omega) ⟨4,0,0,(Mo.number T p (true,w32 (a.tdiv 4))).1⟩
   have f3:=f2.tick p2 ht (by omega) ⟨4,0,0,(Mo.number T p (true,w32 (a.tdiv 4))).1⟩
   have p4:=p3.release (hT.mono (by omega)) (true,w32 (a.tdiv 4))
   have f4:=f3.1.release (hT.mono (by omega)) p3 f3.2 (true,w32 (a.tdiv 4))
   exact PF.atomicL ht r _ _ (B+1) (hT.mono (by omega)) p4 f4 (by omega)
theorem pl0_PF {T:Th} {e:Ev} (ht:0≤e.th∧e.th < 8):PF T e (pl0 T e):=
 ⟨fun t h0 h8 hne=>.inl (.inl ⟨e.th,ht.1,ht.2,Ne.symm hne,rfl⟩),fun k t h0 h8=>.inl (.inl (.inr ⟨k,rfl⟩)),.inl rfl,Int.le_refl _,fun _=>rfl⟩
theorem plan_PF {T:Th} {e:Ev} {p:Pl} {B:Int} (h:plan T e=some p) (hT:ThB T B) (hB:B+16 < 4611686018427387904):PF T e p∧(p.fork≥0→p.rel=true):=by
 have hb:=plan_bad0 h
 obtain ⟨hr,rfl,hbad⟩:=plan_act h
 have ht:=refused_th hr
 have hp:=pl0_PM (e:=e) hT
 have hf:=pl0_PF (T:=T) ht
 obtain ⟨hfk,-⟩:=act_fork_is hb
 unfold act at hfk ⊢
 by_cases k4:e.kind=4
 ·rw [if_pos k4] at hfk ⊢
  rw [if_neg (by omega)] at hfk
  have h16:=refused_at hr k4
  have hl:(bytes e.a e.n).length=e.n.toNat:=by simp [bytes]
  have:=PF.atomicL ht (bytes e.a e.n) (false,0) _ B hT hp hf (by rw [hl]; omega)
  have hfk':(atomic T e (pl0 T e)).fork < 0:=by rw [hfk]; decide
  exact ⟨this,fun hh=>by omega⟩
 ·rw [if_neg k4] at hfk ⊢
  by_cases k11:e.kind=11
  ·rw [if_pos k11]
   unfold bad0 at hb
   rw [if_pos k11] at hb
   unfold spawn
   rw [if_neg (by rw [hb]; decide)]
   have f1:=hf.tick hp ht (by omega) ⟨5,0,e.n,0⟩
   refine ⟨⟨f1.1.own,fun k t h0 h8=>?_,f1.1.tk,f1.1.own0,fun hh=>by cases hh⟩,fun _=>rfl⟩
   exact .inl (.inl (.inr ⟨k,rfl⟩))
  ·rw [if_neg k11] at hfk ⊢
   by_cases k13:e.kind=13
   ·rw [if_pos k13] at hfk ⊢
    rw [if_neg k11] at hfk
    unfold bad0 at hb
    rw [if_neg k11,if_pos k13] at hb
    have hbn:e.n≠e.th:=by
     rw [Bool.or_eq_false_iff] at hb
     simpa using hb.2
    have hn:0≤e.n∧e.n < 8:=by
     simp only [Bool.or_eq_false_iff] at hb
     have:=hb.1.1.1
     unfold otherIs at this
     simpa using this
    unfold join at hfk ⊢
    have hb':¬ (!otherIs e || !getB T.begun e.n || getB T.ended e.n || e.n == e.th)=true:=by rw [hb]; decide
    rw [if_neg hb'] at hfk ⊢
    have hc:=hT.getC e.n
    have p1:PM T e (pl0 T e) { pl0 T e with own:=joinC (pl0 T e).own (getC T.clocks e.n) } B:=
     ⟨hp.own.join hc,hp.objs,hp.nd,fun t=>Int.le_trans (hp.grow t) (join_l hp.own.1 hc.1 t),hp.ob,hp.tk.1,Int.le_trans hp.tk.2 (join_l hp.own.1 hc.1 e.th)⟩
    have f1:PF T e { pl0 T e with own:=joinC (pl0 T e).own (getC T.clocks e.n) }:=by
     refine ⟨fun t h0 h8 hne=>join_or hp.own.1 hc.1 (hf.own t h0 h8 hne) ?_,hf.ob,.inl rfl,Int.le_trans hf.own0 (join_l hp.own.1 hc.1 e.th),fun _=>rfl⟩
     by_cases htn:t=e.n
     ·exact .inr ⟨k13,htn,by rw [htn]⟩
     ·exact .inl (.inl ⟨e.n,hn.1,hn.2,Ne.symm htn,rfl⟩)
    have f2:=f1.tick p1 ht (by omega) ⟨6,0,e.n,0⟩
    refine ⟨f2.1.same rfl rfl rfl rfl,fun hh=>?_⟩
    rw [hfk] at hh
    omega
   ·rw [if_neg k13] at hfk ⊢
    by_cases k14:e.kind=14
    ·rw [if_pos k14] at hfk ⊢
     rw [if_neg k11] at hfk
     have p1:=hp.number (false,e.a)
     have p2:=p1.acquire hT (false,e.a)
     have f2:=(hf.number (false,e.a)).acquire hT p1 (false,e.a)
     have f3:=f2.tick p2 ht (by omega) ⟨3,0,0,(number T (pl0 T e) (false,e.a)).1⟩
     exact ⟨f3.1,fun hh=>by rw [hfk] at hh; omega⟩
    ·rw [if_neg k14] at hfk ⊢
     by_cases k15:e.kind=15
     ·rw [if_pos k15] at hfk ⊢
      rw [if_neg k11] at hfk
      have p1:=hp.number (false,e.a)
      have p3:=p1.tick ht (by omega) ⟨2,0,0,(number T (pl0 T e) (false,e.a)).1⟩
      have f3:=(hf.number (false,e.a)).tick p1 ht (by omega) ⟨2,0,0,(number T (pl0 T e) (false,e.a)).1⟩
      have f4:=f3.1.release (hT.mono (by omega)) p3 f3.2 (false,e.a)
      exact ⟨f4,fun hh=>by rw [hfk] at hh; omega⟩
     ·rw [if_neg k15] at hfk ⊢
      rw [if_neg k11] at hfk
      have f3:=hf.tick hp ht (by omega) ⟨1,0,0,0⟩
      exact ⟨f3.1,fun hh=>by rw [hfk] at hh; omega⟩
theorem perform_Fv {T:Th} {e:Ev} {p:Pl} {B:Int} (h:plan T e=some p) (hT:ThB T B) (hB:B+16 < 4611686018427387904) (htk:p.tk≠0) {t x:Int} (h0:0≤t) (h8:t < 8) (hx:Fv (perform T e p) t x) :
  Fw T e t x∨(t=e.th∧p.rel=true∧p.tk≤x):=by
 obtain ⟨hf,hfr⟩:=plan_PF h hT hB
 have hpm:=plan_PM h hT hB
 have hr:=plan_refused h
 have ht:=refused_th hr
 have hp8:=plan_fork h
 rcases hx with ⟨u,u0,u8,hut,rfl⟩ | ⟨k,rfl⟩
 ·have own:t≠e.th→Fw T e t (at0 p.own t):=fun hne=>hf.own t h0 h8 hne
  have old:∀ v,0≤v→v < 8→v≠t→Fw T e t (at0 (getC T.clocks v) t):=fun v v0 v8 hv=>.inl (.inl ⟨v,v0,v8,hv,rfl⟩)
  have hi:e.th.toNat < T.clocks.length:=by rw [hT.clocks]; omega
  have g1:∀ v,getC (T.clocks.set e.th.toNat p.own) v=if v.toNat=e.th.toNat then p.own else getC T.clocks v:=fun v=>getC_set hi _ v
  have base:Fw T e t (at0 (getC (T.clocks.set e.th.toNat p.own) u) t):=by
   rw [g1]
   split
   ·rename_i hue
    exact own (by omega)
   ·exact old u u0 u8 hut
  rw [perform_clocks]
  by_cases hfk:p.fork≥0
  ·rw [if_pos hfk,getC_set (by rw [List.length_set,hT.clocks]; omega)]
   split
   ·rename_i huf
    have hl1:(getC (T.clocks.set e.th.toNat p.own) p.fork).length=8:=by
     rw [g1]
     split
     ·exact hpm.own.1
     ·exact (hT.getC p.fork).1
    have e1:getC (T.clocks.set e.th.toNat p.own) p.fork=getC (T.clocks.set e.th.toNat p.own) u:=by unfold getC; rw [huf]
    refine join_or hl1 hpm.own.1 (Q:=fun v=>Fw T e t v∨(t=e.th∧p.rel=true∧p.tk≤v)) (by rw [e1]; exact .inl base) ?_
    by_cases hte:t=e.th
    ·right
     refine ⟨hte,hfr hfk,?_⟩
     rw [hte]
     exact hpm.tk.2
    ·exact .inl (own hte)
   ·exact .inl base
  ·rw [if_neg hfk]
   exact .inl base
 ·rw [perform_objs hpm.nd]
  rcases hf.ob k t h0 h8 with h1 | ⟨h1,h2,h3,h4⟩
  ·exact .inl h1
  ·exact .inr ⟨h1,h2,h4⟩
theorem perform_rels (T:Th) (e:Ev) (p:Pl):(perform T e p).rels=if p.rel then T.rels.set e.th.toNat (w64 (at0 T.rels e.th+1)) else T.rels:=by
 unfold perform; simp only; split <;> split <;> split <;> rfl
end Go.Fx.Mo
namespace Go.Fx.Mo
def evN (l:List Ev) (n:Nat):Ev:=l.getD n default
def stN (l:List Ev):Nat→Th
 | 0=>begin'
 | n+1=>match plan (stN l n) (evN l n) with
  | none=>stN l n
  | some p=>perform (stN l n) (evN l n) p
def pN (l:List Ev) (n:Nat):Pl:=(plan (stN l n) (evN l n)).getD default
def Ok (l:List Ev) (N:Nat):Prop:=∀ n,n < N→plan (stN l n) (evN l n)=some (pN l n)
abbrev relN (l:List Ev) (n:Nat) (t:Int):Int:=at0 (stN l n).rels t
theorem Ok.at {l:List Ev} {N n:Nat} (h:Ok l N) (hn:n < N):stN l (n+1)=perform (stN l n) (evN l n) (pN l n):=by
 rw [stN,h n hn]
theorem st_SR {l:List Ev} {N:Nat} (h:Ok l N) (hN:N≤20000):∀ n,n≤N→(∃ r tk,SR (stN l n) r tk (16 * n))∧ThB (stN l n) (16 * n)∧(stN l n).rels.length=8
 | 0,_=>⟨⟨rr0,[],SR0⟩,⟨rfl,fun c hc=>by rw [List.eq_of_mem_replicate hc]; exact CB.zero (Int.le_refl 0),fun q hq=>(by cases hq),Int.le_refl 0⟩,rfl⟩
 | n+1,hn=>by
  obtain ⟨⟨r,tk,hs⟩,hT,hr⟩:=st_SR h hN n (by omega)
  have hp:=h n (by omega)
  rw [h.at (by omega:n < N)]
  have e16:(16 * ((n+1:Nat):Int))=16 * (n:Int)+16:=by omega
  rw [e16]
  refine ⟨?_,perform_ThB hp hT (by omega),?_⟩
  ·rcases plan_both hs (by omega) (evN l n) 0 with ⟨h1,_⟩ | ⟨p,r',tk',h1,_,h3⟩
   ·rw [hp] at h1; cases h1
   ·rw [hp] at h1
    cases h1
    exact ⟨r',tk',h3.sr⟩
  ·rw [perform_rels]
   split
   ·simp [hr]
   ·exact hr
theorem Ok.tk {l:List Ev} {N n:Nat} (h:Ok l N) (hN:N≤20000) (hn:n < N):1≤(pN l n).tk:=by
 obtain ⟨⟨r,tk,hs⟩,_,_⟩:=st_SR h hN n (by omega)
 rcases plan_both hs (by omega) (evN l n) 0 with ⟨h1,_⟩ | ⟨p,r',tk',h1,_,h3⟩
 ·rw [h n hn] at h1; cases h1
 ·rw [h n hn] at h1
  cases h1
  rw [h3.tkp]
  refine h3.sr.vi.pos _ ?_
  have:=List.length_pos_iff.2 h3.ne
  rw [h3.L,List.length_append]
  omega
theorem Ok.th {l:List Ev} {N n:Nat} (h:Ok l N) (hn:n < N):0≤(evN l n).th∧(evN l n).th < 8:=refused_th (plan_refused (h n hn))
theorem set0_at {c:List Int} {i:Nat} (hi:i < c.length) (x t:Int):at0 (c.set i x) t=if t.toNat=i then x else at0 c t:=set_at hi x t
theorem rel_step {l:List Ev} {N n:Nat} (h:Ok l N) (hN:N≤20000) (hn:n < N) (t:Int) (hb:0≤relN l n t∧relN l n t≤n) :
  relN l (n+1) t=if (pN l n).rel=true∧t.toNat=(evN l n).th.toNat then relN l n t+1 else relN l n t:=by
 obtain ⟨_,_,hr⟩:=st_SR h hN n (by omega)
 have ht:=h.th hn
 unfold relN
 rw [h.at hn,perform_rels]
 by_cases hrel:(pN l n).rel=true
 ·rw [if_pos hrel,set0_at (by rw [hr]; omega)]
  by_cases he:t.toNat=(evN l n).th.toNat
  ·rw [if_pos he,if_pos ⟨hrel,he⟩]
   have e1:at0 (stN l n).rels (evN l n).th=at0 (stN l n).rels t:=at0_nat he.symm
   rw [e1]
   unfold relN at hb
   rw [w64_small (by omega) (by omega)]
  ·rw [if_neg he,if_neg (fun hh=>he hh.2)]
 ·rw [if_neg hrel,if_neg (fun hh=>hrel hh.1)]
theorem rel_bound {l:List Ev} {N:Nat} (h:Ok l N) (hN:N≤20000) (t:Int):∀ n,n≤N→0≤relN l n t∧relN l n t≤n
 | 0,_=>by
  have:relN l 0 t=0:=by
   show (List.replicate 8 (0:Int)).getD t.toNat 0=0
   simp only [List.getD,List.getElem?_replicate]
   split <;> rfl
  rw [this]
  decide
 | n+1,hn=>by
  have ih:=rel_bound h hN t n (by omega)
  rw [rel_step h hN (by omega) t ih]
  split <;> omega
theorem rel_mono {l:List Ev} {N:Nat} (h:Ok l N) (hN:N≤20000) (t:Int) {k:Nat}:∀ {n},k≤n→n≤N→relN l k t≤relN l n t
 | 0,hk,_=>by rw [show k=0 by omega]; exact Int.le_refl _
 | n+1,hk,hn=>by
  by_cases he:k=n+1
  ·rw [he]; exact Int.le_refl _
  ·have ih:=rel_mono h hN t (k:=k) (n:=n) (by omega) (by omega)
   rw [rel_step (n:=n) h hN (by omega) t (rel_bound h hN t n (by omega))]
   split <;> omega
abbrev curN (l:List Ev) (n:Nat) (t:Int):Int:=at0 (getC (stN l n).clocks t) t
theorem cur_step {l:List Ev} {N n:Nat} (h:Ok l N) (hN:N≤20000) (hn:n < N) (t:Int):curN l n t≤curN l (n+1) t:=by
 obtain ⟨_,hT,_⟩:=st_SR h hN n (by omega)
 unfold curN
 rw [h.at hn]
 exact perform_grow (h n hn) hT (by omega) t t
theorem cur_mono {l:List Ev} {N:Nat} (h:Ok l N) (hN:N≤20000) (t:Int) {k:Nat}:∀ {n},k≤n→n≤N→curN l k t≤curN l n t
 | 0,hk,_=>by rw [show k=0 by omega]; exact Int.le_refl _
 | n+1,hk,hn=>by
  by_cases he:k=n+1
  ·rw [he]; exact Int.le_refl _
  ·exact Int.le_trans (cur_mono h hN t (n:=n) (by omega) (by omega)) (cur_step h hN (by omega) t)
theorem tk_cur {l:List Ev} {N k n:Nat} (h:Ok l N) (hN:N≤20000) (hk:k < n) (hn:n≤N):(pN l k).tk≤curN l n (evN l k).th:=by
 obtain ⟨_,hT,_⟩:=st_SR h hN k (by omega)
 refine Int.le_trans ?_ (cur_mono h hN _ (k:=k+1) (n:=n) (by omega) hn)
 unfold curN
 rw [h.at (by omega:k < N)]
 exact Int.le_trans (plan_PM (h k (by omega)) hT (by omega)).tk.2 (perform_own (h k (by omega)) hT (by omega) _)
theorem cur_tk {l:List Ev} {N k:Nat} (h:Ok l N) (hN:N≤20000) (hk:k < N):curN l k (evN l k).th < (pN l k).tk:=by
 obtain ⟨_,hT,_⟩:=st_SR h hN k (by omega)
 have h1:=h.tk hN hk
 rcases (plan_PF (h k hk) hT (by omega)).1.tk with h2 | h2
 ·omega
 ·exact h2.1
theorem Fv_cur {l:List Ev} {N n:Nat} (h:Ok l N) (hN:N≤20000) (hn:n≤N) {t x:Int} (h0:0≤t) (h8:t < 8) (hx:Fv (stN l n) t x):x≤curN l n t:=by
 obtain ⟨⟨r,tk,hs⟩,_,_⟩:=st_SR h hN n hn
 rcases hx with ⟨u,u0,u8,_,rfl⟩ | ⟨k,rfl⟩
 ·exact hs.vi.mT u t u0 u8 h0 h8
 ·exact hs.vi.mO k t h0 h8
theorem sep {l:List Ev} {N:Nat} (h:Ok l N) (hN:N≤20000):∀ n,n≤N→∀ k,k < n→∀ x,Fv (stN l n) (evN l k).th x→
  (x < (pN l k).tk∨∀ k',k≤k'→k' < n→(evN l k').th=(evN l k).th→relN l k' (evN l k).th=relN l k (evN l k).th→(pN l k').tk≤x)∧
  (relN l k (evN l k).th=relN l n (evN l k).th→x < (pN l k).tk∨getB (stN l n).ended (evN l k).th=true)
 | 0,_,k,hk,_,_=>absurd hk (Nat.not_lt_zero k)
 | n+1,hn,k,hk,x,hx=>by
  have ih:=sep h hN n (by omega)
  obtain ⟨_,hT,_⟩:=st_SR h hN n (by omega)
  have hp:=h n (by omega)
  have htk:=h.th (by omega:k < N)
  have htn:=h.th (by omega:n < N)
  have htk1:=h.tk hN (by omega:n < N)
  have hbk:=rel_bound h hN (evN l k).th n (by omega)
  have hst:=rel_step h hN (by omega:n < N) (evN l k).th hbk
  have hlive:getB (stN l n).ended (evN l n).th=false:=by
   have hr:=plan_refused hp
   unfold refused at hr
   simp only [Bool.or_eq_false_iff] at hr
   exact hr.1.1.2
  have hmk:∀ m,k≤m→m≤N→relN l k (evN l k).th≤relN l m (evN l k).th:=fun m h1 h2=>rel_mono h hN _ h1 h2
  rw [h.at (by omega:n < N)] at hx
  have hx:=perform_Fv hp hT (by omega) (by omega) htk.1 htk.2 hx
  rcases hx with (hx | ⟨h13,hte,hxc⟩) | ⟨hte,hrel,hle⟩
  ·-- known before
   by_cases hkn:k < n
   ·obtain ⟨i1,i2⟩:=ih k hkn x hx
    constructor
    ·rcases i1 with i1 | i1
     ·exact .inl i1
     ·by_cases hcur:(evN l n).th=(evN l k).th∧relN l n (evN l k).th=relN l k (evN l k).th
      ·rcases i2 hcur.2.symm with i2 | i2
       ·exact .inl i2
       ·rw [← hcur.1,hlive] at i2; cases i2
      ·right
       intro k' h1 h2 h3 h4
       by_cases hk':k'=n
       ·subst hk'; exact absurd ⟨h3,h4⟩ hcur
       ·exact i1 k' h1 (by omega) h3 h4
    ·intro he
     have h1:=hmk n (by omega) (by omega)
     have h2:relN l k (evN l k).th=relN l n (evN l k).th:=by
      rw [hst] at he
      split at he <;> omega
     rcases i2 h2 with i2 | i2
     ·exact .inl i2
     ·right
      rw [h.at (by omega:n < N),perform_ended]
      split
      ·exact getB_set_true i2
      ·exact i2
   ·have hkn:k=n:=by omega
    subst hkn
    have h1:=Fv_cur h hN (by omega:k≤N) htk.1 htk.2 hx
    have h2:=cur_tk h hN (by omega:k < N)
    exact ⟨.inl (by omega),fun _=>.inl (by omega)⟩
  ·-- it has ended
   have hb:=plan_bad0 hp
   have hne:(evN l n).n≠(evN l n).th:=by
    unfold bad0 at hb
    rw [if_neg (by omega),if_pos h13,Bool.or_eq_false_iff] at hb
    simpa using hb.2
   have hkn:k < n:=by
    by_cases he:k=n
    ·subst he; exact absurd hte.symm hne
    ·omega
   constructor
   ·right
    intro k' h1 h2 h3 h4
    have hk':k' < n:=by
     by_cases he:k'=n
     ·subst he; rw [h3] at hne; exact absurd hte.symm hne
     ·omega
    have:=tk_cur h hN hk' (by omega:n≤N)
    rw [h3] at this
    rw [hxc]
    exact this
   ·intro _
    right
    obtain ⟨_,hpe,_⟩:=plan_act hp
    have hends:=(act_fork_is hb).2
    rw [if_pos h13,← hpe] at hends
    have hn0:0≤(evN l n).n∧(evN l n).n < 8:=by omega
    rw [h.at (by omega:n < N),perform_ended,hends,if_pos hn0.1,hte]
    obtain ⟨⟨r,tk,hs⟩,_,_⟩:=st_SR h hN n (by omega)
    unfold getB
    rw [List.getD_eq_getElem?_getD,List.getElem?_set_self (by rw [hs.el]; omega)]
    rfl
  ·-- it has released
   have hlow:∀ k',k'≤n→(evN l k').th=(evN l k).th→(pN l k').tk≤x:=by
    intro k' h1 h2
    by_cases he:k'=n
    ·rw [he]; exact hle
    ·have h3:=tk_cur h hN (by omega:k' < n) (by omega:n≤N)
     have h4:=cur_tk h hN (by omega:n < N)
     rw [← hte,← h2] at h4
     omega
   refine ⟨.inr fun k' h1 h2 h3 h4=>hlow k' (by omega) h3,fun he=>?_⟩
   exfalso
   rw [hst,if_pos ⟨hrel,by rw [hte]⟩] at he
   have:=hmk n (by omega) (by omega)
   omega
theorem perform_self {T:Th} {e:Ev} {p:Pl} {B:Int} (h:plan T e=some p) (hT:ThB T B) (hB:B+16 < 4611686018427387904) (t:Int):at0 (getC (perform T e p).clocks e.th) t=at0 p.own t:=by
 have hp:=plan_PM h hT hB
 have ht:=refused_th (plan_refused h)
 have hi:e.th.toNat < T.clocks.length:=by rw [hT.clocks]; omega
 rw [perform_clocks]
 split
 ·rw [getC_set (by rw [List.length_set,hT.clocks]; have:=(plan_fork h).1; omega)]
  split
  ·rename_i hf
   have:getC (T.clocks.set e.th.toNat p.own) p.fork=p.own:=by rw [getC_set hi,if_pos hf.symm]
   rw [this,joinC_at hp.own.1 hp.own.1]
   split <;> rfl
  ·rw [getC_set hi,if_pos rfl]
 ·rw [getC_set hi,if_pos rfl]
theorem sep_law {l:List Ev} {N:Nat} (h:Ok l N) (hN:N≤20000) {k k' j:Nat} (hk:k≤k') (hk':k' < j) (hj:j < N) (ht:(evN l k').th=(evN l k).th) (hr:relN l k' (evN l k).th=relN l k (evN l k).th) (hne:(evN l j).th≠(evN l k).th) :
  at0 (pN l j).own (evN l k).th < (pN l k).tk∨(pN l k').tk≤at0 (pN l j).own (evN l k).th:=by
 obtain ⟨_,hT,_⟩:=st_SR h hN j (by omega)
 have htj:=h.th hj
 have hx:Fv (stN l (j+1)) (evN l k).th (at0 (pN l j).own (evN l k).th):=by
  left
  refine ⟨(evN l j).th,htj.1,htj.2,hne,?_⟩
  rw [h.at hj,perform_self (h j hj) hT (by omega)]
 rcases (sep h hN (j+1) (by omega) k (by omega) _ hx).1 with h1 | h1
 ·exact .inl h1
 ·exact .inr (h1 k' hk (by omega) ht hr)
end Go.Fx.Mo
namespace Go.Fx.Mo
theorem keep_look {a:Acc} {tk rel:Int} {ts:List (Int × Bool)}:∀ {bs:List Int} {cs:List (Int × Cell)},bs.Nodup→∀ b,look (keep a tk rel ts bs cs) b =
  if b∈bs then some (if (look ts b).getD false then (look cs b).getD cell0 else ((look cs b).getD cell0).remember a tk rel) else look cs b
 | [],cs,_,b=>by simp [keep]
 | x::r,cs,hn,b=>by
  rw [List.nodup_cons] at hn
  have key:∀ cs',(∀ y,y≠x→look cs' y=look cs y)→look cs' x=some (if (look ts x).getD false then (look cs x).getD cell0 else ((look cs x).getD cell0).remember a tk rel)→
    look (keep a tk rel ts r cs') b=if b∈x::r then some (if (look ts b).getD false then (look cs b).getD cell0 else ((look cs b).getD cell0).remember a tk rel) else look cs b:=by
   intro cs' h1 h2
   rw [keep_look hn.2 b]
   by_cases hb:b=x
   ·subst hb
    rw [if_neg hn.1,if_pos (show b∈b::r by simp),h2]
   ·by_cases hr:b∈r
    ·rw [if_pos hr,if_pos (show b∈x::r by simp [hr]),h1 b hb]
    ·rw [if_neg hr,if_neg (show ¬ b∈x::r by simp [hr,hb]),h1 b hb]
  unfold keep
  refine key _ (fun y hy=>?_) ?_
  ·split
   ·split
    ·rw [put_look,if_neg hy]
    ·rfl
   ·rw [put_look,if_neg hy]
  ·by_cases ht:(look ts x).getD false=true
   ·rw [if_pos ht,if_pos ht]
    cases hl:look cs x with
    | none=>simp only [put_look,if_pos]; rfl
    | some c=>simp only [hl,Option.getD_some]
   ·rw [if_neg ht,if_neg ht,put_look,if_pos rfl]
theorem tell_cells:∀ (out:List Race) (cs:List (Int × Cell)) (ts:List (Int × Bool)) (b:Int),(¬ b∈out.map (·.byte)→look (tell out cs ts).1 b=look cs b)∧(b∈out.map (·.byte)→(look (tell out cs ts).1 b).isSome=true)
 | [],cs,ts,b=>by simp [tell]
 | x::r,cs,ts,b=>by
  have ih:=tell_cells r (put cs x.byte { (look cs x.byte).getD cell0 with l:=[] }) (put ts x.byte true) b
  unfold tell
  constructor
  ·intro hb
   simp only [List.map_cons,List.mem_cons,not_or] at hb
   rw [ih.1 hb.2,put_look,if_neg hb.1]
  ·intro hb
   by_cases hr:b∈r.map (·.byte)
   ·exact ih.2 hr
   ·rw [ih.1 hr]
    have:b=x.byte:=by
     rcases List.mem_cons.1 hb with h | h
     ·exact h
     ·exact absurd h hr
    rw [put_look,if_pos this]
    rfl
def tells (d:Det) (a:Acc) (own:Clk) (b:Int):Option Race:=if (look d.told b).getD false then none else match look d.cells b with
 | none=>none
 | some c=>(c.race a own).map fun x=>⟨b,x,a⟩
theorem scan_is {d:Det} {a:Acc} {own:Clk}:∀ (bs:List Int) (out:List Race) (n:Int),0≤n→(d.cells.length:Int)+n+bs.length≤20000→(∀ b,(look d.told b).getD false=true→(look d.cells b).isSome=true)→
  scan d a own bs out n=some (out++bs.filterMap (tells d a own))
 | [],out,n,_,_,_=>by simp [scan]
 | b::r,out,n,h0,hn,ht=>by
  simp only [List.length_cons] at hn
  unfold scan
  rw [List.filterMap_cons]
  cases hc:look d.cells b with
  | none=>
   have hf:¬ (look d.told b).getD false=true:=fun h=>by have:=ht b h; rw [hc] at this; cases this
   have e1:w64 (n+1)=n+1:=w64_small (by omega) (by omega)
   have e2:tells d a own b=none:=by unfold tells; rw [if_neg hf,hc]
   rw [e2]
   simp only
   rw [e1,w64_small (by omega) (by omega),if_neg (by omega)]
   exact scan_is r out (n+1) (by omega) (by omega) ht
  | some c=>
   simp only
   by_cases hf:(look d.told b).getD false=true
   ·have e2:tells d a own b=none:=by unfold tells; rw [if_pos hf]
    rw [if_pos hf,e2]
    exact scan_is r out n h0 (by omega) ht
   ·rw [if_neg hf]
    cases hr:c.race a own with
    | none=>
     have e2:tells d a own b=none:=by unfold tells; rw [if_neg hf,hc]; simp [hr]
     rw [e2]
     exact scan_is r out n h0 (by omega) ht
    | some x=>
     have e2:tells d a own b=some ⟨b,x,a⟩:=by unfold tells; rw [if_neg hf,hc]; simp [hr]
     rw [e2]
     simp only
     rw [scan_is r _ n h0 (by omega) ht]
     simp
theorem filterMap_same {α β:Type} {f g:α→Option β}:∀ {l:List α},(∀ x∈l,f x=g x)→l.filterMap f=l.filterMap g
 | [],_=>rfl
 | x::t,h=>by
  rw [List.filterMap_cons,List.filterMap_cons,h x (by simp),filterMap_same fun y hy=>h y (by simp [hy])]
theorem acc_is (e:Ev):accesses e=(sto e,e.kind == 4,acs e):=by
 unfold accesses acs ld sto
 by_cases h2:e.kind=2∨e.kind=23
 ·rw [if_pos h2]
  rcases h2 with h2 | h2 <;> simp [h2]
 ·rw [if_neg h2]
  by_cases h3:e.kind=3∨e.kind=22
  ·rw [if_pos h3]
   rcases h3 with h3 | h3 <;> simp [h3]
  ·rw [if_neg h3]
   by_cases h4:e.kind=4
   ·rw [if_pos h4]; simp [h4]
   ·rw [if_neg h4]
    simp only [not_or] at h2 h3
    simp [h2,h3,h4]
theorem w32_is (x:Int):w32 x=x % 4294967296:=by unfold w32; simp only [IntKind.wrap,IntKind.bits,IntKind.signed]; simp
theorem has_bytes {e:Ev} {b:Int} (hn:e.n≤65536) (h0:0≤b) (hb:b < 4294967296):has e b=true↔acs e=true∧b∈bytes e.a e.n:=by
 unfold has bytes
 rw [Bool.and_eq_true,decide_eq_true_iff]
 refine and_congr_right fun _=>?_
 have h1:0≤w32 (b - e.a)∧w32 (b - e.a) < 4294967296:=by rw [w32_is]; omega
 rw [w64_small (by omega) (by omega),List.mem_map]
 constructor
 ·intro h
  refine ⟨(w32 (b - e.a)).toNat,by simp; omega,?_⟩
  have h2:(((w32 (b - e.a)).toNat:Nat):Int)=w32 (b - e.a):=by omega
  rw [h2,w32_is,w32_is,w32_is]
  omega
 ·rintro ⟨i,hi,he⟩
  have hi:i < e.n.toNat:=by simpa using hi
  rw [w32_is,w32_is] at he
  rw [w32_is]
  omega
theorem accOf_is {d:Det} {e:Ev} {n:Nat} (h:d.many=n):accOf d e=accO e n:=by
 unfold accOf accO
 rw [acc_is,h]
theorem bytes_range (a n:Int):∀ b∈bytes a n,0≤b∧b < 4294967296:=by
 intro b hb
 obtain ⟨i,_,rfl⟩:=List.mem_map.1 hb
 rw [w32_is]
 omega
end Go.Fx.Mo
namespace Go.Fx.Mo
def Rc (l:List Ev) (b:Int) (i j:Nat):Prop:=has (evN l i) b=true∧has (evN l j) b=true∧conflict (accO (evN l i) i) (accO (evN l j) j)=true∧at0 (pN l j).own (evN l i).th < (pN l i).tk
instance (l:List Ev) (b:Int) (i j:Nat):Decidable (Rc l b i j):=by unfold Rc; infer_instance
def prR (l:List Ev) (b:Int) (i j:Nat):Option Race:=if Rc l b i j then some ⟨b,accO (evN l i) i,accO (evN l j) j⟩ else none
def rowR (l:List Ev) (b:Int) (j:Nat):List Race:=(List.range j).filterMap fun i=>prR l b i j
def racR (l:List Ev) (b:Int) (n:Nat):List Race:=(List.range n).flatMap fun j=>rowR l b j
theorem racR_succ (l:List Ev) (b:Int) (n:Nat):racR l b (n+1)=racR l b n++rowR l b n:=by
 unfold racR
 rw [List.range_succ,List.flatMap_append]
 simp
abbrev pastN (l:List Ev) (k:Nat):Past:=⟨accO (evN l k) k,(pN l k).tk⟩
structure CI (l:List Ev) (b:Int) (n:Nat) (c:Cell):Prop where
 mem:∀ p∈c.l,∃ k,k < n∧has (evN l k) b=true∧p=pastN l k
 ord:c.l.Pairwise fun p q=>p.acc.ev < q.acc.ev
 cov:∀ k,k < n→has (evN l k) b=true→∃ k',k'≤k∧pastN l k'∈c.l∧(evN l k').th=(evN l k).th∧kind (accO (evN l k') k')=kind (accO (evN l k) k)∧relN l k' (evN l k').th=relN l k (evN l k').th
 last:∀ t kd:Nat,t < 8→kd < 3→c.last.getD (t * 3+kd) 0=0∨∃ k',k' < n∧pastN l k'∈c.l∧(evN l k').th=(t:Int)∧kind (accO (evN l k') k')=(kd:Int)∧c.last.getD (t * 3+kd) 0=relN l k' (t:Int)+1
 len:c.last.length=24
theorem CI.zero (l:List Ev) (b:Int) {n:Nat} (h:∀ k,k < n→has (evN l k) b=false):CI l b n cell0:=by
 refine ⟨by simp [cell0],by simp [cell0],fun k hk hh=>?_,fun t kd ht hkd=>?_,rfl⟩
 ·rw [h k hk] at hh; cases hh
 ·left
  show (List.replicate 24 (0:Int)).getD _ 0=0
  simp only [List.getD,List.getElem?_replicate]
  split <;> rfl
theorem CI.skip {l:List Ev} {b:Int} {n:Nat} {c:Cell} (h:CI l b n c) (hn:has (evN l n) b=false):CI l b (n+1) c:=by
 refine ⟨fun p hp=>?_,h.ord,fun k hk hh=>?_,fun t kd ht hkd=>?_,h.len⟩
 ·obtain ⟨k,h1,h2⟩:=h.mem p hp
  exact ⟨k,by omega,h2⟩
 ·by_cases hkn:k=n
  ·rw [hkn,hn] at hh; cases hh
  ·exact h.cov k (by omega) hh
 ·rcases h.last t kd ht hkd with h1 | ⟨k',h1,h2⟩
  ·exact .inl h1
  ·exact .inr ⟨k',by omega,h2⟩
theorem getD_set_eq {l:List Int} {i:Nat} {x:Int} (h:i < l.length):(l.set i x).getD i 0=x:=by
 simp [List.getD,h]
theorem kind_range (a:Acc):0≤kind a∧kind a < 3:=by unfold kind; split <;> (try split) <;> omega
theorem CI.rem {l:List Ev} {N:Nat} (hok:Ok l N) (hN:N≤20000) {b:Int} {n:Nat} {c:Cell} (h:CI l b n c) (hnN:n < N) (hn:has (evN l n) b=true):CI l b (n+1) (c.remember (accO (evN l n) n) (pN l n).tk (relN l n (evN l n).th)):=by
 have ht:=hok.th hnN
 have hk:=kind_range (accO (evN l n) n)
 have hb:=rel_bound hok hN (evN l n).th n (by omega)
 have hth:(accO (evN l n) n).th=(evN l n).th:=rfl
 have et:(((evN l n).th.toNat:Nat):Int)=(evN l n).th:=by omega
 have ek:(((kind (accO (evN l n) n)).toNat:Nat):Int)=kind (accO (evN l n) n):=by omega
 unfold Cell.remember
 simp only [hth]
 rw [w64_small (by omega) (by omega)]
 by_cases hl:c.last.getD ((evN l n).th.toNat * 3+(kind (accO (evN l n) n)).toNat) 0=relN l n (evN l n).th+1
 ·rw [if_pos hl]
  refine ⟨fun p hp=>?_,h.ord,fun k hkn hh=>?_,fun t kd ht hkd=>?_,h.len⟩
  ·obtain ⟨k,h1,h2⟩:=h.mem p hp
   exact ⟨k,by omega,h2⟩
  ·by_cases hke:k=n
   ·subst hke
    rcases h.last (evN l k).th.toNat (kind (accO (evN l k) k)).toNat (by omega) (by omega) with h1 | ⟨k',h1,h2,h3,h4,h5⟩
    ·rw [hl] at h1; omega
    ·rw [et] at h3 h5
     rw [ek] at h4
     rw [hl] at h5
     exact ⟨k',by omega,h2,h3,h4,by rw [h3]; omega⟩
   ·exact h.cov k (by omega) hh
  ·rcases h.last t kd ht hkd with h1 | ⟨k',h1,h2⟩
   ·exact .inl h1
   ·exact .inr ⟨k',by omega,h2⟩
 ·rw [if_neg hl]
  refine ⟨fun p hp=>?_,?_,fun k hkn hh=>?_,fun t kd ht8 hkd=>?_,?_⟩
  ·rcases List.mem_append.1 hp with hp | hp
   ·obtain ⟨k,h1,h2⟩:=h.mem p hp
    exact ⟨k,by omega,h2⟩
   ·exact ⟨n,by omega,hn,by simpa using hp⟩
  ·refine List.pairwise_append.2 ⟨h.ord,by simp,fun p hp q hq=>?_⟩
   obtain ⟨k,h1,_,rfl⟩:=h.mem p hp
   have:q=pastN l n:=by simpa using hq
   rw [this]
   show (k:Int) < (n:Int)
   omega
  ·by_cases hke:k=n
   ·subst hke
    exact ⟨k,Nat.le_refl k,List.mem_append_right _ (by simp),rfl,rfl,rfl⟩
   ·obtain ⟨k',h1,h2,h3⟩:=h.cov k (by omega) hh
    exact ⟨k',h1,List.mem_append_left _ h2,h3⟩
  ·have hlen:=h.len
   show (c.last.set _ _).getD _ 0=0∨∃ k',_∧_∧_∧_∧(c.last.set _ _).getD _ 0=_
   by_cases he:t * 3+kd=(evN l n).th.toNat * 3+(kind (accO (evN l n) n)).toNat
   ·have h1:t=(evN l n).th.toNat:=by omega
    have h2:kd=(kind (accO (evN l n) n)).toNat:=by omega
    right
    refine ⟨n,by omega,List.mem_append_right _ (by simp),by omega,by omega,?_⟩
    rw [he,getD_set_eq (by omega),h1,et]
   ·have e1:(c.last.set ((evN l n).th.toNat * 3+(kind (accO (evN l n) n)).toNat) (relN l n (evN l n).th+1)).getD (t * 3+kd) 0=c.last.getD (t * 3+kd) 0:=by
     simp only [List.getD,List.getElem?_set_ne (Ne.symm he)]
    rw [e1]
    rcases h.last t kd ht8 hkd with h1 | ⟨k',h1,h2,h3⟩
    ·exact .inl h1
    ·exact .inr ⟨k',by omega,List.mem_append_left _ h2,h3⟩
  ·show (c.last.set _ _).length=24
   rw [List.length_set]; exact h.len
theorem kind_same {e e':Ev} {i i':Int} (h:kind (accO e i)=kind (accO e' i')):sto e=sto e'∧(e.kind == 4)=(e'.kind == 4):=by
 have hs:∀ e:Ev,(e.kind == 4)=true→sto e=true:=fun e h=>by unfold sto; simp [h]
 unfold kind accO at h
 simp only at h
 cases h4:(e.kind == 4) <;> cases h4':(e'.kind == 4)
 ·rw [h4,h4'] at h
  simp only [Bool.false_eq_true,if_false] at h
  cases hs1:sto e <;> cases hs2:sto e' <;> rw [hs1,hs2] at h <;> simp at h ⊢
 ·rw [h4,h4'] at h
  simp only [Bool.false_eq_true,if_false,if_true] at h
  split at h <;> omega
 ·rw [h4,h4'] at h
  simp only [Bool.false_eq_true,if_false,if_true] at h
  split at h <;> omega
 ·exact ⟨by rw [hs e h4,hs e' h4'],rfl⟩
theorem range_split {i n:Nat} (h:i < n):List.range n=List.range i++i::List.range' (i+1) (n - (i+1)):=by
 rw [List.range_eq_range',List.range_eq_range',← List.range'_succ]
 have:=@List.range'_append 0 i (n - (i+1)+1) 1
 rw [show i+(n - (i+1)+1)=n by omega] at this
 rw [← this]
 simp
theorem race_first {l:List Ev} {N:Nat} (hok:Ok l N) (hN:N≤20000) {b:Int} {n:Nat} {c:Cell} (h:CI l b n c) (hnN:n < N) (hn:has (evN l n) b=true) :
  (c.race (accO (evN l n) n) (pN l n).own).map (fun x=>(⟨b,x,accO (evN l n) n⟩:Race))=(rowR l b n).head?:=by
 have back:∀ i,i < n→Rc l b i n→∃ k',k'≤i∧pastN l k'∈c.l∧Rc l b k' n:=by
  rintro i hi ⟨r1,r2,r3,r4⟩
  obtain ⟨k',h1,h2,h3,h4,h5⟩:=h.cov i hi r1
  obtain ⟨k2,q1,q2,q3⟩:=h.mem _ h2
  have hk2:k2=k':=by
   have:(pastN l k').acc.ev=(pastN l k2).acc.ev:=by rw [q3]
   have:(k':Int)=(k2:Int):=this
   omega
  subst hk2
  obtain ⟨s1,s2⟩:=kind_same h4
  refine ⟨k2,h1,h2,q2,r2,?_,?_⟩
  ·unfold conflict accO at r3 ⊢
   simp only at r3 ⊢
   rw [h3,s1,s2]
   exact r3
  ·have hne:(evN l n).th≠(evN l k2).th:=by
    unfold conflict accO at r3
    simp only [Bool.and_eq_true,bne_iff_ne] at r3
    rw [h3]
    exact Ne.symm r3.1.1
   rcases sep_law hok hN h1 hi hnN h3.symm h5.symm hne with h6 | h6
   ·exact h6
   ·rw [h3] at h6
    omega
 have good:∀ k,has (evN l k) b=true→(Rc l b k n↔(conflict (pastN l k).acc (accO (evN l n) n) && decide (at0 (pN l n).own (pastN l k).acc.th < (pastN l k).tick))=true):=by
  intro k hk
  rw [Bool.and_eq_true,decide_eq_true_iff]
  exact ⟨fun hh=>⟨hh.2.2.1,hh.2.2.2⟩,fun hh=>⟨hk,hn,hh.1,hh.2⟩⟩
 unfold rowR Cell.race
 rw [List.head?_filterMap]
 cases hf:c.l.find? fun p=>conflict p.acc (accO (evN l n) n) && decide (at0 (pN l n).own p.acc.th < p.tick) with
 | none=>
  rw [List.find?_eq_none] at hf
  symm
  simp only [Option.map_none]
  rw [List.findSome?_eq_none_iff]
  intro i hi
  have hi:i < n:=by simpa using hi
  unfold prR
  rw [if_neg]
  intro hr
  obtain ⟨k',h1,h2,h3⟩:=back i hi hr
  exact hf _ h2 ((good k' h3.1).1 h3)
 | some p=>
  obtain ⟨hp,l1,l2,hl,has'⟩:=List.find?_eq_some_iff_append.1 hf
  obtain ⟨i,hi,hib,rfl⟩:=h.mem p (by rw [hl]; simp)
  have hr:Rc l b i n:=(good i hib).2 hp
  have hmin:∀ i',i' < i→¬ Rc l b i' n:=by
   intro i' hi' hr'
   obtain ⟨k',h1,h2,h3⟩:=back i' (by omega) hr'
   have hord:=h.ord
   rw [hl] at h2 hord
   have hq:=(good k' h3.1).1 h3
   rcases List.mem_append.1 h2 with h2 | h2
   ·have:=has' _ h2
    rw [hq] at this
    cases this
   ·rcases List.mem_cons.1 h2 with h2 | h2
    ·have:(pastN l k').acc.ev=(pastN l i).acc.ev:=by rw [h2]
     have:(k':Int)=(i:Int):=this
     omega
    ·have:=(List.pairwise_cons.1 (List.pairwise_append.1 hord).2.1).1 _ h2
     have:(i:Int) < (k':Int):=this
     omega
  symm
  simp only [Option.map_some]
  rw [List.findSome?_eq_some_iff]
  refine ⟨List.range i,i,(List.range' (i+1) (n - (i+1))),?_,?_,?_⟩
  ·exact range_split hi
  ·unfold prR
   rw [if_pos hr]
  ·intro i' hi'
   have hi':i' < i:=by simpa using hi'
   unfold prR
   rw [if_neg (hmin i' hi')]
end Go.Fx.Mo
namespace Go.Fx.Mo
def totN (l:List Ev):Nat→Nat
 | 0=>0
 | n+1=>totN l n+touched (evN l n)
def bsN (e:Ev):List Int:=if acs e then bytes e.a e.n else []
structure DI (l:List Ev) (n:Nat) (d:Det):Prop where
 th:d.th=stN l n
 many:d.many=n
 told:∀ b,0≤b→b < 4294967296→((look d.told b).getD false=true↔racR l b n≠[])
 key:∀ b,0≤b→b < 4294967296→((look d.cells b).isSome=true↔∃ k,k < n∧has (evN l k) b=true)
 cell:∀ b c,0≤b→b < 4294967296→(look d.told b).getD false=false→look d.cells b=some c→CI l b n c
 kr:∀ b,(look d.cells b).isSome=true→0≤b∧b < 4294967296
 tr:∀ b,(look d.told b).getD false=true→0≤b∧b < 4294967296
 clen:d.cells.length≤totN l n
 tlen:d.told.length≤totN l n
theorem put_len_some {K V:Type} [DecidableEq K] {m:List (K × V)} {k:K} {v:V} (h:(look m k).isSome=true):(put m k v).length=m.length:=by
 unfold put
 cases hl:look m k with
 | none=>rw [hl] at h; cases h
 | some u=>simp
theorem tell_len1:∀ (out:List Race) (cs:List (Int × Cell)) (ts:List (Int × Bool)),(∀ x∈out,(look cs x.byte).isSome=true)→(tell out cs ts).1.length=cs.length
 | [],cs,ts,_=>rfl
 | x::r,cs,ts,h=>by
  unfold tell
  rw [tell_len1 r _ _ (fun y hy=>?_),put_len_some (h x (by simp))]
  rw [put_look]
  split
  ·rfl
  ·exact h y (by simp [hy])
theorem tell_len2:∀ (out:List Race) (cs:List (Int × Cell)) (ts:List (Int × Bool)),(tell out cs ts).2.length≤ts.length+out.length
 | [],cs,ts=>by simp [tell]
 | x::r,cs,ts=>by
  unfold tell
  refine Nat.le_trans (tell_len2 r _ _) ?_
  have h2:=put_len ts x.byte true
  simp only [List.length_cons]
  omega
theorem rowR_mem {l:List Ev} {b:Int} {j:Nat} {r:Race} (h:r∈rowR l b j):∃ i,i < j∧Rc l b i j∧r=⟨b,accO (evN l i) i,accO (evN l j) j⟩:=by
 unfold rowR at h
 obtain ⟨i,hi,hr⟩:=List.mem_filterMap.1 h
 unfold prR at hr
 split at hr
 ·rename_i hrc
  cases hr
  exact ⟨i,by simpa using hi,hrc,rfl⟩
 ·cases hr
theorem rowR_nil {l:List Ev} {b:Int} {j:Nat} (h:∀ i,i < j→¬ Rc l b i j):rowR l b j=[]:=by
 rw [List.eq_nil_iff_forall_not_mem]
 intro r hr
 obtain ⟨i,hi,hrc,_⟩:=rowR_mem hr
 exact h i hi hrc
def newR (l:List Ev) (n:Nat) (b:Int):Option Race:=if racR l b n=[] then (rowR l b n).head? else none
theorem newR_byte {l:List Ev} {n:Nat} {b:Int} {r:Race} (h:newR l n b=some r):r.byte=b∧racR l b n=[]∧rowR l b n≠[]:=by
 unfold newR at h
 split at h
 ·rename_i hr
  have hm:=List.mem_of_mem_head? h
  obtain ⟨i,_,_,rfl⟩:=rowR_mem hm
  exact ⟨rfl,hr,fun hn=>by rw [hn] at hm; cases hm⟩
 ·cases h
theorem bsN_n {l:List Ev} {N n:Nat} (hok:Ok l N) (hn:n < N) (ha:acs (evN l n)=true):0≤(evN l n).n∧(evN l n).n≤65536:=by
 refine refused_n (plan_refused (hok n hn)) ?_
 rw [acc_is]; exact ha
theorem mem_bsN {l:List Ev} {N n:Nat} (hok:Ok l N) (hn:n < N) {b:Int} (h0:0≤b) (hb:b < 4294967296):b∈bsN (evN l n)↔has (evN l n) b=true:=by
 unfold bsN
 cases ha:acs (evN l n)
 ·simp [has,ha]
 ·rw [has_bytes (bsN_n hok hn ha).2 h0 hb,ha]
  simp
theorem bsN_range {e:Ev}:∀ b∈bsN e,0≤b∧b < 4294967296:=by
 intro b hb
 unfold bsN at hb
 split at hb
 ·exact bytes_range _ _ b hb
 ·cases hb
theorem bsN_nodup {l:List Ev} {N n:Nat} (hok:Ok l N) (hn:n < N):(bsN (evN l n)).Nodup:=by
 unfold bsN
 split
 ·rename_i ha
  exact bytes_nodup (bsN_n hok hn ha).2
 ·exact List.nodup_nil
theorem bsN_len (e:Ev):(bsN e).length=touched e:=by
 unfold bsN touched
 rw [acc_is]
 dsimp only
 split <;> simp [bytes]
theorem DI.step {l:List Ev} {N n:Nat} {d:Det} (hok:Ok l N) (hN:N≤20000) (h:DI l n d) (hn:n < N) (htot:totN l (n+1)≤1000) :
  ∃ d',feed d (evN l n)=(d',.inl ((bsN (evN l n)).filterMap (newR l n)))∧DI l (n+1) d':=by
 have hp:=hok n hn
 have hbl:=bsN_len (evN l n)
 have hcl:=h.clen
 have htl:=h.tlen
 simp only [totN] at htot
 have hbs:(if (accesses (evN l n)).2.2 then bytes (evN l n).a (evN l n).n else [])=bsN (evN l n):=by rw [acc_is]; rfl
 have htc:∀ b,(look d.told b).getD false=true→(look d.cells b).isSome=true:=by
  intro b hb
  obtain ⟨h0,h1⟩:=h.tr b hb
  rw [h.key b h0 h1]
  have h2:=(h.told b h0 h1).1 hb
  obtain ⟨r,hr⟩:=List.exists_mem_of_ne_nil _ h2
  unfold racR at hr
  obtain ⟨j,hj,hrj⟩:=List.mem_flatMap.1 hr
  obtain ⟨i,hi,hrc,_⟩:=rowR_mem hrj
  have hj:j < n:=by simpa using hj
  exact ⟨i,by omega,hrc.1⟩
 have hscan:=scan_is (d:=d) (a:=accOf d (evN l n)) (own:=(pN l n).own) (bsN (evN l n)) [] 0 (Int.le_refl 0) (by omega) htc
 rw [List.nil_append] at hscan
 have hrow0:∀ b,has (evN l n) b=false→rowR l b n=[]:=fun b hb=>rowR_nil fun i _ hrc=>by rw [hrc.2.1] at hb; cases hb
 have hout:(bsN (evN l n)).filterMap (tells d (accOf d (evN l n)) (pN l n).own)=(bsN (evN l n)).filterMap (newR l n):=by
  refine filterMap_same fun b hb=>?_
  obtain ⟨h0,h1⟩:=bsN_range b hb
  have hh:=(mem_bsN hok hn h0 h1).1 hb
  unfold tells newR
  have ht:=h.told b h0 h1
  by_cases hto:(look d.told b).getD false=true
  ·rw [if_pos hto,if_neg (ht.1 hto)]
  ·have hr0:racR l b n=[]:=by
    by_cases hr0:racR l b n=[]
    ·exact hr0
    ·exact absurd (ht.2 hr0) hto
   rw [if_neg hto,if_pos hr0,accOf_is h.many]
   cases hc:look d.cells b with
   | none=>
    have hk:=h.key b h0 h1
    rw [hc] at hk
    have:rowR l b n=[]:=rowR_nil fun i hi hrc=>by
     have:=hk.2 ⟨i,hi,hrc.1⟩
     cases this
    rw [this]
    rfl
   | some c=>
    exact race_first hok hN (h.cell b c h0 h1 (by simpa using hto) hc) hn hh
 rw [hout] at hscan
 generalize hoe:(bsN (evN l n)).filterMap (newR l n)=out at hscan hout
 have hol:out.length≤(bsN (evN l n)).length:=by rw [← hoe]; exact List.length_filterMap_le _ _
 have hmem:∀ b,0≤b→b < 4294967296→(b∈out.map (·.byte)↔racR l b n=[]∧rowR l b n≠[]):=by
  intro b h0 h1
  constructor
  ·intro hb
   obtain ⟨r,hr,rfl⟩:=List.mem_map.1 hb
   rw [← hoe] at hr
   obtain ⟨b',hb',hr⟩:=List.mem_filterMap.1 hr
   obtain ⟨q1,q2,q3⟩:=newR_byte hr
   rw [q1]
   exact ⟨q2,q3⟩
  ·rintro ⟨q1,q2⟩
   obtain ⟨r,hr⟩:=List.exists_mem_of_ne_nil _ q2
   have hh:has (evN l n) b=true:=by
    obtain ⟨i,_,hrc,_⟩:=rowR_mem hr
    exact hrc.2.1
   cases hrow:rowR l b n with
   | nil=>exact absurd hrow q2
   | cons x t=>
    have hnew:newR l n b=some x:=by unfold newR; rw [if_pos q1,hrow]; rfl
    refine List.mem_map.2 ⟨x,?_,(newR_byte hnew).1⟩
    rw [← hoe]
    exact List.mem_filterMap.2 ⟨b,(mem_bsN hok hn h0 h1).2 hh,hnew⟩
 have hmr:∀ b,b∈out.map (·.byte)→b∈bsN (evN l n):=by
  intro b hb
  obtain ⟨r,hr,rfl⟩:=List.mem_map.1 hb
  rw [← hoe] at hr
  obtain ⟨b',hb',hr⟩:=List.mem_filterMap.1 hr
  have:=(newR_byte hr).1
  rw [this]
  exact hb'
 refine ⟨⟨perform (stN l n) (evN l n) (pN l n),w64 (d.many+1),(tell out (keep (accOf d (evN l n)) (pN l n).tk (at0 (stN l n).rels (evN l n).th) d.told (bsN (evN l n)) d.cells) d.told).1,(tell out (keep (accOf d (evN l n)) (pN l n).tk (at0 (stN l n).rels (evN l n).th) d.told (bsN (evN l n)) d.cells) d.told).2⟩,?_,?_⟩
 ·unfold feed
  have hmn:=h.many
  rw [if_neg (by omega),h.th,hp]
  simp only
  rw [hbs,hscan]
  simp only
  rw [if_neg (by rw [w64_small (by omega) (by omega)]; omega)]
 have hkl:=keep_look (a:=accOf d (evN l n)) (tk:=(pN l n).tk) (rel:=at0 (stN l n).rels (evN l n).th) (ts:=d.told) (bs:=bsN (evN l n)) (cs:=d.cells) (bsN_nodup hok hn)
 generalize hke:keep (accOf d (evN l n)) (pN l n).tk (at0 (stN l n).rels (evN l n).th) d.told (bsN (evN l n)) d.cells=kc at hkl
 have hkc:kc.length≤d.cells.length+(bsN (evN l n)).length:=by rw [← hke]; exact keep_len
 have htold:∀ b,(look (tell out kc d.told).2 b).getD false=((look d.told b).getD false || out.any fun r=>r.byte == b):=tell_told out kc d.told
 have hany:∀ b,(out.any fun r=>r.byte == b)=true↔b∈out.map (·.byte):=by
  intro b
  rw [List.any_eq_true,List.mem_map]
  simp
 have hsome:∀ b,(look (tell out kc d.told).1 b).isSome=true↔b∈bsN (evN l n)∨(look d.cells b).isSome=true:=by
  intro b
  obtain ⟨t1,t2⟩:=tell_cells out kc d.told b
  by_cases hbo:b∈out.map (·.byte)
  ·simp [t2 hbo,hmr b hbo]
  ·rw [t1 hbo,hkl b]
   by_cases hbb:b∈bsN (evN l n)
   ·rw [if_pos hbb]; simp [hbb]
   ·rw [if_neg hbb]; simp [hbb]
 refine ⟨?_,?_,fun b h0 h1=>?_,fun b h0 h1=>?_,fun b c h0 h1 ht hc=>?_,fun b hb=>?_,fun b hb=>?_,?_,?_⟩
 ·show perform (stN l n) (evN l n) (pN l n)=stN l (n+1)
  rw [hok.at hn]
 ·show w64 (d.many+1)=((n+1:Nat):Int)
  rw [h.many,w64_small (by omega) (by omega)]
  rfl
 ·show (look (tell out kc d.told).2 b).getD false=true↔_
  rw [htold,Bool.or_eq_true,hany,hmem b h0 h1,h.told b h0 h1,racR_succ]
  constructor
  ·rintro (hq | ⟨_,hq⟩) <;> simp [hq]
  ·intro hq
   by_cases hr:racR l b n=[]
   ·right
    rw [hr,List.nil_append] at hq
    exact ⟨hr,hq⟩
   ·exact .inl hr
 ·show (look (tell out kc d.told).1 b).isSome=true↔_
  rw [hsome,mem_bsN hok hn h0 h1,h.key b h0 h1]
  constructor
  ·rintro (hq | ⟨k,hk,hq⟩)
   ·exact ⟨n,by omega,hq⟩
   ·exact ⟨k,by omega,hq⟩
  ·rintro ⟨k,hk,hq⟩
   by_cases hkn:k=n
   ·subst hkn; exact .inl hq
   ·exact .inr ⟨k,by omega,hq⟩
 ·have ht:(look (tell out kc d.told).2 b).getD false=false:=ht
  have hc:look (tell out kc d.told).1 b=some c:=hc
  rw [htold,Bool.or_eq_false_iff] at ht
  have hbo:¬ b∈out.map (·.byte):=fun hb=>by rw [(hany b).2 hb] at ht; cases ht.2
  rw [(tell_cells out kc d.told b).1 hbo,hkl b] at hc
  by_cases hbb:b∈bsN (evN l n)
  ·have hh:=(mem_bsN hok hn h0 h1).1 hbb
   rw [if_pos hbb,ht.1] at hc
   simp only [Bool.false_eq_true,if_false,Option.some.injEq] at hc
   rw [← hc,accOf_is h.many]
   cases hco:look d.cells b with
   | none=>
    have hk:=h.key b h0 h1
    rw [hco] at hk
    refine CI.rem hok hN (CI.zero l b fun k hk'=>?_) hn hh
    cases hhk:has (evN l k) b with
    | false=>rfl
    | true=>have:=hk.2 ⟨k,hk',hhk⟩; cases this
   | some c0=>exact CI.rem hok hN (h.cell b c0 h0 h1 ht.1 hco) hn hh
  ·rw [if_neg hbb] at hc
   refine (h.cell b c h0 h1 ht.1 hc).skip ?_
   cases hh:has (evN l n) b with
   | false=>rfl
   | true=>exact absurd ((mem_bsN hok hn h0 h1).2 hh) hbb
 ·rcases (hsome b).1 hb with hb | hb
  ·exact bsN_range b hb
  ·exact h.kr b hb
 ·have hb:(look (tell out kc d.told).2 b).getD false=true:=hb
  rw [htold,Bool.or_eq_true,hany] at hb
  rcases hb with hb | hb
  ·exact h.tr b hb
  ·exact bsN_range b (hmr b hb)
 ·show (tell out kc d.told).1.length≤totN l n+touched (evN l n)
  rw [tell_len1 out kc d.told (fun x hx=>by
   rw [hkl x.byte,if_pos (hmr _ (List.mem_map.2 ⟨x,hx,rfl⟩))]; rfl)]
  omega
 ·show (tell out kc d.told).2.length≤totN l n+touched (evN l n)
  have:=tell_len2 out kc d.told
  omega
theorem DI.zero (l:List Ev):DI l 0 det0:=by
 refine ⟨rfl,rfl,fun b _ _=>?_,fun b _ _=>?_,fun b c _ _ _ hc=>?_,fun b hb=>?_,fun b hb=>?_,Nat.le_refl 0,Nat.le_refl 0⟩
 ·simp [det0,look,racR]
 ·simp [det0,look]
 ·simp [det0,look] at hc
 ·simp [det0,look] at hb
 ·simp [det0,look] at hb
def OutI (l:List Ev) (n:Nat) (out:List Race):Prop:=∀ r,r∈out↔0≤r.byte∧r.byte < 4294967296∧(racR l r.byte n).head?=some r
theorem OutI.step {l:List Ev} {N n:Nat} {out:List Race} (hok:Ok l N) (hn:n < N) (h:OutI l n out):OutI l (n+1) (out++(bsN (evN l n)).filterMap (newR l n)):=by
 intro r
 rw [List.mem_append,h r,racR_succ]
 constructor
 ·rintro (⟨h0,h1,h2⟩ | hr)
  ·refine ⟨h0,h1,?_⟩
   rw [List.head?_append,h2]; rfl
  ·obtain ⟨b,hb,hr⟩:=List.mem_filterMap.1 hr
   obtain ⟨q1,q2,q3⟩:=newR_byte hr
   obtain ⟨h0,h1⟩:=bsN_range b hb
   rw [q1]
   refine ⟨h0,h1,?_⟩
   rw [q2,List.nil_append]
   unfold newR at hr
   rw [if_pos q2] at hr
   exact hr
 ·rintro ⟨h0,h1,h2⟩
  by_cases hr:racR l r.byte n=[]
  ·right
   rw [hr,List.nil_append] at h2
   refine List.mem_filterMap.2 ⟨r.byte,?_,by unfold newR; rw [if_pos hr]; exact h2⟩
   obtain ⟨i,_,hrc,_⟩:=rowR_mem (List.mem_of_mem_head? h2)
   exact (mem_bsN hok hn h0 h1).2 hrc.2.1
  ·left
   refine ⟨h0,h1,?_⟩
   rw [List.head?_append] at h2
   cases hx:racR l r.byte n with
   | nil=>exact absurd hx hr
   | cons x t=>rw [hx] at h2; exact h2
theorem totN_mono (l:List Ev) {k:Nat}:∀ {n},k≤n→totN l k≤totN l n
 | 0,h=>by rw [show k=0 by omega]; exact Nat.le_refl _
 | n+1,h=>by
  by_cases he:k=n+1
  ·rw [he]; exact Nat.le_refl _
  ·have:=totN_mono l (k:=k) (n:=n) (by omega)
   simp only [totN]; omega
theorem feeds_DI {l:List Ev} (hok:Ok l l.length) (hN:l.length≤20000) (htot:totN l l.length≤1000):∀ (m n:Nat) (d:Det) (out:List Race),n+m=l.length→DI l n d→OutI l n out→
  ∃ out',feeds (l.drop n) d out=.inl out'∧OutI l l.length out'
 | 0,n,d,out,hnm,_,ho=>by
  rw [List.drop_eq_nil_of_le (by omega)]
  refine ⟨out,rfl,?_⟩
  rw [show l.length=n by omega]
  exact ho
 | m+1,n,d,out,hnm,hd,ho=>by
  have hn:n < l.length:=by omega
  obtain ⟨d',hf,hd'⟩:=hd.step hok hN hn (Nat.le_trans (totN_mono l (by omega)) htot)
  have he:l.drop n=evN l n::l.drop (n+1):=by
   rw [List.drop_eq_getElem_cons hn]
   unfold evN
   simp [List.getD,hn]
  rw [he]
  unfold feeds
  rw [hf]
  exact feeds_DI hok hN htot m (n+1) d' _ (by omega) hd' (ho.step hok hn)
end Go.Fx.Mo
namespace Go.Fx.Mo
abbrev Tab:=List (List Bool)
def tabAt (t:Tab) (i j:Nat):Bool:=(t.getD i []).getD j false
def pr (l:List Ev) (t:Tab) (b:Int) (i j:Nat):Option Race:=
 if has (l.getD i default) b=true∧has (l.getD j default) b=true∧tabAt t i j=false∧conflict (accO (l.getD i default) i) (accO (l.getD j default) j)=true
 then some ⟨b,accO (l.getD i default) i,accO (l.getD j default) j⟩ else none
def rIn (l:List Ev) (t:Tab) (b:Int) (j:Nat):Nat→Nat→List Race→List Race
 | 0,_,o=>o
 | m+1,i,o=>rIn l t b j m (i+1) (o++(pr l t b i j).toList)
def rOut (l:List Ev) (t:Tab) (b:Int):Nat→Nat→List Race→List Race
 | 0,_,o=>o
 | m+1,j,o=>rOut l t b m (j+1) (rIn l t b j j 0 o)
def racing (l:List Ev) (t:Tab) (b:Int):List Race:=rOut l t b l.length 0 []
end Go.Fx.Mo
namespace Go.Fx.Try
open Go Go.Fx Go.Fx.Mo
open Go.Proofs
variable {w0 w:World} {H Y:List (Nat × Obj)} {K:Value→World→Prop}
set_option maxRecDepth 20000
theorem bs25' (w:World):(Instr.buildSlice 25 0 ([]:List (Nat × Value)).toArray).run P w=.ok (.slice (some ⟨w.heap.size,0,none⟩) 0 0) (w.alloc (.cells #[] 47 (0,0))):=by kernel_rfl
def NS (w0 w:World) (H Z:List (Nat × Obj)):Prop:=St w0 w (Z++H)∧New w0 Z
abbrev z45c:List Value:=[I64 0,I64 0,.int .u32 0,.bool false,.bool false]
theorem NS.newC {Z:List (Nat × Obj)} {Q:Nat→World→Prop} (h:NS w0 w H Z) (hK:∀ n w',NS w0 w' H ((n,Cs z45c 45)::Z)→Q n w'):NewC (zcells P 45) 45 w Q:=by
 rw [z45]
 refine h.1.newC fun n w' hn h'=>hK n w' ⟨h',?_⟩
 intro y hy
 rcases List.mem_cons.1 hy with rfl | hy
 ·exact hn
 ·exact h.2 y hy
theorem NS.acc {Z:List (Nat × Obj)} {e:Ev} {i:Int} {Q:Value→World→Prop} (h:NS w0 w H Z) (hK:∀ w',NS w0 w' H Z→Q (.agg (Acccs (accO e i)).toArray) w'):CallL P 90 [.agg (Evcs e).toArray,.int .i64 i] w Q:=
 acc_ok h.1 e i fun w' h'=>hK w' ⟨h',h.2⟩
section
variable {l:List Ev} {t:Tab} {b:Int} {lv tv:Value} {la ta:Option Addr} {lc tc:Nat} {oa:Option Addr} {oc:Nat} {Lo:List (Nat × Obj)} {out:List Mo.Race} {i j:Nat}
def TRow (w:World) (tv:Value) (n:Nat) (t:Tab):Prop:=
 (∃ a c,tv=.slice a n c)∧∀ i,i < n→∃ a c g,tv=.slice (some a) n c∧w.cell? (a.add (i * 1))=some (.slice (some ⟨g,0,none⟩) n n)∧∀ j,j < n→w.cell? (Addr.mk g j none)=some (.bool (tabAt t i j))
theorem racing_s12 {nA nB:Nat} {x y:Acc} {Y4 Y7:Env→World→Prop} (h:St w0 w ((nB,Cs (Acccs y) 45)::(nA,Cs (Acccs x) 45)::(Lo++H))) (hA:w0.heap.size≤nA) (hB:w0.heap.size≤nB)
  (hS:SlO 11 47 (.slice oa out.length oc) out.length (racesCs out) Lo) (hN:New w0 Lo) (hb:out.length < 1000000000)
  (hK:∀ w' a c L,SlO 11 47 (.slice a (out++(if Mo.conflict x y=true then some (⟨b,x,y⟩:Mo.Race) else none).toList).length c) (out++(if Mo.conflict x y=true then some (⟨b,x,y⟩:Mo.Race) else none).toList).length (racesCs (out++(if Mo.conflict x y=true then some (⟨b,x,y⟩:Mo.Race) else none).toList)) L→New w0 L→St w0 w' (L++H)→
   f57_s10 none 0 0 a (out++(if Mo.conflict x y=true then some (⟨b,x,y⟩:Mo.Race) else none).toList).length c b la l.length lc ta l.length tc (j:Nat) (i:Nat) w' K Y4 Y7) :
  f57_s12 none 0 0 b la l.length lc ta l.length tc (j:Nat) (i:Nat) (Addr.mk nB 0 none) (Addr.mk nA 0 none) oa out.length oc w K Y4 Y7:=by
 rw [f57_s12_eq]
 refine h.ldA (k:=1) (i:=0) rfl (by simp [Acccs_len]) (h.ldA (k:=0) (i:=0) rfl (by simp [Acccs_len]) ?_)
 rw [show ((Acccs x).drop 0).take 5=Acccs x from rfl,show ((Acccs y).drop 0).take 5=Acccs y from rfl]
 refine confl_ok h x y fun w1 h1=>⟨_,rfl,?_⟩
 cases hc:Mo.conflict x y
 ·rw [BIf_false]
  rw [hc] at hK
  simp only [Bool.false_eq_true,if_false,Option.toList_none,List.append_nil] at hK
  exact hK w1 oa oc Lo hS hN ((h1.tail hB).tail hA)
 ·rw [BIf_true]
  rw [hc] at hK
  simp only [if_true,Option.toList_some] at hK
  refine h1.ldA (k:=1) (i:=0) rfl (by simp [Acccs_len]) (h1.ldA (k:=0) (i:=0) rfl (by simp [Acccs_len]) ?_)
  rw [show ((Acccs x).drop 0).take 5=Acccs x from rfl,show ((Acccs y).drop 0).take 5=Acccs y from rfl]
  refine ⟨_,fun wq=>build47 b x y wq,⟨rfl,trivial⟩,?_⟩
  refine h1.newC fun n126 w2 hn h2=>?_
  have h2:St w0 w2 (((n126,Cs (Racecs ⟨b,x,y⟩) 47)::(nB,Cs (Acccs y) 45)::[(nA,Cs (Acccs x) 45)])++(Lo++H)):=by
   have e:(([Value.agg (Racecs ⟨b,x,y⟩).toArray].map fun (v:Value)=>v.cells.toList).flatten)=Racecs ⟨b,x,y⟩:=by simp [Value.cells]
   rw [← e]; exact h2
  obtain ⟨g,cap,w3,L',hru,hS',g3,hN'⟩:=St.append (P:=P) 25 25 47 Try.t47 (.agg #[.int .u32 0,I64 0,I64 0,.int .u32 0,.bool false,.bool false,I64 0,I64 0,.int .u32 0,.bool false,.bool false]) 11 56 Try.underlying25 info47 rfl rfl rfl rfl (by omega) h2 hS hN (j:=0) rfl (Racecs_len _) (by simpa using Racecs_one _) (by simp [maxLen]; omega) (by omega)
  refine ⟨_,_,_,w3,hru,?_⟩
  have e2:out.length+1=(out++[(⟨b,x,y⟩:Mo.Race)]).length:=by simp
  rw [e2] at hS' ⊢
  refine hK w3 _ _ L' ?_ hN' (((g3.tail hn).tail hB).tail hA)
  rw [show racesCs (out++[(⟨b,x,y⟩:Mo.Race)])=racesCs out++Racecs ⟨b,x,y⟩ by simp [racesCs]]
  exact hS'
end
end Go.Fx.Try
namespace Go.Fx.Try
open Go Go.Fx Go.Fx.Mo
open Go.Proofs
variable {w0 w:World} {H Y:List (Nat × Obj)} {K:Value→World→Prop}
set_option maxRecDepth 20000
section
variable {l:List Ev} {t:Tab} {b:Int} {la ta:Option Addr} {lc tc:Nat} {oa:Option Addr} {oc:Nat} {Lo:List (Nat × Obj)} {out:List Mo.Race} {i j:Nat}
set_option maxHeartbeats 4000000 in
theorem racing_s11 {x y:Acc} {Y4 Y7:Env→World→Prop} (h:St w0 w (Lo++H)) (hrow:∀ w',St w0 w' H→Row w' 6 (.slice la l.length lc) l.length (evsCs l)) (hi:i < l.length) (hj:j < l.length)
  (hx:x=accO l[i] i) (hy:y=accO l[j] j)
  (hS:SlO 11 47 (.slice oa out.length oc) out.length (racesCs out) Lo) (hN:New w0 Lo) (hb:out.length < 1000000000)
  (hK:∀ w' a c L,SlO 11 47 (.slice a (out++(if Mo.conflict x y=true then some (⟨b,x,y⟩:Mo.Race) else none).toList).length c) (out++(if Mo.conflict x y=true then some (⟨b,x,y⟩:Mo.Race) else none).toList).length (racesCs (out++(if Mo.conflict x y=true then some (⟨b,x,y⟩:Mo.Race) else none).toList)) L→New w0 L→St w0 w' (L++H)→
   f57_s10 none 0 0 a (out++(if Mo.conflict x y=true then some (⟨b,x,y⟩:Mo.Race) else none).toList).length c b la l.length lc ta l.length tc (j:Nat) (i:Nat) w' K Y4 Y7) :
  f57_s11 none 0 0 b la l.length lc ta l.length tc (j:Nat) (i:Nat) oa out.length oc w K Y4 Y7:=by
 rw [f57_s11_eq]
 have hd:=h.drew
 obtain ⟨a,c,hac,hld⟩:=(hrow _ (hd.sub hN)).ldA hi
 obtain ⟨hsa,-⟩:la=some a∧lc=c:=by simpa using hac
 subst hsa
 refine ⟨by omega,by omega,by omega,by omega,?_⟩
 rw [Int.toNat_natCast,Int.toNat_natCast]
 refine hld _ ?_
 rw [evs_at hi]
 have h0:NS w0 w.drew (Lo++H) []:=⟨hd,New.nil w0⟩
 have ldj:∀ {w':World} {Z:List (Nat × Obj)} {Q:Array Value→Prop},NS w0 w' (Lo++H) Z→Q (Evcs l[j]).toArray→LdA 6 (a.add (j * 6)) w' Q:=fun {w' Z Q} h' hq=>by
  obtain ⟨a',c',hac',hld'⟩:=(hrow _ ((h'.1.sub h'.2).sub hN)).ldA hj
  obtain ⟨rfl,-⟩:a=a'∧lc=c':=by simpa using hac'
  refine hld' _ ?_
  rw [evs_at hj]
  exact hq
 have fin1:∀ {w':World} {nA nB:Nat},NS w0 w' (Lo++H) ((nB,Cs z45c 45)::(nA,Cs z45c 45)::[])→StA 5 (Addr.mk nA 0 none) (Acccs (accO l[i] i)).toArray w' (fun w2=>StA 5 (Addr.mk nB 0 none) (Acccs (accO l[j] j)).toArray w2 (fun w3=>f57_s12 none 0 0 b (some a) l.length lc ta l.length tc (j:Nat) (i:Nat) (Addr.mk nB 0 none) (Addr.mk nA 0 none) oa out.length oc w3 K Y4 Y7)):=by
  intro w' nA nB h'
  refine h'.1.stA (k:=1) rfl rfl (by simp) (Acccs_one _) fun w2 h2=>h2.stA (k:=0) rfl rfl (by simp) (Acccs_one _) fun w3 h3=>?_
  have h3:St w0 w3 ((nB,Cs (Acccs (accO l[j] j)) 45)::(nA,Cs (Acccs (accO l[i] i)) 45)::(Lo++H)):=h3
  rw [← hx,← hy] at h3
  exact racing_s12 h3 (h'.2 (nA,Cs z45c 45) (.tail _ (.head _))) (h'.2 (nB,Cs z45c 45) (.head _)) hS hN hb hK
 have fin2:∀ {w':World} {nA nB:Nat},NS w0 w' (Lo++H) ((nA,Cs z45c 45)::(nB,Cs z45c 45)::[])→StA 5 (Addr.mk nA 0 none) (Acccs (accO l[i] i)).toArray w' (fun w2=>StA 5 (Addr.mk nB 0 none) (Acccs (accO l[j] j)).toArray w2 (fun w3=>f57_s12 none 0 0 b (some a) l.length lc ta l.length tc (j:Nat) (i:Nat) (Addr.mk nB 0 none) (Addr.mk nA 0 none) oa out.length oc w3 K Y4 Y7)):=by
  intro w' nA nB h'
  refine fin1 ⟨h'.1.perm (List.Perm.swap ..),fun y hy=>h'.2 y ?_⟩
  simp at hy ⊢
  rcases hy with rfl | rfl <;> simp
 clear hK hd h hx hy
 repeat' first
  | exact fin1 (by assumption)
  | exact fin2 (by assumption)
  | refine NS.acc (by assumption) fun w' h'=>⟨_,rfl,?_⟩
  | refine ldj (by assumption) ?_
  | refine NS.newC (by assumption) fun n w' h'=>?_
  | refine ⟨?_,?_⟩
end
theorem racing_ok {l:List Ev} {t:Tab} {b:Int} {lv tv:Value} (h:St w0 w H) (hrow:∀ w',St w0 w' H→Row w' 6 lv l.length (evsCs l)) (htab:∀ w',St w0 w' H→TRow w' tv l.length t) (hl:l.length≤20000)
  (hK:∀ w' a c Lo,SlO 11 47 (.slice a (racing l t b).length c) (racing l t b).length (racesCs (racing l t b)) Lo→New w0 Lo→(racing l t b).length≤400000000→St w0 w' (Lo++H)→K (.slice a (racing l t b).length c) w') :
  CallL P 57 [lv,tv,.int .u32 b] w K:=by
 obtain ⟨la,lc,hlv⟩:=(hrow w h).form
 obtain ⟨⟨ta,tc,htv⟩,-⟩:=htab w h
 rw [hlv,htv]
 refine f57_ok _ _ _ _ _ _ _ _ _ ?_
 rw [f57_eq,f57_s0_eq,f57_s1_eq]
 refine ⟨_,_,_,_,bs25' w,?_⟩
 have h2:=h.alloc (.cells #[] 47 (0,0))
 have hn:=h.le
 generalize w.heap.size=n at h2 hn
 have h2:St w0 (w.alloc (.cells #[] 47 (0,0))) ([(n,Cs [] 47)]++H):=h2
 rw [f57_s2_eq,f57_s3_eq]
 refine ⟨fun m ee w=>∃ (j:Nat) (out:List Mo.Race) (oa:Option Addr) (oc:Nat) (Lo:List (Nat × Obj)),j≤l.length∧m=l.length - j∧ee=Env.mk 72 [(6,nilS),(7,.slice oa out.length oc),(8,I64 (j:Nat)),(2,.int .u32 b),(0,.slice la l.length lc),(1,.slice ta l.length tc)] []∧
   rOut l t b (l.length - j) j out=racing l t b∧out.length≤20000 * j∧SlO 11 47 (.slice oa out.length oc) out.length (racesCs out) Lo∧New w0 Lo∧St w0 w (Lo++H),
  ⟨l.length,0,[],_,_,_,by omega,rfl,rfl,rfl,by simp,slO_nil0 11 47 n,by simpa [New] using hn,h2⟩,?_⟩
 rintro m ee w4 ⟨j,out,oa,oc,Lo,hj,rfl,rfl,hfin,hob,hS,hN,hw⟩
 show f57_lb4 _ _ _ _ _ _ _ _ _ _ _ _ _ _ _ _ _
 rw [f57_lb4_eq]
 refine ⟨l.length,fun wq _=>run_len_22 wq,?_⟩
 rw [BIf_iff]
 constructor
 ·intro hlt
  have hlt:j < l.length:=by simpa using hlt
  rw [f57_s5_eq,f57_s6_eq]
  rw [show l.length - j=(l.length - (j+1))+1 by omega,rOut] at hfin
  generalize hY:(fun e' w'=>∃ m,m < l.length - j∧∃ (j:Nat) (out:List Mo.Race) (oa:Option Addr) (oc:Nat) (Lo:List (Nat × Obj)),j≤l.length∧m=l.length - j∧e'=Env.mk 72 [(6,nilS),(7,.slice oa out.length oc),(8,I64 (j:Nat)),(2,.int .u32 b),(0,.slice la l.length lc),(1,.slice ta l.length tc)] []∧
   rOut l t b (l.length - j) j out=racing l t b∧out.length≤20000 * j∧SlO 11 47 (.slice oa out.length oc) out.length (racesCs out) Lo∧New w0 Lo∧St w0 w' (Lo++H))=Y
  refine ⟨fun m ee w=>∃ (i:Nat) (o:List Mo.Race) (oa:Option Addr) (oc:Nat) (Lo:List (Nat × Obj)),i≤j∧m=j - i∧ee=Env.mk 72 [(6,nilS),(7,.slice oa o.length oc),(2,.int .u32 b),(0,.slice la l.length lc),(1,.slice ta l.length tc),(8,I64 (j:Nat)),(9,I64 (i:Nat))] []∧
    rIn l t b j (j - i) i o=rIn l t b j j 0 out∧o.length≤20000 * j+i∧SlO 11 47 (.slice oa o.length oc) o.length (racesCs o) Lo∧New w0 Lo∧St w0 w (Lo++H),
   ⟨j,0,out,oa,oc,Lo,by omega,rfl,rfl,rfl,hob,hS,hN,hw⟩,?_⟩
  rintro m ee w5 ⟨i,o,oa,oc,Lo,hi,rfl,rfl,hin,hob,hS,hN,hw⟩
  show f57_lb7 _ _ _ _ _ _ _ _ _ _ _ _ _ _ _ _ _ _ _
  rw [f57_lb7_eq,BIf_iff]
  constructor
  ·intro hij
   have hij:i < j:=by simpa using hij
   have hil:i < l.length:=by omega
   rw [f57_s8_eq]
   rw [show j - i=(j - (i+1))+1 by omega,rIn] at hin
   generalize hY7:(fun e' w'=>∃ m,m < j - i∧∃ (i:Nat) (o:List Mo.Race) (oa:Option Addr) (oc:Nat) (Lo:List (Nat × Obj)),i≤j∧m=j - i∧e'=Env.mk 72 [(6,nilS),(7,.slice oa o.length oc),(2,.int .u32 b),(0,.slice la l.length lc),(1,.slice ta l.length tc),(8,I64 (j:Nat)),(9,I64 (i:Nat))] []∧
    rIn l t b j (j - i) i o=rIn l t b j j 0 out∧o.length≤20000 * j+i∧SlO 11 47 (.slice oa o.length oc) o.length (racesCs o) Lo∧New w0 Lo∧St w0 w' (Lo++H))=Y7
   have next:∀ w6 (o':List Mo.Race) a c L,o'=o++(pr l t b i j).toList→SlO 11 47 (.slice a o'.length c) o'.length (racesCs o') L→New w0 L→St w0 w6 (L++H)→f57_s10 none 0 0 a o'.length c b la l.length lc ta l.length tc (j:Nat) (i:Nat) w6 K Y Y7:=by
    intro w6 o' a c L ho hS' hN' h6
    rw [f57_s10_eq,← hY7]
    refine ⟨j - (i+1),by omega,i+1,o',a,c,L,by omega,rfl,?_,by rw [ho]; exact hin,?_,hS',hN',h6⟩
    ·rw [wrap_i64 (by omega) (by omega)]; rfl
    ·rw [ho,List.length_append]
     cases pr l t b i j <;> simp <;> omega
   have gi:l.getD i default=l[i]:=by simp [List.getD,hil]
   have gj:l.getD j default=l[j]:=by simp [List.getD,hlt]
   have skip:∀ w6,St w0 w6 (Lo++H)→pr l t b i j=none→f57_s9 true none 0 0 oa o.length oc b la l.length lc ta l.length tc (j:Nat) (i:Nat) w6 K Y Y7:=by
    intro w6 h6 hp
    rw [f57_s9_eq,BIf_true]
    exact next w6 o oa oc Lo (by rw [hp]; simp) hS hN h6
   obtain ⟨a,c,hac,hld⟩:=(hrow _ (hw.sub hN)).ldA hil
   rw [hlv] at hac
   obtain ⟨hsa,-⟩:la=some a∧lc=c:=by simpa using hac
   subst hsa
   refine ⟨by omega,by omega,hld _ ?_⟩
   rw [evs_at hil]
   refine has_ok hw l[i] b fun w6 h6=>⟨_,rfl,?_⟩
   cases hbi:has l[i] b
   ·rw [Bool.not_false,BIf_true]
    exact skip w6 h6 (by unfold pr; rw [gi,hbi]; simp)
   ·rw [Bool.not_true,BIf_false]
    obtain ⟨a',c',hac',hld'⟩:=(hrow _ (h6.sub hN)).ldA hlt
    rw [hlv] at hac'
    obtain ⟨rfl,-⟩:a=a'∧lc=c':=by simpa using hac'
    refine ⟨by omega,by omega,hld' _ ?_⟩
    rw [evs_at hlt]
    refine has_ok h6 l[j] b fun w7 h7=>⟨_,rfl,?_⟩
    cases hbj:has l[j] b
    ·rw [Bool.not_false,BIf_true]
     exact skip w7 h7 (by unfold pr; rw [gj,hbj]; simp)
    ·rw [Bool.not_true,BIf_false]
     obtain ⟨-,htr⟩:=htab _ (h7.sub hN)
     obtain ⟨a2,c2,g,hac2,hcell,hcell2⟩:=htr i hil
     rw [htv] at hac2
     obtain ⟨hsa2,-⟩:ta=some a2∧tc=c2:=by simpa using hac2
     subst hsa2
     refine ⟨by omega,by omega,some ⟨g,0,none⟩,l.length,l.length,by rw [Int.toNat_natCast]; exact hcell,by omega,by omega,tabAt t i j,?_,?_⟩
     ·rw [add_lit',Nat.zero_add,Int.toNat_natCast,Nat.mul_one]; exact hcell2 j hlt
     ·cases htt:tabAt t i j
      ·rw [f57_s9_eq,BIf_false]
       have hp:pr l t b i j=(if Mo.conflict (accO l[i] i) (accO l[j] j)=true then some (⟨b,accO l[i] i,accO l[j] j⟩:Mo.Race) else none):=by
        unfold pr
        rw [gi,gj,hbi,hbj,htt]
        simp
       refine racing_s11 (hi:=hil) (hj:=hlt) h7 (fun w' h'=>by rw [← hlv]; exact hrow w' h') rfl rfl hS hN (by omega) fun w8 a3 c3 L3 hS3 hN3 h8=>?_
       rw [← hp] at hS3 ⊢
       exact next w8 _ a3 c3 L3 rfl hS3 hN3 h8
      ·exact skip w7 h7 (by unfold pr; rw [htt]; simp)
  ·intro hge
   have hge:j≤i:=by simpa using hge
   have:i=j:=by omega
   subst this
   rw [Nat.sub_self,rIn] at hin
   rw [f57_s13_eq,← hY]
   refine ⟨l.length - (i+1),by omega,i+1,o,oa,oc,Lo,by omega,rfl,?_,by rw [hin]; exact hfin,by omega,hS,hN,hw⟩
   rw [wrap_i64 (by omega) (by omega)]; rfl
 ·intro hge
  have hge:l.length≤j:=by simpa using hge
  have:j=l.length:=by omega
  subst this
  rw [Nat.sub_self,rOut] at hfin
  rw [f57_s14_eq]
  subst hfin
  exact hK w4 oa oc Lo hS hN (by omega) hw
end Go.Fx.Try
namespace Go.Fx.Mo
structure OfOk (r:RR) (n:Nat):Prop where
 len:r.of.length=r.L.length
 mem:∀ x∈r.of,0≤x∧x < n
 bl:r.begun.length=8
 el:r.ended.length=8
theorem rput_of {r r':RR} {o:Ord} {i:Nat} (h:rput r o i=some r') (hr:OfOk r (i+1)):OfOk r' (i+1):=by
 unfold rput at h
 split at h
 ·cases h
 ·cases h
  refine ⟨by simp [hr.len],fun x hx=>?_,?_,?_⟩
  ·rcases List.mem_append.1 hx with hx | hx
   ·exact hr.mem x hx
   ·have:x=(i:Int):=by simpa using hx
    omega
  ·show (if _ then _ else _:List Bool).length=8
   split
   ·simp [hr.bl]
   ·exact hr.bl
  ·show (if _ then _ else _:List Bool).length=8
   split
   ·simp [hr.el]
   ·exact hr.el
theorem come_of {r:RR} {x:Ob} {n:Nat} (hr:OfOk r n):OfOk (come r x) n:=by
 unfold come
 split
 ·exact ⟨hr.len,hr.mem,hr.bl,hr.el⟩
 ·exact hr
theorem rtouch_of {r r':RR} {k:Int} {e:Ev} {x:Ob} {i:Nat} (h:rtouch r k e x i=some r') (hr:OfOk r (i+1)):OfOk r' (i+1):=by
 unfold rtouch at h
 split at h
 ·cases h
 ·exact rput_of h (come_of hr)
theorem rtouches_of {e:Ev} {i:Nat}:∀ {l:List Ob} {r r':RR},rtouches e i l r=some r'→OfOk r (i+1)→OfOk r' (i+1)
 | [],r,r',h,hr=>by cases h; exact hr
 | x::t,r,r',h,hr=>by
  unfold rtouches at h
  split at h
  ·cases h
  ·rename_i r2 h2
   exact rtouches_of h (rtouch_of h2 hr)
theorem rwith_of {r r':RR} {e:Ev} {i:Nat} (h:rwith r e i=some r') (hr:OfOk r (i+1)):OfOk r' (i+1):=by
 unfold rwith at h
 repeat' split at h
 ·cases h
 ·exact rtouches_of h hr
 ·exact rtouch_of h hr
 ·exact rtouch_of h hr
 ·exact rput_of h hr
 ·exact rput_of h hr
 ·exact rput_of h hr
theorem OfOk.more {r:RR} {n m:Nat} (h:OfOk r n) (hm:n≤m):OfOk r m:=⟨h.len,fun x hx=>by have:=h.mem x hx; omega,h.bl,h.el⟩
theorem rsteps_of:∀ {l:List Ev} {i:Nat} {r r':RR},rsteps l i r=some r'→OfOk r i→OfOk r' (i+l.length)
 | [],i,r,r',h,hr=>by cases h; exact hr
 | e::t,i,r,r',h,hr=>by
  unfold rsteps at h
  split at h
  ·cases h
  ·rename_i r2 h2
   have:=rsteps_of (i:=i+1) h (rwith_of h2 (hr.more (by omega)))
   rw [List.length_cons,show i+(t.length+1)=i+1+t.length by omega]
   exact this
theorem rord_of {l:List Ev} {r:RR} (h:rord l=.inl r):OfOk r l.length:=by
 unfold rord at h
 split at h
 ·cases h
 ·split at h
  ·cases h
  ·rename_i r2 h2
   cases h
   have:=rsteps_of (i:=0) h2 ⟨rfl,by simp [rr0],rfl,rfl⟩
   simpa using this
def tabOf (r:RR) (n:Nat):Tab:=(List.range n).map fun i:Nat=>afterE r (i:Nat) n
theorem tabOf_at {r:RR} {n i j:Nat} (hi:i < n):tabAt (tabOf r n) i j=(afterE r (i:Nat) n).getD j false:=by
 unfold tabAt tabOf
 simp [List.getD,hi]
def refAll (l:List Ev) (b:Int):List Race ⊕ Int:=match rord l with
 | .inr x=>.inr x
 | .inl r=>if (racing l (tabOf r l.length) b).length > 1000 then .inr 2 else .inl (racing l (tabOf r l.length) b)
end Go.Fx.Mo
namespace Go.Fx.Try
open Go Go.Fx Go.Fx.Mo
open Go.Proofs
variable {w0 w:World} {H Y:List (Nat × Obj)} {K:Value→World→Prop}
set_option maxRecDepth 20000
theorem bs61 (w:World):(Instr.buildSlice 61 0 ([]:List (Nat × Value)).toArray).run P w=.ok (.slice (some ⟨w.heap.size,0,none⟩) 0 0) (w.alloc (.cells #[] 66 (0,0))):=by kernel_rfl
theorem info66:P.info? 66=some Try.t66:=by kernel_rfl
def flagB (ps:List (Nat × List Bool)):List (Nat × Obj):=ps.map fun p=>(p.1,Cs (p.2.map .bool) 4)
def flagV (n:Nat) (ps:List (Nat × List Bool)):List Value:=ps.map fun p=>.slice (some ⟨p.1,0,none⟩) n n
theorem table_ok {l:List Ev} {r:RR} {ov:Value} (h:St w0 w H) (hrow:∀ w',St w0 w' H→Row w' 6 ov l.length (evsCs l)) (hr:rord l=.inl r)
  (hK:∀ w' a c Lo,New w0 Lo→(∀ w2,(∀ x∈Lo,w2.heap[x.1]?=some x.2)→TRow w2 (.slice a l.length c) l.length (tabOf r l.length))→St w0 w' (Lo++H)→K (.slice a l.length c) w'):CallL P 56 [ov] w K:=by
 obtain ⟨sa,sc,hov⟩:=(hrow w h).form
 rw [hov]
 refine f56_ok _ _ _ _ _ ?_
 rw [f56_eq,f56_s0_eq,f56_s1_eq,← hov]
 refine order_ok' h hrow (fun x hx=>by rw [hr] at hx; cases hx) fun r' hr' hl20 hbd w1 cs g1=>⟨_,rfl,?_⟩
 rw [hr] at hr'
 cases hr'
 have hofk:=rord_of hr
 obtain ⟨lv,vv,xv,LL,LO,LX,rfl,hri,hs⟩:=g1
 have h0:=errCs_any 0
 have hc:Any20 (runCs r 0 lv vv xv):=⟨runCs_len hri.bl hri.el,runCs_one (slO_one hri.sl) (slO_one hri.so) (slO_one hri.sx)⟩
 rw [z113e]
 refine hs.newC fun n7 w2 hn7 h2=>h2.stA (k:=0) rfl (by simp [hc.len]) (by simp [hc.len,h0.len]) hc.one fun w3 h3=>?_
 have h3:St w0 w3 ((n7,Cs (splice (errCs 0) 0 (runCs r 0 lv vv xv)) 113)::(LL++(LO++(LX++H)))):=h3
 rw [splice_whole (by rw [hc.len,h0.len])] at h3
 rw [f56_s2_eq]
 refine ⟨_,_,_,_,bs61 w3,?_⟩
 have h4:=h3.alloc (.cells #[] 66 (0,0))
 have hn:=h3.le
 generalize w3.heap.size=n at h4 hn
 have h4:St w0 (w3.alloc (.cells #[] 66 (0,0))) ([(n,Cs [] 66)]++(flagB []++((n7,Cs (runCs r 0 lv vv xv) 113)::(LL++(LO++(LX++H)))))):=h4
 rw [f56_s3_eq,f56_s4_eq]
 refine ⟨fun m ee w=>∃ (i:Nat) (ps:List (Nat × List Bool)) (a:Option Addr) (c:Nat) (LT:List (Nat × Obj)),i≤l.length∧m=l.length - i∧ee=Env.mk 24 [(5,I64 (i:Nat)),(0,.slice sa l.length sc),(3,(Value.pointer (some (Addr.mk n7 0 none)))),(4,.slice a i c),(2,nilS)] []∧
   ps.map (·.2)=(List.range i).map (fun i:Nat=>afterE r (i:Nat) l.length)∧SlO 1 66 (.slice a i c) i (flagV l.length ps) LT∧New w0 LT∧New w0 (flagB ps)∧St w0 w (LT++(flagB ps++((n7,Cs (runCs r 0 lv vv xv) 113)::(LL++(LO++(LX++H)))))),
  ⟨l.length,0,[],_,_,_,by omega,rfl,rfl,rfl,slO_nil0 1 66 n,by simpa [New] using hn,New.nil w0,h4⟩,?_⟩
 rintro m ee w4 ⟨i,ps,a,c,LT,hi,rfl,rfl,hps,hS,hN,hNF,hw⟩
 show f56_lb5 _ _ _ _ _ _ _ _ _ _ _ _ _ _
 rw [f56_lb5_eq]
 refine ⟨l.length,fun wq _=>run_len_22 wq,?_⟩
 rw [BIf_iff]
 have hpl:ps.length=i:=by
  have:=congrArg List.length hps
  simpa using this
 constructor
 ·intro hlt
  have hlt:i < l.length:=by simpa using hlt
  rw [f56_s6_eq]
  have hw2:=hw.perm (H':=(n7,Cs (runCs r 0 lv vv xv) 113)::(LT++(flagB ps++(LL++(LO++(LX++H)))))) (perm_by fun f=>by
   simp only [List.map_append,List.map_cons,List.sum_append,List.sum_cons]; omega)
  refine ld20 hw2 (k:=0) rfl hc ?_
  refine ⟨l.length,fun wq _=>run_len_22 wq,?_⟩
  refine behind_ok (i:=i) (many:=l.length) hw (fun w' h'=>hri.sl.row fun y hy=>h'.has _ _ (by simp [hy])) (fun w' h'=>hri.so.row fun y hy=>h'.has _ _ (by simp [hy])) hofk.len (by have:=hbd.l; omega) hofk.mem (by omega) hri.bl hri.el fun w5 g hg h5=>⟨_,_,_,rfl,⟨rfl,trivial⟩,?_⟩
  refine h5.newC fun n55 w6 hn55 h6=>?_
  have h6:St w0 w6 (((n55,Cs [.slice (some ⟨g,0,none⟩) l.length l.length] 66)::[(g,Cs ((afterE r (i:Nat) l.length).map .bool) 4)])++(LT++(flagB ps++((n7,Cs (runCs r 0 lv vv xv) 113)::(LL++(LO++(LX++H))))))):=h6
  obtain ⟨g',cap,w7,L',hru,hS',g7,hN'⟩:=St.append (P:=P) 61 61 66 Try.t66 nilS 1 24 Try.underlying61 info66 rfl rfl rfl rfl (by omega) h6 hS hN (j:=0) rfl rfl (by simp [Value.oneCell']) (by simp [maxLen]; omega) (by omega)
  refine ⟨_,_,_,w7,hru,?_⟩
  rw [f56_s7_eq]
  have g8:St w0 w7 ((g,Cs ((afterE r (i:Nat) l.length).map .bool) 4)::(L'++(flagB ps++((n7,Cs (runCs r 0 lv vv xv) 113)::(LL++(LO++(LX++H))))))):=St.tail (b:=n55) g7 hn55
  refine ⟨l.length - (i+1),by omega,i+1,ps++[(g,afterE r (i:Nat) l.length)],some ⟨g',0,none⟩,cap,L',by omega,rfl,?_,?_,?_,hN',?_,?_⟩
  ·rw [wrap_i64 (by omega) (by omega)]; rfl
  ·rw [List.map_append,hps,List.range_succ,List.map_append]; rfl
  ·unfold flagV
   rw [List.map_append]
   exact hS'
  ·unfold flagB
   rw [List.map_append]
   intro y hy
   rcases List.mem_append.1 hy with h | h
   ·exact hNF y h
   ·simp at h; rw [h]; exact hg
  ·have e:flagB (ps++[(g,afterE r (i:Nat) l.length)])=flagB ps++[(g,Cs ((afterE r (i:Nat) l.length).map .bool) 4)]:=by simp [flagB]
   rw [e]
   refine g8.perm (perm_by fun f=>?_)
   simp only [List.map_append,List.map_cons,List.map_nil,List.sum_append,List.sum_cons,List.sum_nil]; omega
 ·intro hge
  have hge:l.length≤i:=by simpa using hge
  have:i=l.length:=by omega
  subst this
  rw [f56_s8_eq]
  refine hK w4 a c (LT++flagB ps) (fun y hy=>?_) (fun w2 hw2=>⟨⟨_,_,rfl⟩,fun i hi=>?_⟩) ?_
  ·rcases List.mem_append.1 hy with h | h
   ·exact hN y h
   ·exact hNF y h
  ·have hrw:Row w2 1 (.slice a l.length c) l.length (flagV l.length ps):=hS.row fun y hy=>hw2 y (List.mem_append_left _ hy)
   obtain ⟨a',c',hac,hcell⟩:=rowc hrw hi
   obtain ⟨rfl,rfl⟩:a=some a'∧c=c':=by simpa using hac
   have hip:i < ps.length:=by omega
   refine ⟨a',c,ps[i].1,rfl,?_,fun j hj=>?_⟩
   ·rw [hcell]
    simp [flagV,hip]
   ·have hmem:(ps[i].1,Cs (ps[i].2.map .bool) 4)∈flagB ps:=List.mem_map.2 ⟨ps[i],List.getElem_mem hip,rfl⟩
    rw [cell_of (hw2 _ (List.mem_append_right _ hmem))]
    have e:ps[i].2=afterE r (i:Nat) l.length:=by
     have h1:(ps.map (·.2))[i]?=some ps[i].2:=by simp [hip]
     rw [hps] at h1
     simp [hi] at h1
     exact h1.symm
    rw [e,flag_at (by rw [afterE_len]; exact hj),tabOf_at hi]
  ·have h9:=hw.perm (H':=(n7,Cs (runCs r 0 lv vv xv) 113)::(LL++(LO++(LX++((LT++flagB ps)++H))))) (perm_by fun f=>by
    simp only [List.map_append,List.map_cons,List.sum_append,List.sum_cons]; omega)
   exact (((h9.tail hn7).sub hri.nl).sub hri.no).sub hri.nx
theorem refAll_ok {l:List Ev} {ov:Value} (b:Int) (h:St w0 w H) (hrow:∀ w',St w0 w' H→Row w' 6 ov l.length (evsCs l))
  (herr:∀ x,refAll l b=.inr x→x≠0→∀ w',St w0 w' H→K (.tuple [nilS,I64 x].toArray) w')
  (hok:∀ o,refAll l b=.inl o→o.length≤1000→∀ w' a c Lo,SlO 11 47 (.slice a o.length c) o.length (racesCs o) Lo→New w0 Lo→St w0 w' (Lo++H)→K (.tuple [.slice a o.length c,I64 0].toArray) w') :
  CallL P 33 [ov,.int .u32 b] w K:=by
 obtain ⟨sa,sc,hov⟩:=(hrow w h).form
 rw [hov]
 refine f33_ok _ _ _ _ _ _ ?_
 rw [f33_eq,← hov]
 refine order_ok' h hrow (fun x hx hx0 w1 h1=>⟨_,rfl,x,by simp [errCs],?_⟩) fun r hr hl20 hbd w1 cs g1=>⟨_,rfl,0,?_,?_⟩
 ·rw [show (x != 0)=true by simpa using hx0,BIf_true]
  exact herr x (by unfold refAll; rw [hx]) hx0 w1 h1
 ·obtain ⟨lv,vv,xv,LL,LO,LX,rfl,hri,hs⟩:=g1
  have:(runCs r 0 lv vv xv)[19]?=some (I64 0):=by
   show (flagCs r 0)[16]?=_
   unfold flagCs
   rw [List.getElem?_append_right (by simp [hri.bl]),List.getElem?_append_right (by simp [hri.bl,hri.el])]
   simp [hri.bl,hri.el]
  simpa using this
 ·rw [show ((0:Int) != 0)=false by decide,BIf_false,f33_s0_eq]
  try rw [← hov]
  refine table_ok g1.base hrow hr fun w2 a c Lo hN hT h2=>⟨a,_,c,rfl,?_⟩
  refine racing_ok (t:=tabOf r l.length) h2 (fun w' h'=>hrow w' (h'.sub hN)) (fun w' h'=>hT w' fun x hx=>h'.has _ _ (by simp [hx])) hl20 fun w3 a2 c2 L2 hS hN2 hlen h3=>⟨a2,_,c2,rfl,?_⟩
  refine ⟨_,fun wq _=>run_len_25 wq,?_⟩
  have h4:St w0 w3 (L2++H):=by
   have h4:=h3.perm (H':=Lo++(L2++H)) (perm_by fun f=>by simp only [List.map_append,List.sum_append]; omega)
   exact h4.sub hN
  rw [BIf_iff]
  constructor
  ·intro hgt
   have hgt:(racing l (tabOf r l.length) b).length > 1000:=by simp at hgt; omega
   exact herr 2 (by unfold refAll; rw [hr]; simp only [if_pos hgt]) (by decide) w3 (h4.sub hN2)
  ·intro hle
   have hle:¬ (racing l (tabOf r l.length) b).length > 1000:=by simp at hle; omega
   rw [f33_s1_eq]
   exact hok _ (by unfold refAll; rw [hr]; simp only [if_neg hle]) (by omega) w3 a2 c2 L2 hS hN2 h4
end Go.Fx.Try
namespace Go.Fx.Mo
def w64u (x:Int):Int:=IntKind.wrap .u64 x
def accessAt (e:Ev) (i:Int) (b:Int):Option Acc:=
 if !(accesses e).2.2 || decide (w64u (w32 (b - e.a))≥w64u e.n) then none else some ⟨i,e.th,e.pc,(accesses e).1,(accesses e).2.1⟩
def before (h:Hist) (x:Acc) (j:Nat):Bool:=decide (at0 (h.events.getD j ⟨0,[]⟩).last x.th≥(h.events.getD x.ev.toNat ⟨0,[]⟩).first)
def allIn (h:Hist) (b:Int) (y:Acc) (j:Nat):List Acc→List Race→Option (List Race)
 | [],out=>some out
 | x::r,out=>if !conflict x y || before h x j then allIn h b y j r out else if out.length=1000 then none else allIn h b y j r (out++[⟨b,x,y⟩])
def allL (h:Hist) (b:Int):List Ev→Nat→List Acc→List Race→Option (List Race)
 | [],_,_,out=>some out
 | e::r,j,had,out=>match accessAt e j b with
  | none=>allL h b r (j+1) had out
  | some y=>match allIn h b y j had out with
   | none=>none
   | some out=>allL h b r (j+1) (had++[y]) out
def all (l:List Ev) (b:Int):List Race ⊕ Int:=match run l with
 | .inr x=>.inr x
 | .inl h=>match allL h b l 0 [] [] with
  | none=>.inr 2
  | some out=>.inl out
theorem allIn_len {h:Hist} {b:Int} {y:Acc} {j:Nat}:∀ {had:List Acc} {out out':List Race},out.length≤1000→allIn h b y j had out=some out'→out'.length≤1000
 | [],out,out',h1,hh=>by simp [allIn] at hh; rw [← hh]; exact h1
 | x::r,out,out',h1,hh=>by
  unfold allIn at hh
  split at hh
  ·exact allIn_len h1 hh
  ·split at hh
   ·cases hh
   ·exact allIn_len (by rw [List.length_append]; simp; omega) hh
theorem runL_facts:∀ (l:List Ev) (i:Int) (T:Th) (h hh:Hist),runL l i T h=some hh→hh.events.length=h.events.length+l.length∧∀ e∈l,0≤e.th∧e.th < 8
 | [],i,T,h,hh,hr=>by simp [runL] at hr; subst hr; simp
 | e::r,i,T,h,hh,hr=>by
  unfold runL at hr
  split at hr
  ·cases hr
  ·rename_i p hp
   obtain ⟨h1,h2⟩:=runL_facts r _ _ _ _ hr
   refine ⟨by rw [h1]; simp; omega,fun x hx=>?_⟩
   rcases List.mem_cons.1 hx with rfl | hx
   ·have:=plan_refused hp
    unfold refused at this
    simp only [Bool.or_eq_false_iff,decide_eq_false_iff_not] at this
    omega
   ·exact h2 x hx
theorem run_facts {l:List Ev} {h:Hist} (hr:run l=.inl h):h.events.length=l.length∧(∀ e∈l,0≤e.th∧e.th < 8)∧l.length≤20000:=by
 unfold run at hr
 split at hr
 ·cases hr
 ·rename_i hl
  split at hr
  ·rename_i hh hrl
   cases hr
   obtain ⟨h1,h2⟩:=runL_facts _ _ _ _ _ hrl
   exact ⟨by simpa using h1,h2,by omega⟩
  ·cases hr
end Go.Fx.Mo
namespace Go.Fx.Mo
theorem runL_made (l:List Ev):∀ (m n:Nat) (h h':Hist),n+m=l.length→h.events.length=n→runL (l.drop n) (n:Nat) (stN l n) h=some h'→
  (∀ k,n≤k→k < l.length→plan (stN l k) (evN l k)=some (pN l k))∧∃ ext,h'.events=h.events++ext∧∀ k,n≤k→k < l.length→h'.events.getD k ⟨0,[]⟩=⟨(pN l k).tk,(pN l k).own⟩
 | 0,n,h,h',hn,he,hr=>by
  rw [List.drop_eq_nil_of_le (by omega)] at hr
  cases hr
  exact ⟨fun k h1 h2=>by omega,[],by simp,fun k h1 h2=>by omega⟩
 | m+1,n,h,h',hn,he,hr=>by
  have hd:l.drop n=evN l n::l.drop (n+1):=by
   rw [List.drop_eq_getElem_cons (by omega)]
   unfold evN
   simp [List.getD,show n < l.length by omega]
  rw [hd] at hr
  unfold runL at hr
  split at hr
  ·cases hr
  ·rename_i p hp
   have hpn:pN l n=p:=by unfold pN; rw [hp]; rfl
   have hst:stN l (n+1)=perform (stN l n) (evN l n) p:=by rw [stN,hp]
   rw [← hst] at hr
   obtain ⟨k1,ext,k2,k3⟩:=runL_made l m (n+1) _ h' (by omega) (by simp [he]) hr
   refine ⟨fun k h1 h2=>?_,⟨p.tk,p.own⟩::ext,by rw [k2]; simp,fun k h1 h2=>?_⟩
   ·by_cases hk:k=n
    ·rw [hk,hpn]; exact hp
    ·exact k1 k (by omega) h2
   ·by_cases hk:k=n
    ·rw [hk,k2,hpn]
     have:h.events++[(⟨p.tk,p.own⟩:Made)]++ext=h.events++(⟨p.tk,p.own⟩::ext):=by simp
     rw [this]
     simp [List.getD,he]
    ·exact k3 k (by omega) h2
theorem run_Ok {l:List Ev} {h:Hist} (hr:run l=.inl h):Ok l l.length∧l.length≤20000∧∀ k,k < l.length→h.events.getD k ⟨0,[]⟩=⟨(pN l k).tk,(pN l k).own⟩:=by
 unfold run at hr
 split at hr
 ·cases hr
 ·rename_i hl
  split at hr
  ·rename_i h2 h3
   cases hr
   obtain ⟨k1,ext,_,k3⟩:=runL_made l l.length 0 ⟨[],[],[]⟩ h (by omega) rfl (by rw [List.drop_zero]; exact h3)
   exact ⟨fun k hk=>k1 k (by omega) hk,by omega,fun k hk=>k3 k (by omega) hk⟩
  ·cases hr
theorem pr_is {l:List Ev} {h:Hist} {r:RR} (hr:run l=.inl h) (hrr:rord l=.inl r) (b:Int) {i j:Nat} (hij:i < j) (hj:j < l.length):pr l (tabOf r l.length) b i j=prR l b i j:=by
 obtain ⟨hok,hl,hev⟩:=run_Ok hr
 rcases run_rord l with ⟨x,h1,_⟩ | ⟨h',r',tk,h1,h2,h3,h4,h5,h6⟩
 ·rw [hr] at h1; cases h1
 ·rw [hr] at h1
  rw [hrr] at h2
  cases h1; cases h2
  have hof:=rord_of hrr
  have hb:=before_is h5 hof.len (by rw [h6]; exact hof.mem) hij (by rw [h6]; exact hj)
  rw [h6,hev i (by omega),hev j hj] at hb
  have hd:(decide (at0 (pN l j).own (evN l i).th≥(pN l i).tk)=false↔at0 (pN l j).own (evN l i).th < (pN l i).tk):=by
   rw [decide_eq_false_iff_not]
   omega
  have ht:tabAt (tabOf r l.length) i j=decide (at0 (pN l j).own (evN l i).th≥(pN l i).tk):=by
   rw [tabOf_at (by omega),← hb]
   rfl
  unfold prR
  by_cases hc:Rc l b i j
  ·rw [if_pos hc]
   unfold pr
   rw [ht]
   obtain ⟨h1,h2,h3,h4⟩:=hc
   exact if_pos ⟨h1,h2,hd.2 h4,h3⟩
  ·rw [if_neg hc]
   unfold pr
   rw [ht]
   exact if_neg (fun hh=>hc ⟨hh.1,hh.2.1,hh.2.2.2,hd.1 hh.2.2.1⟩)
theorem rIn_is {l:List Ev} {t:Tab} {b:Int} {j:Nat}:∀ (m i:Nat) (o:List Race),(∀ k,i≤k→k < i+m→pr l t b k j=prR l b k j)→rIn l t b j m i o=o++(List.range' i m).filterMap fun i=>prR l b i j
 | 0,i,o,_=>by simp [rIn]
 | m+1,i,o,h=>by
  unfold rIn
  rw [rIn_is m (i+1) _ (fun k h1 h2=>h k (by omega) (by omega)),h i (by omega) (by omega),List.range'_succ,List.filterMap_cons]
  cases prR l b i j <;> simp
theorem rOut_is {l:List Ev} {t:Tab} {b:Int}:∀ (m j:Nat) (o:List Race),(∀ i k,i < k→k < j+m→pr l t b i k=prR l b i k)→rOut l t b m j o=o++(List.range' j m).flatMap (rowR l b)
 | 0,j,o,_=>by simp [rOut]
 | m+1,j,o,h=>by
  unfold rOut
  rw [rOut_is m (j+1) _ (fun i k h1 h2=>h i k h1 (by omega)),rIn_is j 0 o (fun k _ h2=>h k j (by omega) (by omega)),List.range'_succ,List.flatMap_cons]
  unfold rowR
  rw [List.range_eq_range']
  simp
theorem racing_is {l:List Ev} {h:Hist} {r:RR} (hr:run l=.inl h) (hrr:rord l=.inl r) (b:Int):racing l (tabOf r l.length) b=racR l b l.length:=by
 unfold racing racR
 rw [rOut_is l.length 0 [] (fun i k h1 h2=>pr_is hr hrr b h1 (by omega)),List.range_eq_range']
 simp
theorem accessAt_is {l:List Ev} {N k:Nat} (hok:Ok l N) (hk:k < N) (b:Int):accessAt (evN l k) k b=if has (evN l k) b=true then some (accO (evN l k) k) else none:=by
 unfold accessAt
 rw [acc_is]
 unfold has accO
 cases ha:acs (evN l k)
 ·simp
 ·have hn:=bsN_n hok hk ha
  have h1:0≤w32 (b - (evN l k).a)∧w32 (b - (evN l k).a) < 4294967296:=by rw [w32_is]; omega
  have u:∀ x:Int,0≤x→x < 4294967296→w64u x=x:=fun x h0 h1=>by
   unfold w64u
   simp only [IntKind.wrap,IntKind.bits,IntKind.signed]
   simp
   omega
  rw [w64_small (by omega) (by omega),u _ h1.1 h1.2,u _ hn.1 (by omega)]
  by_cases hlt:w32 (b - (evN l k).a) < (evN l k).n
  ·rw [decide_eq_true hlt,decide_eq_false (by omega)]; rfl
  ·rw [decide_eq_false hlt,decide_eq_true (by omega)]; rfl
def hadN (l:List Ev) (b:Int) (j:Nat):List Acc:=(List.range j).filterMap fun k=>if has (evN l k) b=true then some (accO (evN l k) k) else none
theorem allIn_is {h:Hist} {b:Int} {y:Acc} {j:Nat}:∀ (had:List Acc) (out:List Race),out.length≤1000→allIn h b y j had out =
  if (out++had.filterMap fun x=>if !conflict x y || before h x j then none else some (⟨b,x,y⟩:Race)).length > 1000 then none else some (out++had.filterMap fun x=>if !conflict x y || before h x j then none else some (⟨b,x,y⟩:Race))
 | [],out,ho=>by
  unfold allIn
  simp only [List.filterMap_nil,List.append_nil]
  rw [if_neg (by omega)]
 | x::t,out,ho=>by
  unfold allIn
  rw [List.filterMap_cons]
  by_cases hc:(!conflict x y || before h x j)=true
  ·rw [if_pos hc,if_pos hc]
   exact allIn_is t out ho
  ·rw [if_neg hc,if_neg hc]
   simp only
   by_cases hl:out.length=1000
   ·rw [if_pos hl,if_pos (by rw [List.length_append,List.length_cons]; omega)]
   ·rw [if_neg hl,allIn_is t _ (by rw [List.length_append]; simp; omega)]
    simp
theorem filterMap_two {α β γ:Type} (f:α→Option β) (g:β→Option γ) (l:List α):(l.filterMap f).filterMap g=l.filterMap fun x=>(f x).bind g:=by
 rw [List.filterMap_filterMap]
theorem racR_len {l:List Ev} {b:Int} {n:Nat}:∀ {m},n≤m→(racR l b n).length≤(racR l b m).length
 | 0,h=>by rw [show n=0 by omega]; exact Nat.le_refl _
 | m+1,h=>by
  by_cases he:n=m+1
  ·rw [he]; exact Nat.le_refl _
  ·have:=racR_len (l:=l) (b:=b) (n:=n) (m:=m) (by omega)
   rw [racR_succ,List.length_append]
   omega
theorem allL_is {l:List Ev} {h:Hist} (hr:run l=.inl h) (b:Int):∀ (m n:Nat),n+m=l.length→(racR l b n).length≤1000→allL h b (l.drop n) n (hadN l b n) (racR l b n)=if (racR l b l.length).length > 1000 then none else some (racR l b l.length)
 | 0,n,hn,hle=>by
  rw [List.drop_eq_nil_of_le (by omega),show l.length=n by omega,if_neg (by omega)]
  rfl
 | m+1,n,hn,hle=>by
  obtain ⟨hok,hl,hev⟩:=run_Ok hr
  have hd:l.drop n=evN l n::l.drop (n+1):=by
   rw [List.drop_eq_getElem_cons (by omega)]
   unfold evN
   simp [List.getD,show n < l.length by omega]
  rw [hd]
  unfold allL
  rw [accessAt_is hok (by omega) b]
  have hs:hadN l b (n+1)=hadN l b n++(if has (evN l n) b=true then [accO (evN l n) n] else []):=by
   unfold hadN
   rw [List.range_succ,List.filterMap_append]
   by_cases hh:has (evN l n) b=true
   ·simp [hh]
   ·simp [hh]
  by_cases hh:has (evN l n) b=true
  ·rw [if_pos hh]
   simp only
   have hrow:((hadN l b n).filterMap fun x=>if !conflict x (accO (evN l n) n) || before h x n then none else some (⟨b,x,accO (evN l n) n⟩:Race))=rowR l b n:=by
    unfold hadN rowR
    rw [filterMap_two]
    refine filterMap_same fun k hk=>?_
    have hk:k < n:=by simpa using hk
    unfold prR
    have hbef:before h (accO (evN l k) k) n=decide (at0 (pN l n).own (evN l k).th≥(pN l k).tk):=by
     show decide (at0 (h.events.getD n ⟨0,[]⟩).last (evN l k).th≥(h.events.getD k ⟨0,[]⟩).first)=_
     rw [hev k (by omega),hev n (by omega)]
    by_cases hhk:has (evN l k) b=true
    ·rw [if_pos hhk]
     simp only [Option.bind_some]
     rw [hbef]
     by_cases hcf:conflict (accO (evN l k) k) (accO (evN l n) n)=true
     ·by_cases hlt:at0 (pN l n).own (evN l k).th < (pN l k).tk
      ·rw [if_neg (by rw [hcf,decide_eq_false (by omega)]; decide),if_pos (show Rc l b k n from ⟨hhk,hh,hcf,hlt⟩)]
      ·rw [if_pos (by rw [decide_eq_true (by omega)]; simp),if_neg (show ¬ Rc l b k n from fun hx=>hlt hx.2.2.2)]
     ·rw [if_pos (by simp [hcf]),if_neg (show ¬ Rc l b k n from fun hx=>hcf hx.2.2.1)]
    ·rw [if_neg hhk,if_neg (show ¬ Rc l b k n from fun hx=>hhk hx.1)]
     rfl
   rw [allIn_is _ _ hle,hrow,← racR_succ]
   by_cases hgt:(racR l b (n+1)).length > 1000
   ·rw [if_pos hgt]
    have:=racR_len (l:=l) (b:=b) (n:=n+1) (m:=l.length) (by omega)
    rw [if_pos (by omega)]
   ·rw [if_neg hgt]
    simp only
    have:=allL_is hr b m (n+1) (by omega) (by omega)
    rw [hs,if_pos hh] at this
    exact this
  ·rw [if_neg hh]
   simp only
   have h0:rowR l b n=[]:=rowR_nil fun i _ hrc=>hh hrc.2.1
   have:=allL_is hr b m (n+1) (by omega) (by rw [racR_succ,h0,List.append_nil]; exact hle)
   rw [hs,if_neg hh,racR_succ,h0,List.append_nil,List.append_nil] at this
   exact this
theorem all_ref (l:List Ev) (b:Int):all l b=refAll l b:=by
 unfold all refAll
 rcases run_rord l with ⟨x,h1,h2,_⟩ | ⟨h,r,tk,h1,h2,_⟩
 ·rw [h1,h2]
 ·rw [h1,h2]
  simp only
  rw [racing_is h1 h2 b]
  have:=allL_is h1 b l.length 0 (by omega) (by simp [racR])
  have e0:hadN l b 0=[]:=rfl
  have e1:racR l b 0=[]:=rfl
  rw [e0,e1,List.drop_zero] at this
  rw [this]
  by_cases hgt:(racR l b l.length).length > 1000
  ·rw [if_pos hgt,if_pos hgt]
  ·rw [if_neg hgt,if_neg hgt]
end Go.Fx.Mo
namespace Go.Fx.Try
set_option maxRecDepth 100000
open Go Go.Fx
noncomputable def c107:Code:=match Go.Proofs.Try.f107.body with
 | some c=>c
 | none=>.skip
noncomputable def rs107:List ResultVar:=Go.Proofs.Try.f107.results.toList
abbrev f107_kb (K:KT):Exit→YT:=bodyK P rs107 K
def f107 (a:Option Addr) (b c:Nat) (d:Array Value) (w:World) (K:KT):Prop:=CS P c107 none [4] [4] (f107_kb K) (env0 81 [(VS a b c),(Value.agg d)]) w
def f107_s0 (a:Option Addr) (b c:Nat) (d:Array Value) (w:World) (K:KT):Prop:=CS P (cA c107 1) none [4] [4] (f107_kb K) (Env.mk 81 [(0,(VS a b c)),(1,(Value.agg d))] []) w
abbrev f107_k0 (K:KT):Exit→YT:=kseq P (cA c107 2) (cA c107 3) none [4] [4] (f107_kb K)
def f107_s1 (a:Option Addr) (b c:Nat) (d:Addr) (e:Option Addr) (f g:Nat) (h:Array Value) (w:World) (K:KT):Prop:=CS P (cA c107 3) none [4] [4] (f107_kb K) (Env.mk 81 [(4,(VS a b c)),(3,(VP (some d))),(0,(VS e f g)),(1,(Value.agg h))] []) w
abbrev f107_k1 (K:KT):Exit→YT:=kseq P (cA c107 6) (cA c107 7) none [4] [4] (f107_kb K)
abbrev f107_k2 (K:KT):Exit→YT:=kseq P (cA c107 12) (cA c107 13) none [0,3,4] [4] (f107_k1 K)
def f107_s2 (a:Option Addr) (b c:Nat) (d:Addr) (f:Option Addr) (g h:Nat) (w:World) (K:KT):Prop:=Join (fun e w=>CS P (cA c107 7) none [4] [4] (f107_kb K) e w) (Env.mk 81 [(0,(VS a b c)),(3,(VP (some d))),(4,(VS f g h))] []) w
abbrev f107_k4 (K:KT):Exit→YT:=kseq P (cA c107 14) (cA c107 15) none [4] [4] (f107_kb K)
def f107_s3 (a:Option Addr) (b c:Nat) (d:Option Addr) (e f:Nat) (g:Option Addr) (h i:Nat) (j:Addr) (k:Option Addr) (l m:Nat) (w:World) (K:KT):Prop:=CS P (cA c107 15) none [4] [4] (f107_kb K) (Env.mk 81 [(5,(VS a b c)),(14,(VS d e f)),(0,(VS g h i)),(3,(VP (some j))),(4,(VS k l m))] []) w
abbrev f107_k5 (K:KT):Exit→YT:=kseq P (cA c107 30) (cA c107 31) none [4] [4] (f107_kb K)
def f107_s4 (a:Option Addr) (b c:Nat) (d:Option Addr) (e f:Nat) (g:Option Addr) (h i:Nat) (j:Addr) (k:Option Addr) (l m:Nat) (w:World) (K:KT):Prop:=CS P (cA c107 31) none [4] [4] (f107_kb K) (Env.mk 81 [(6,(VB false)),(5,(VS a b c)),(14,(VS d e f)),(0,(VS g h i)),(3,(VP (some j))),(4,(VS k l m))] []) w
abbrev f107_k6 (K:KT):Exit→YT:=kseq P (cA c107 62) (cA c107 63) none [4] [4] (f107_kb K)
abbrev f107_k7 (K:KT):Exit→YT:=kseq P (cA c107 124) (cA c107 125) none [3,5,6] [4] (f107_k6 K)
def f107_s5 (a:Int) (b:Option Addr) (c d:Nat) (e:Option Addr) (f g:Nat) (h:Option Addr) (i j:Nat) (k:Addr) (l:Option Addr) (m n:Nat) (w:World) (K:KT):Prop:=CS P (cA c107 125) none [3,5,6] [4] (f107_k6 K) (Env.mk 81 [(7,(VI a)),(6,(VB false)),(5,(VS b c d)),(14,(VS e f g)),(0,(VS h i j)),(3,(VP (some k))),(4,(VS l m n))] []) w
abbrev f107_k8 (K:KT):Exit→YT:=kblock 0 (f107_k6 K)
def f107_lp6 (K:KT) (Y6:YT) (e:Env) (w:World):Prop:=Join (fun e w=>CS P (cA c107 500) none [7,0,5,3,6,4] [4,3,5,6] (kloop [7,0,5,3,6,4] Y6 (f107_k8 K)) e w) e w
abbrev f107_kl6 (K:KT) (Y6:YT):Exit→YT:=kloop [7,0,5,3,6,4] Y6 (f107_k8 K)
def f107_lb6 (a:Int) (b:Option Addr) (c d:Nat) (f:Option Addr) (g h:Nat) (i:Addr) (j:Bool) (k:Option Addr) (l m:Nat) (w:World) (K:KT) (Y6:YT):Prop:=Join (fun e w=>CS P (cA c107 500) none [7,0,5,3,6,4] [4,3,5,6] (f107_kl6 K Y6) e w) (Env.mk 81 [(7,(VI a)),(0,(VS b c d)),(5,(VS f g h)),(3,(VP (some i))),(6,(VB j)),(4,(VS k l m))] []) w
abbrev f107_k9 (K:KT) (Y6:YT):Exit→YT:=kseq P (cA c107 1000) (cA c107 1001) none [7,0,5,3,6,4] [4,3,5,6] (f107_kl6 K Y6)
abbrev f107_k10 (K:KT) (Y6:YT):Exit→YT:=kseq P (cA c107 2000) (cA c107 2001) none [0,3,6,4,7,5] [4,3,5,6] (f107_k9 K Y6)
def f107_s7 (a:Option Addr) (b c:Nat) (d:Addr) (f:Bool) (g:Option Addr) (h i:Nat) (j:Int) (k:Option Addr) (l m:Nat) (w:World) (K:KT) (Y6:YT):Prop:=Join (fun e w=>CS P (cA c107 1001) none [7,0,5,3,6,4] [4,3,5,6] (f107_kl6 K Y6) e w) (Env.mk 81 [(0,(VS a b c)),(3,(VP (some d))),(6,(VB f)),(4,(VS g h i)),(7,(VI j)),(5,(VS k l m))] []) w
abbrev f107_k11 (K:KT) (Y6:YT):Exit→YT:=kseq P (cA c107 2002) (cA c107 2003) none [7,0,5,3,6,4] [4,3,5,6] (f107_kl6 K Y6)
abbrev f107_k12 (K:KT) (Y6:YT):Exit→YT:=kblock 1 (f107_k11 K Y6)
abbrev f107_k13 (K:KT) (Y6:YT):Exit→YT:=kseq P (cA c107 8008) (cA c107 8009) none [0,5,3,6,4,7] [4,3,5,6,0,7] (f107_k12 K Y6)
def f107_s8 (a:Option Addr) (b c:Nat) (d:Option Addr) (f g:Nat) (h:Addr) (i:Bool) (j:Option Addr) (k l:Nat) (m:Int) (w:World) (K:KT) (Y6:YT):Prop:=Join (fun e w=>CS P (cA c107 2003) none [7,0,5,3,6,4] [4,3,5,6] (f107_kl6 K Y6) e w) (Env.mk 81 [(0,(VS a b c)),(5,(VS d f g)),(3,(VP (some h))),(6,(VB i)),(4,(VS j k l)),(7,(VI m))] []) w
theorem f107_s8_eq (a:Option Addr) (c d:Nat) (e:Option Addr) (f g:Nat) (h:Addr) (i:Bool) (j:Option Addr) (k l:Nat) (m:Int) (w:World) (K:KT) (Y6:YT):f107_s8 a c d e f g h i j k l m w K Y6=(Y6 (Env.mk 81 [(7,(Value.int .i64 (IntKind.wrap .i64 ((m:Int)+1)))),(0,(Value.slice a c d)),(5,(Value.slice e f g)),(3,(Value.pointer (some h))),(6,(Value.bool i)),(4,(Value.slice j k l))] []) w):=Eq.trans (b:=CS P (cA c107 2003) none [7,0,5,3,6,4] [4,3,5,6] (f107_kl6 K Y6) (Env.mk 81 [(0,(VS a c d)),(5,(VS e f g)),(3,(VP (some h))),(6,(VB i)),(4,(VS j k l)),(7,(VI m))] []) w) (by kernel_rfl) (by kernel_rfl)
def f107_s9 (a:Option Addr) (b c:Nat) (d:Addr) (f:Option Addr) (g h:Nat) (i:Int) (j:Option Addr) (k l:Nat) (w:World) (K:KT) (Y6:YT):Prop:=Join (fun e w=>CS P (cA c107 128157) none [0,5,3,6,4,7] [4,3,5,6,0,7] (f107_k12 K Y6) e w) (Env.mk 81 [(0,(VS a b c)),(3,(VP (some d))),(4,(VS f g h)),(7,(VI i)),(5,(VS j k l))] []) w
abbrev f107_k17 (K:KT) (Y6:YT):Exit→YT:=kseq P (cA c107 256314) (cA c107 256315) none [0,5,3,6,4,7] [4,3,5,6,0,7] (f107_k12 K Y6)
theorem f107_s9_eq (d:Option Addr) (e f:Nat) (g:Addr) (h:Option Addr) (i j:Nat) (c:Int) (k:Option Addr) (l m:Nat) (w:World) (K:KT) (Y6:YT):f107_s9 d e f g h i j c k l m w K Y6=(optS d (fun s=>0≤(c:Int)∧(c:Int) < (e:Nat)∧LdA 2 (s.add (Int.toNat c * 2)) w (fun n=>sizesAre 2 [(Value.agg n)]∧NewC (([(Value.agg n)].map fun (v:Value)=>v.cells.toList).flatten.toArray) 173 w (fun t u=>∃ (o:Option Addr) (p q:Nat),∃ r:World,(Builtin.append_ #[169,169] 169 [(Value.slice k l m),(Value.slice (some (Addr.mk t 0 none)) 1 1)].toArray).run P u=.ok (Value.slice o p q) r∧f107_s8 d e f o p q g true h i j c r K Y6)))):=Eq.trans (b:=CS P (cA c107 128157) none [0,5,3,6,4,7] [4,3,5,6,0,7] (f107_k12 K Y6) (Env.mk 81 [(0,(VS d e f)),(3,(VP (some g))),(4,(VS h i j)),(7,(VI c)),(5,(VS k l m))] []) w) (by kernel_rfl) (Eq.trans (CSs (cA c107 256314) (cA c107 256315) [0,3,6,4,7,5] (f107_k17 K Y6) (by kernel_rfl) (by kernel_rfl) (by kernel_rfl)) (by kernel_rfl))
theorem f107_s7_eq (e:Option Addr) (f g:Nat) (c:Addr) (n:Bool) (h:Option Addr) (i j:Nat) (d:Int) (k:Option Addr) (l m:Nat) (w:World) (K:KT) (Y6:YT):f107_s7 e f g c n h i j d k l m w K Y6=(optS e (fun d00=>0≤(d:Int)∧(d:Int) < (f:Nat)∧∃ N1:Int,w.drew.cell? ((d00.add (Int.toNat d * 2)).add 1)=some (Value.int .i64 N1)∧∃ O1:Int,w.drew.cell? c=some (Value.int .i64 O1)∧BIf (decide ((N1:Int) < O1)) (optS e (fun e00=>0≤(d:Int)∧(d:Int) < (f:Nat)∧LdA 2 (e00.add (Int.toNat d * 2)) w.drew (fun Q1=>sizesAre 2 [(Value.agg Q1)]∧NewC (([(Value.agg Q1)].map fun (v:Value)=>v.cells.toList).flatten.toArray) 173 w.drew (fun f00 g00=>∃ (R1:Option Addr) (S1 T1:Nat),∃ U1:World,(Builtin.append_ #[169,169] 169 [(Value.slice k l m),(Value.slice (some (Addr.mk f00 0 none)) 1 1)].toArray).run P g00=.ok (Value.slice R1 S1 T1) U1∧f107_s8 e f g R1 S1 T1 c n h i j d U1 K Y6)))) (optS e (fun h00=>0≤(d:Int)∧(d:Int) < (f:Nat)∧∃ V1:Int,w.drew.drew.cell? (h00.add (Int.toNat d * 2))=some (Value.int .i64 V1)∧∃ W1:Int,w.drew.drew.cell? (c.add 1)=some (Value.int .i64 W1)∧BIf (decide ((V1:Int) > W1)) (BIf (!n) (LdA 2 c w.drew.drew (fun X1=>sizesAre 2 [(Value.agg X1)]∧NewC (([(Value.agg X1)].map fun (v:Value)=>v.cells.toList).flatten.toArray) 173 w.drew.drew (fun i00 j00=>∃ (Y1:Option Addr) (Z1 a2:Nat),∃ b2:World,(Builtin.append_ #[169,169] 169 [(Value.slice k l m),(Value.slice (some (Addr.mk i00 0 none)) 1 1)].toArray).run P j00=.ok (Value.slice Y1 Z1 a2) b2∧f107_s9 e f g c h i j d Y1 Z1 a2 b2 K Y6))) (f107_s9 e f g c h i j d k l m w.drew.drew K Y6)) (optS e (fun o=>0≤(d:Int)∧(d:Int) < (f:Nat)∧optS e (fun p=>0≤(d:Int)∧(d:Int) < (f:Nat)∧(∃ q:Int,w.drew.drew.drew.cell? c=some (Value.int .i64 q)∧(∃ u:Int,w.drew.drew.drew.cell? (o.add (Int.toNat d * 2))=some (Value.int .i64 u)∧(∃ c2:Int,∃ i0:World,(Builtin.min_ #[3,3] 3 [(Value.int .i64 q),(Value.int .i64 u)].toArray).run P w.drew.drew.drew=.ok (Value.int .i64 c2) i0∧∃ d2:Int,i0.cell? (c.add 1)=some (Value.int .i64 d2)∧∃ e2:Int,i0.cell? ((p.add (Int.toNat d * 2)).add 1)=some (Value.int .i64 e2)∧∃ f2:Int,∃ g2:World,(Builtin.max_ #[3,3] 3 [(Value.int .i64 d2),(Value.int .i64 e2)].toArray).run P i0=.ok (Value.int .i64 f2) g2∧∃ h2:Array Value,(∀ wq,(Instr.build 173 [(0,(Value.int .i64 c2)),(1,(Value.int .i64 f2))].toArray).run P wq=.ok (Value.agg h2) wq)∧StA 2 c h2 g2 (fun l00=>f107_s8 e f g k l m c n h i j d l00 K Y6))∧(∃ j0:Int,w.drew.drew.drew.cell? (c.add 1)=some (Value.int .i64 j0)∧(∃ i2:Int,∃ N0:World,(Builtin.min_ #[3,3] 3 [(Value.int .i64 q),(Value.int .i64 u)].toArray).run P w.drew.drew.drew=.ok (Value.int .i64 i2) N0∧∃ j2:Int,N0.cell? ((p.add (Int.toNat d * 2)).add 1)=some (Value.int .i64 j2)∧∃ l2:Int,∃ m2:World,(Builtin.max_ #[3,3] 3 [(Value.int .i64 j0),(Value.int .i64 j2)].toArray).run P N0=.ok (Value.int .i64 l2) m2∧∃ n2:Array Value,(∀ wq,(Instr.build 173 [(0,(Value.int .i64 i2)),(1,(Value.int .i64 l2))].toArray).run P wq=.ok (Value.agg n2) wq)∧StA 2 c n2 m2 (fun m00=>f107_s8 e f g k l m c n h i j d m00 K Y6))∧(∃ O0:Int,w.drew.drew.drew.cell? ((p.add (Int.toNat d * 2)).add 1)=some (Value.int .i64 O0)∧(∃ o2:Int,∃ p2:World,(Builtin.min_ #[3,3] 3 [(Value.int .i64 q),(Value.int .i64 u)].toArray).run P w.drew.drew.drew=.ok (Value.int .i64 o2) p2∧∃ q2:Int,∃ r2:World,(Builtin.max_ #[3,3] 3 [(Value.int .i64 j0),(Value.int .i64 O0)].toArray).run P p2=.ok (Value.int .i64 q2) r2∧∃ s2:Array Value,(∀ wq,(Instr.build 173 [(0,(Value.int .i64 o2)),(1,(Value.int .i64 q2))].toArray).run P wq=.ok (Value.agg s2) wq)∧StA 2 c s2 r2 (fun n00=>f107_s8 e f g k l m c n h i j d n00 K Y6))∧(∃ t2:Int,∃ u2:World,(Builtin.max_ #[3,3] 3 [(Value.int .i64 j0),(Value.int .i64 O0)].toArray).run P w.drew.drew.drew=.ok (Value.int .i64 t2) u2∧∃ v2:Int,∃ x2:World,(Builtin.min_ #[3,3] 3 [(Value.int .i64 q),(Value.int .i64 u)].toArray).run P u2=.ok (Value.int .i64 v2) x2∧∃ y2:Array Value,(∀ wq,(Instr.build 173 [(0,(Value.int .i64 v2)),(1,(Value.int .i64 t2))].toArray).run P wq=.ok (Value.agg y2) wq)∧StA 2 c y2 x2 (fun o00=>f107_s8 e f g k l m c n h i j d o00 K Y6))))∧(∃ l0:Int,w.drew.drew.drew.cell? ((p.add (Int.toNat d * 2)).add 1)=some (Value.int .i64 l0)∧(∃ z2:Int,∃ Q0:World,(Builtin.min_ #[3,3] 3 [(Value.int .i64 q),(Value.int .i64 u)].toArray).run P w.drew.drew.drew=.ok (Value.int .i64 z2) Q0∧∃ A2:Int,Q0.cell? (c.add 1)=some (Value.int .i64 A2)∧∃ B2:Int,∃ C2:World,(Builtin.max_ #[3,3] 3 [(Value.int .i64 A2),(Value.int .i64 l0)].toArray).run P Q0=.ok (Value.int .i64 B2) C2∧∃ D2:Array Value,(∀ wq,(Instr.build 173 [(0,(Value.int .i64 z2)),(1,(Value.int .i64 B2))].toArray).run P wq=.ok (Value.agg D2) wq)∧StA 2 c D2 C2 (fun p00=>f107_s8 e f g k l m c n h i j d p00 K Y6))∧(∃ R0:Int,w.drew.drew.drew.cell? (c.add 1)=some (Value.int .i64 R0)∧(∃ E2:Int,∃ F2:World,(Builtin.min_ #[3,3] 3 [(Value.int .i64 q),(Value.int .i64 u)].toArray).run P w.drew.drew.drew=.ok (Value.int .i64 E2) F2∧∃ G2:Int,∃ H2:World,(Builtin.max_ #[3,3] 3 [(Value.int .i64 R0),(Value.int .i64 l0)].toArray).run P F2=.ok (Value.int .i64 G2) H2∧∃ I2:Array Value,(∀ wq,(Instr.build 173 [(0,(Value.int .i64 E2)),(1,(Value.int .i64 G2))].toArray).run P wq=.ok (Value.agg I2) wq)∧StA 2 c I2 H2 (fun q00=>f107_s8 e f g k l m c n h i j d q00 K Y6))∧(∃ J2:Int,∃ L2:World,(Builtin.max_ #[3,3] 3 [(Value.int .i64 R0),(Value.int .i64 l0)].toArray).run P w.drew.drew.drew=.ok (Value.int .i64 J2) L2∧∃ M2:Int,∃ N2:World,(Builtin.min_ #[3,3] 3 [(Value.int .i64 q),(Value.int .i64 u)].toArray).run P L2=.ok (Value.int .i64 M2) N2∧∃ O2:Array Value,(∀ wq,(Instr.build 173 [(0,(Value.int .i64 M2)),(1,(Value.int .i64 J2))].toArray).run P wq=.ok (Value.agg O2) wq)∧StA 2 c O2 N2 (fun r00=>f107_s8 e f g k l m c n h i j d r00 K Y6)))))∧(∃ a0:Int,w.drew.drew.drew.cell? (c.add 1)=some (Value.int .i64 a0)∧(∃ m0:Int,w.drew.drew.drew.cell? (o.add (Int.toNat d * 2))=some (Value.int .i64 m0)∧(∃ Q2:Int,∃ S0:World,(Builtin.min_ #[3,3] 3 [(Value.int .i64 q),(Value.int .i64 m0)].toArray).run P w.drew.drew.drew=.ok (Value.int .i64 Q2) S0∧∃ R2:Int,S0.cell? ((p.add (Int.toNat d * 2)).add 1)=some (Value.int .i64 R2)∧∃ S2:Int,∃ T2:World,(Builtin.max_ #[3,3] 3 [(Value.int .i64 a0),(Value.int .i64 R2)].toArray).run P S0=.ok (Value.int .i64 S2) T2∧∃ U2:Array Value,(∀ wq,(Instr.build 173 [(0,(Value.int .i64 Q2)),(1,(Value.int .i64 S2))].toArray).run P wq=.ok (Value.agg U2) wq)∧StA 2 c U2 T2 (fun s00=>f107_s8 e f g k l m c n h i j d s00 K Y6))∧(∃ T0:Int,w.drew.drew.drew.cell? ((p.add (Int.toNat d * 2)).add 1)=some (Value.int .i64 T0)∧(∃ V2:Int,∃ W2:World,(Builtin.min_ #[3,3] 3 [(Value.int .i64 q),(Value.int .i64 m0)].toArray).run P w.drew.drew.drew=.ok (Value.int .i64 V2) W2∧∃ X2:Int,∃ Y2:World,(Builtin.max_ #[3,3] 3 [(Value.int .i64 a0),(Value.int .i64 T0)].toArray).run P W2=.ok (Value.int .i64 X2) Y2∧∃ Z2:Array Value,(∀ wq,(Instr.build 173 [(0,(Value.int .i64 V2)),(1,(Value.int .i64 X2))].toArray).run P wq=.ok (Value.agg Z2) wq)∧StA 2 c Z2 Y2 (fun t00=>f107_s8 e f g k l m c n h i j d t00 K Y6))∧(∃ a3:Int,∃ b3:World,(Builtin.max_ #[3,3] 3 [(Value.int .i64 a0),(Value.int .i64 T0)].toArray).run P w.drew.drew.drew=.ok (Value.int .i64 a3) b3∧∃ c3:Int,∃ d3:World,(Builtin.min_ #[3,3] 3 [(Value.int .i64 q),(Value.int .i64 m0)].toArray).run P b3=.ok (Value.int .i64 c3) d3∧∃ e3:Array Value,(∀ wq,(Instr.build 173 [(0,(Value.int .i64 c3)),(1,(Value.int .i64 a3))].toArray).run P wq=.ok (Value.agg e3) wq)∧StA 2 c e3 d3 (fun u00=>f107_s8 e f g k l m c n h i j d u00 K Y6))))∧(∃ n0:Int,w.drew.drew.drew.cell? ((p.add (Int.toNat d * 2)).add 1)=some (Value.int .i64 n0)∧(∃ U0:Int,w.drew.drew.drew.cell? (o.add (Int.toNat d * 2))=some (Value.int .i64 U0)∧(∃ f3:Int,∃ g3:World,(Builtin.min_ #[3,3] 3 [(Value.int .i64 q),(Value.int .i64 U0)].toArray).run P w.drew.drew.drew=.ok (Value.int .i64 f3) g3∧∃ h3:Int,∃ i3:World,(Builtin.max_ #[3,3] 3 [(Value.int .i64 a0),(Value.int .i64 n0)].toArray).run P g3=.ok (Value.int .i64 h3) i3∧∃ j3:Array Value,(∀ wq,(Instr.build 173 [(0,(Value.int .i64 f3)),(1,(Value.int .i64 h3))].toArray).run P wq=.ok (Value.agg j3) wq)∧StA 2 c j3 i3 (fun v00=>f107_s8 e f g k l m c n h i j d v00 K Y6))∧(∃ l3:Int,∃ m3:World,(Builtin.max_ #[3,3] 3 [(Value.int .i64 a0),(Value.int .i64 n0)].toArray).run P w.drew.drew.drew=.ok (Value.int .i64 l3) m3∧∃ n3:Int,∃ o3:World,(Builtin.min_ #[3,3] 3 [(Value.int .i64 q),(Value.int .i64 U0)].toArray).run P m3=.ok (Value.int .i64 n3) o3∧∃ p3:Array Value,(∀ wq,(Instr.build 173 [(0,(Value.int .i64 n3)),(1,(Value.int .i64 l3))].toArray).run P wq=.ok (Value.agg p3) wq)∧StA 2 c p3 o3 (fun x00=>f107_s8 e f g k l m c n h i j d x00 K Y6)))∧(∃ q3:Int,∃ V0:World,(Builtin.max_ #[3,3] 3 [(Value.int .i64 a0),(Value.int .i64 n0)].toArray).run P w.drew.drew.drew=.ok (Value.int .i64 q3) V0∧∃ r3:Int,V0.cell? (o.add (Int.toNat d * 2))=some (Value.int .i64 r3)∧∃ s3:Int,∃ t3:World,(Builtin.min_ #[3,3] 3 [(Value.int .i64 q),(Value.int .i64 r3)].toArray).run P V0=.ok (Value.int .i64 s3) t3∧∃ u3:Array Value,(∀ wq,(Instr.build 173 [(0,(Value.int .i64 s3)),(1,(Value.int .i64 q3))].toArray).run P wq=.ok (Value.agg u3) wq)∧StA 2 c u3 t3 (fun y00=>f107_s8 e f g k l m c n h i j d y00 K Y6))))∧(∃ b0:Int,w.drew.drew.drew.cell? ((p.add (Int.toNat d * 2)).add 1)=some (Value.int .i64 b0)∧(∃ o0:Int,w.drew.drew.drew.cell? (o.add (Int.toNat d * 2))=some (Value.int .i64 o0)∧(∃ v3:Int,∃ W0:World,(Builtin.min_ #[3,3] 3 [(Value.int .i64 q),(Value.int .i64 o0)].toArray).run P w.drew.drew.drew=.ok (Value.int .i64 v3) W0∧∃ x3:Int,W0.cell? (c.add 1)=some (Value.int .i64 x3)∧∃ y3:Int,∃ z3:World,(Builtin.max_ #[3,3] 3 [(Value.int .i64 x3),(Value.int .i64 b0)].toArray).run P W0=.ok (Value.int .i64 y3) z3∧∃ A3:Array Value,(∀ wq,(Instr.build 173 [(0,(Value.int .i64 v3)),(1,(Value.int .i64 y3))].toArray).run P wq=.ok (Value.agg A3) wq)∧StA 2 c A3 z3 (fun z00=>f107_s8 e f g k l m c n h i j d z00 K Y6))∧(∃ X0:Int,w.drew.drew.drew.cell? (c.add 1)=some (Value.int .i64 X0)∧(∃ B3:Int,∃ C3:World,(Builtin.min_ #[3,3] 3 [(Value.int .i64 q),(Value.int .i64 o0)].toArray).run P w.drew.drew.drew=.ok (Value.int .i64 B3) C3∧∃ D3:Int,∃ E3:World,(Builtin.max_ #[3,3] 3 [(Value.int .i64 X0),(Value.int .i64 b0)].toArray).run P C3=.ok (Value.int .i64 D3) E3∧∃ F3:Array Value,(∀ wq,(Instr.build 173 [(0,(Value.int .i64 B3)),(1,(Value.int .i64 D3))].toArray).run P wq=.ok (Value.agg F3) wq)∧StA 2 c F3 E3 (fun A00=>f107_s8 e f g k l m c n h i j d A00 K Y6))∧(∃ G3:Int,∃ H3:World,(Builtin.max_ #[3,3] 3 [(Value.int .i64 X0),(Value.int .i64 b0)].toArray).run P w.drew.drew.drew=.ok (Value.int .i64 G3) H3∧∃ I3:Int,∃ J3:World,(Builtin.min_ #[3,3] 3 [(Value.int .i64 q),(Value.int .i64 o0)].toArray).run P H3=.ok (Value.int .i64 I3) J3∧∃ L3:Array Value,(∀ wq,(Instr.build 173 [(0,(Value.int .i64 I3)),(1,(Value.int .i64 G3))].toArray).run P wq=.ok (Value.agg L3) wq)∧StA 2 c L3 J3 (fun B00=>f107_s8 e f g k l m c n h i j d B00 K Y6))))∧(∃ p0:Int,w.drew.drew.drew.cell? (c.add 1)=some (Value.int .i64 p0)∧(∃ Y0:Int,w.drew.drew.drew.cell? (o.add (Int.toNat d * 2))=some (Value.int .i64 Y0)∧(∃ M3:Int,∃ N3:World,(Builtin.min_ #[3,3] 3 [(Value.int .i64 q),(Value.int .i64 Y0)].toArray).run P w.drew.drew.drew=.ok (Value.int .i64 M3) N3∧∃ O3:Int,∃ Q3:World,(Builtin.max_ #[3,3] 3 [(Value.int .i64 p0),(Value.int .i64 b0)].toArray).run P N3=.ok (Value.int .i64 O3) Q3∧∃ R3:Array Value,(∀ wq,(Instr.build 173 [(0,(Value.int .i64 M3)),(1,(Value.int .i64 O3))].toArray).run P wq=.ok (Value.agg R3) wq)∧StA 2 c R3 Q3 (fun C00=>f107_s8 e f g k l m c n h i j d C00 K Y6))∧(∃ S3:Int,∃ T3:World,(Builtin.max_ #[3,3] 3 [(Value.int .i64 p0),(Value.int .i64 b0)].toArray).run P w.drew.drew.drew=.ok (Value.int .i64 S3) T3∧∃ U3:Int,∃ V3:World,(Builtin.min_ #[3,3] 3 [(Value.int .i64 q),(Value.int .i64 Y0)].toArray).run P T3=.ok (Value.int .i64 U3) V3∧∃ W3:Array Value,(∀ wq,(Instr.build 173 [(0,(Value.int .i64 U3)),(1,(Value.int .i64 S3))].toArray).run P wq=.ok (Value.agg W3) wq)∧StA 2 c W3 V3 (fun D00=>f107_s8 e f g k l m c n h i j d D00 K Y6)))∧(∃ X3:Int,∃ Z0:World,(Builtin.max_ #[3,3] 3 [(Value.int .i64 p0),(Value.int .i64 b0)].toArray).run P w.drew.drew.drew=.ok (Value.int .i64 X3) Z0∧∃ Y3:Int,Z0.cell? (o.add (Int.toNat d * 2))=some (Value.int .i64 Y3)∧∃ Z3:Int,∃ a4:World,(Builtin.min_ #[3,3] 3 [(Value.int .i64 q),(Value.int .i64 Y3)].toArray).run P Z0=.ok (Value.int .i64 Z3) a4∧∃ b4:Array Value,(∀ wq,(Instr.build 173 [(0,(Value.int .i64 Z3)),(1,(Value.int .i64 X3))].toArray).run P wq=.ok (Value.agg b4) wq)∧StA 2 c b4 a4 (fun E00=>f107_s8 e f g k l m c n h i j d E00 K Y6)))))∧(∃ r:Int,w.drew.drew.drew.cell? (o.add (Int.toNat d * 2))=some (Value.int .i64 r)∧(∃ x:Int,w.drew.drew.drew.cell? c=some (Value.int .i64 x)∧(∃ c4:Int,∃ q0:World,(Builtin.min_ #[3,3] 3 [(Value.int .i64 x),(Value.int .i64 r)].toArray).run P w.drew.drew.drew=.ok (Value.int .i64 c4) q0∧∃ d4:Int,q0.cell? (c.add 1)=some (Value.int .i64 d4)∧∃ e4:Int,q0.cell? ((p.add (Int.toNat d * 2)).add 1)=some (Value.int .i64 e4)∧∃ f4:Int,∃ g4:World,(Builtin.max_ #[3,3] 3 [(Value.int .i64 d4),(Value.int .i64 e4)].toArray).run P q0=.ok (Value.int .i64 f4) g4∧∃ h4:Array Value,(∀ wq,(Instr.build 173 [(0,(Value.int .i64 c4)),(1,(Value.int .i64 f4))].toArray).run P wq=.ok (Value.agg h4) wq)∧StA 2 c h4 g4 (fun F00=>f107_s8 e f g k l m c n h i j d F00 K Y6))∧(∃ r0:Int,w.drew.drew.drew.cell? (c.add 1)=some (Value.int .i64 r0)∧(∃ i4:Int,∃ a1:World,(Builtin.min_ #[3,3] 3 [(Value.int .i64 x),(Value.int .i64 r)].toArray).run P w.drew.drew.drew=.ok (Value.int .i64 i4) a1∧∃ j4:Int,a1.cell? ((p.add (Int.toNat d * 2)).add 1)=some (Value.int .i64 j4)∧∃ l4:Int,∃ m4:World,(Builtin.max_ #[3,3] 3 [(Value.int .i64 r0),(Value.int .i64 j4)].toArray).run P a1=.ok (Value.int .i64 l4) m4∧∃ n4:Array Value,(∀ wq,(Instr.build 173 [(0,(Value.int .i64 i4)),(1,(Value.int .i64 l4))].toArray).run P wq=.ok (Value.agg n4) wq)∧StA 2 c n4 m4 (fun G00=>f107_s8 e f g k l m c n h i j d G00 K Y6))∧(∃ b1:Int,w.drew.drew.drew.cell? ((p.add (Int.toNat d * 2)).add 1)=some (Value.int .i64 b1)∧(∃ o4:Int,∃ p4:World,(Builtin.min_ #[3,3] 3 [(Value.int .i64 x),(Value.int .i64 r)].toArray).run P w.drew.drew.drew=.ok (Value.int .i64 o4) p4∧∃ q4:Int,∃ r4:World,(Builtin.max_ #[3,3] 3 [(Value.int .i64 r0),(Value.int .i64 b1)].toArray).run P p4=.ok (Value.int .i64 q4) r4∧∃ s4:Array Value,(∀ wq,(Instr.build 173 [(0,(Value.int .i64 o4)),(1,(Value.int .i64 q4))].toArray).run P wq=.ok (Value.agg s4) wq)∧StA 2 c s4 r4 (fun H00=>f107_s8 e f g k l m c n h i j d H00 K Y6))∧(∃ t4:Int,∃ u4:World,(Builtin.max_ #[3,3] 3 [(Value.int .i64 r0),(Value.int .i64 b1)].toArray).run P w.drew.drew.drew=.ok (Value.int .i64 t4) u4∧∃ v4:Int,∃ x4:World,(Builtin.min_ #[3,3] 3 [(Value.int .i64 x),(Value.int .i64 r)].toArray).run P u4=.ok (Value.int .i64 v4) x4∧∃ y4:Array Value,(∀ wq,(Instr.build 173 [(0,(Value.int .i64 v4)),(1,(Value.int .i64 t4))].toArray).run P wq=.ok (Value.agg y4) wq)∧StA 2 c y4 x4 (fun I00=>f107_s8 e f g k l m c n h i j d I00 K Y6))))∧(∃ s0:Int,w.drew.drew.drew.cell? ((p.add (Int.toNat d * 2)).add 1)=some (Value.int .i64 s0)∧(∃ z4:Int,∃ c1:World,(Builtin.min_ #[3,3] 3 [(Value.int .i64 x),(Value.int .i64 r)].toArray).run P w.drew.drew.drew=.ok (Value.int .i64 z4) c1∧∃ A4:Int,c1.cell? (c.add 1)=some (Value.int .i64 A4)∧∃ B4:Int,∃ C4:World,(Builtin.max_ #[3,3] 3 [(Value.int .i64 A4),(Value.int .i64 s0)].toArray).run P c1=.ok (Value.int .i64 B4) C4∧∃ D4:Array Value,(∀ wq,(Instr.build 173 [(0,(Value.int .i64 z4)),(1,(Value.int .i64 B4))].toArray).run P wq=.ok (Value.agg D4) wq)∧StA 2 c D4 C4 (fun J00=>f107_s8 e f g k l m c n h i j d J00 K Y6))∧(∃ d1:Int,w.drew.drew.drew.cell? (c.add 1)=some (Value.int .i64 d1)∧(∃ E4:Int,∃ F4:World,(Builtin.min_ #[3,3] 3 [(Value.int .i64 x),(Value.int .i64 r)].toArray).run P w.drew.drew.drew=.ok (Value.int .i64 E4) F4∧∃ G4:Int,∃ H4:World,(Builtin.max_ #[3,3] 3 [(Value.int .i64 d1),(Value.int .i64 s0)].toArray).run P F4=.ok (Value.int .i64 G4) H4∧∃ I4:Array Value,(∀ wq,(Instr.build 173 [(0,(Value.int .i64 E4)),(1,(Value.int .i64 G4))].toArray).run P wq=.ok (Value.agg I4) wq)∧StA 2 c I4 H4 (fun L00=>f107_s8 e f g k l m c n h i j d L00 K Y6))∧(∃ J4:Int,∃ L4:World,(Builtin.max_ #[3,3] 3 [(Value.int .i64 d1),(Value.int .i64 s0)].toArray).run P w.drew.drew.drew=.ok (Value.int .i64 J4) L4∧∃ M4:Int,∃ N4:World,(Builtin.min_ #[3,3] 3 [(Value.int .i64 x),(Value.int .i64 r)].toArray).run P L4=.ok (Value.int .i64 M4) N4∧∃ O4:Array Value,(∀ wq,(Instr.build 173 [(0,(Value.int .i64 M4)),(1,(Value.int .i64 J4))].toArray).run P wq=.ok (Value.agg O4) wq)∧StA 2 c O4 N4 (fun M00=>f107_s8 e f g k l m c n h i j d M00 K Y6)))))∧(∃ c0:Int,w.drew.drew.drew.cell? (c.add 1)=some (Value.int .i64 c0)∧(∃ t0:Int,w.drew.drew.drew.cell? c=some (Value.int .i64 t0)∧(∃ Q4:Int,∃ e1:World,(Builtin.min_ #[3,3] 3 [(Value.int .i64 t0),(Value.int .i64 r)].toArray).run P w.drew.drew.drew=.ok (Value.int .i64 Q4) e1∧∃ R4:Int,e1.cell? ((p.add (Int.toNat d * 2)).add 1)=some (Value.int .i64 R4)∧∃ S4:Int,∃ T4:World,(Builtin.max_ #[3,3] 3 [(Value.int .i64 c0),(Value.int .i64 R4)].toArray).run P e1=.ok (Value.int .i64 S4) T4∧∃ U4:Array Value,(∀ wq,(Instr.build 173 [(0,(Value.int .i64 Q4)),(1,(Value.int .i64 S4))].toArray).run P wq=.ok (Value.agg U4) wq)∧StA 2 c U4 T4 (fun N00=>f107_s8 e f g k l m c n h i j d N00 K Y6))∧(∃ f1:Int,w.drew.drew.drew.cell? ((p.add (Int.toNat d * 2)).add 1)=some (Value.int .i64 f1)∧(∃ V4:Int,∃ W4:World,(Builtin.min_ #[3,3] 3 [(Value.int .i64 t0),(Value.int .i64 r)].toArray).run P w.drew.drew.drew=.ok (Value.int .i64 V4) W4∧∃ X4:Int,∃ Y4:World,(Builtin.max_ #[3,3] 3 [(Value.int .i64 c0),(Value.int .i64 f1)].toArray).run P W4=.ok (Value.int .i64 X4) Y4∧∃ Z4:Array Value,(∀ wq,(Instr.build 173 [(0,(Value.int .i64 V4)),(1,(Value.int .i64 X4))].toArray).run P wq=.ok (Value.agg Z4) wq)∧StA 2 c Z4 Y4 (fun O00=>f107_s8 e f g k l m c n h i j d O00 K Y6))∧(∃ a5:Int,∃ b5:World,(Builtin.max_ #[3,3] 3 [(Value.int .i64 c0),(Value.int .i64 f1)].toArray).run P w.drew.drew.drew=.ok (Value.int .i64 a5) b5∧∃ c5:Int,∃ d5:World,(Builtin.min_ #[3,3] 3 [(Value.int .i64 t0),(Value.int .i64 r)].toArray).run P b5=.ok (Value.int .i64 c5) d5∧∃ e5:Array Value,(∀ wq,(Instr.build 173 [(0,(Value.int .i64 c5)),(1,(Value.int .i64 a5))].toArray).run P wq=.ok (Value.agg e5) wq)∧StA 2 c e5 d5 (fun Q00=>f107_s8 e f g k l m c n h i j d Q00 K Y6))))∧(∃ u0:Int,w.drew.drew.drew.cell? ((p.add (Int.toNat d * 2)).add 1)=some (Value.int .i64 u0)∧(∃ g1:Int,w.drew.drew.drew.cell? c=some (Value.int .i64 g1)∧(∃ f5:Int,∃ g5:World,(Builtin.min_ #[3,3] 3 [(Value.int .i64 g1),(Value.int .i64 r)].toArray).run P w.drew.drew.drew=.ok (Value.int .i64 f5) g5∧∃ h5:Int,∃ i5:World,(Builtin.max_ #[3,3] 3 [(Value.int .i64 c0),(Value.int .i64 u0)].toArray).run P g5=.ok (Value.int .i64 h5) i5∧∃ j5:Array Value,(∀ wq,(Instr.build 173 [(0,(Value.int .i64 f5)),(1,(Value.int .i64 h5))].toArray).run P wq=.ok (Value.agg j5) wq)∧StA 2 c j5 i5 (fun R00=>f107_s8 e f g k l m c n h i j d R00 K Y6))∧(∃ l5:Int,∃ m5:World,(Builtin.max_ #[3,3] 3 [(Value.int .i64 c0),(Value.int .i64 u0)].toArray).run P w.drew.drew.drew=.ok (Value.int .i64 l5) m5∧∃ n5:Int,∃ o5:World,(Builtin.min_ #[3,3] 3 [(Value.int .i64 g1),(Value.int .i64 r)].toArray).run P m5=.ok (Value.int .i64 n5) o5∧∃ p5:Array Value,(∀ wq,(Instr.build 173 [(0,(Value.int .i64 n5)),(1,(Value.int .i64 l5))].toArray).run P wq=.ok (Value.agg p5) wq)∧StA 2 c p5 o5 (fun S00=>f107_s8 e f g k l m c n h i j d S00 K Y6)))∧(∃ q5:Int,∃ h1:World,(Builtin.max_ #[3,3] 3 [(Value.int .i64 c0),(Value.int .i64 u0)].toArray).run P w.drew.drew.drew=.ok (Value.int .i64 q5) h1∧∃ r5:Int,h1.cell? c=some (Value.int .i64 r5)∧∃ s5:Int,∃ t5:World,(Builtin.min_ #[3,3] 3 [(Value.int .i64 r5),(Value.int .i64 r)].toArray).run P h1=.ok (Value.int .i64 s5) t5∧∃ u5:Array Value,(∀ wq,(Instr.build 173 [(0,(Value.int .i64 s5)),(1,(Value.int .i64 q5))].toArray).run P wq=.ok (Value.agg u5) wq)∧StA 2 c u5 t5 (fun T00=>f107_s8 e f g k l m c n h i j d T00 K Y6))))∧(∃ d0:Int,w.drew.drew.drew.cell? ((p.add (Int.toNat d * 2)).add 1)=some (Value.int .i64 d0)∧(∃ v0:Int,w.drew.drew.drew.cell? c=some (Value.int .i64 v0)∧(∃ v5:Int,∃ i1:World,(Builtin.min_ #[3,3] 3 [(Value.int .i64 v0),(Value.int .i64 r)].toArray).run P w.drew.drew.drew=.ok (Value.int .i64 v5) i1∧∃ x5:Int,i1.cell? (c.add 1)=some (Value.int .i64 x5)∧∃ y5:Int,∃ z5:World,(Builtin.max_ #[3,3] 3 [(Value.int .i64 x5),(Value.int .i64 d0)].toArray).run P i1=.ok (Value.int .i64 y5) z5∧∃ A5:Array Value,(∀ wq,(Instr.build 173 [(0,(Value.int .i64 v5)),(1,(Value.int .i64 y5))].toArray).run P wq=.ok (Value.agg A5) wq)∧StA 2 c A5 z5 (fun U00=>f107_s8 e f g k l m c n h i j d U00 K Y6))∧(∃ j1:Int,w.drew.drew.drew.cell? (c.add 1)=some (Value.int .i64 j1)∧(∃ B5:Int,∃ C5:World,(Builtin.min_ #[3,3] 3 [(Value.int .i64 v0),(Value.int .i64 r)].toArray).run P w.drew.drew.drew=.ok (Value.int .i64 B5) C5∧∃ D5:Int,∃ E5:World,(Builtin.max_ #[3,3] 3 [(Value.int .i64 j1),(Value.int .i64 d0)].toArray).run P C5=.ok (Value.int .i64 D5) E5∧∃ F5:Array Value,(∀ wq,(Instr.build 173 [(0,(Value.int .i64 B5)),(1,(Value.int .i64 D5))].toArray).run P wq=.ok (Value.agg F5) wq)∧StA 2 c F5 E5 (fun V00=>f107_s8 e f g k l m c n h i j d V00 K Y6))∧(∃ G5:Int,∃ H5:World,(Builtin.max_ #[3,3] 3 [(Value.int .i64 j1),(Value.int .i64 d0)].toArray).run P w.drew.drew.drew=.ok (Value.int .i64 G5) H5∧∃ I5:Int,∃ J5:World,(Builtin.min_ #[3,3] 3 [(Value.int .i64 v0),(Value.int .i64 r)].toArray).run P H5=.ok (Value.int .i64 I5) J5∧∃ L5:Array Value,(∀ wq,(Instr.build 173 [(0,(Value.int .i64 I5)),(1,(Value.int .i64 G5))].toArray).run P wq=.ok (Value.agg L5) wq)∧StA 2 c L5 J5 (fun W00=>f107_s8 e f g k l m c n h i j d W00 K Y6))))∧(∃ x0:Int,w.drew.drew.drew.cell? (c.add 1)=some (Value.int .i64 x0)∧(∃ l1:Int,w.drew.drew.drew.cell? c=some (Value.int .i64 l1)∧(∃ M5:Int,∃ N5:World,(Builtin.min_ #[3,3] 3 [(Value.int .i64 l1),(Value.int .i64 r)].toArray).run P w.drew.drew.drew=.ok (Value.int .i64 M5) N5∧∃ O5:Int,∃ Q5:World,(Builtin.max_ #[3,3] 3 [(Value.int .i64 x0),(Value.int .i64 d0)].toArray).run P N5=.ok (Value.int .i64 O5) Q5∧∃ R5:Array Value,(∀ wq,(Instr.build 173 [(0,(Value.int .i64 M5)),(1,(Value.int .i64 O5))].toArray).run P wq=.ok (Value.agg R5) wq)∧StA 2 c R5 Q5 (fun X00=>f107_s8 e f g k l m c n h i j d X00 K Y6))∧(∃ S5:Int,∃ T5:World,(Builtin.max_ #[3,3] 3 [(Value.int .i64 x0),(Value.int .i64 d0)].toArray).run P w.drew.drew.drew=.ok (Value.int .i64 S5) T5∧∃ U5:Int,∃ V5:World,(Builtin.min_ #[3,3] 3 [(Value.int .i64 l1),(Value.int .i64 r)].toArray).run P T5=.ok (Value.int .i64 U5) V5∧∃ W5:Array Value,(∀ wq,(Instr.build 173 [(0,(Value.int .i64 U5)),(1,(Value.int .i64 S5))].toArray).run P wq=.ok (Value.agg W5) wq)∧StA 2 c W5 V5 (fun Y00=>f107_s8 e f g k l m c n h i j d Y00 K Y6)))∧(∃ X5:Int,∃ m1:World,(Builtin.max_ #[3,3] 3 [(Value.int .i64 x0),(Value.int .i64 d0)].toArray).run P w.drew.drew.drew=.ok (Value.int .i64 X5) m1∧∃ Y5:Int,m1.cell? c=some (Value.int .i64 Y5)∧∃ Z5:Int,∃ a6:World,(Builtin.min_ #[3,3] 3 [(Value.int .i64 Y5),(Value.int .i64 r)].toArray).run P m1=.ok (Value.int .i64 Z5) a6∧∃ b6:Array Value,(∀ wq,(Instr.build 173 [(0,(Value.int .i64 Z5)),(1,(Value.int .i64 X5))].toArray).run P wq=.ok (Value.agg b6) wq)∧StA 2 c b6 a6 (fun Z00=>f107_s8 e f g k l m c n h i j d Z00 K Y6)))))∧(∃ s:Int,w.drew.drew.drew.cell? (c.add 1)=some (Value.int .i64 s)∧(∃ e0:Int,w.drew.drew.drew.cell? c=some (Value.int .i64 e0)∧(∃ y0:Int,w.drew.drew.drew.cell? (o.add (Int.toNat d * 2))=some (Value.int .i64 y0)∧(∃ c6:Int,∃ n1:World,(Builtin.min_ #[3,3] 3 [(Value.int .i64 e0),(Value.int .i64 y0)].toArray).run P w.drew.drew.drew=.ok (Value.int .i64 c6) n1∧∃ d6:Int,n1.cell? ((p.add (Int.toNat d * 2)).add 1)=some (Value.int .i64 d6)∧∃ e6:Int,∃ f6:World,(Builtin.max_ #[3,3] 3 [(Value.int .i64 s),(Value.int .i64 d6)].toArray).run P n1=.ok (Value.int .i64 e6) f6∧∃ g6:Array Value,(∀ wq,(Instr.build 173 [(0,(Value.int .i64 c6)),(1,(Value.int .i64 e6))].toArray).run P wq=.ok (Value.agg g6) wq)∧StA 2 c g6 f6 (fun a01=>f107_s8 e f g k l m c n h i j d a01 K Y6))∧(∃ o1:Int,w.drew.drew.drew.cell? ((p.add (Int.toNat d * 2)).add 1)=some (Value.int .i64 o1)∧(∃ h6:Int,∃ i6:World,(Builtin.min_ #[3,3] 3 [(Value.int .i64 e0),(Value.int .i64 y0)].toArray).run P w.drew.drew.drew=.ok (Value.int .i64 h6) i6∧∃ j6:Int,∃ l6:World,(Builtin.max_ #[3,3] 3 [(Value.int .i64 s),(Value.int .i64 o1)].toArray).run P i6=.ok (Value.int .i64 j6) l6∧∃ m6:Array Value,(∀ wq,(Instr.build 173 [(0,(Value.int .i64 h6)),(1,(Value.int .i64 j6))].toArray).run P wq=.ok (Value.agg m6) wq)∧StA 2 c m6 l6 (fun b01=>f107_s8 e f g k l m c n h i j d b01 K Y6))∧(∃ n6:Int,∃ o6:World,(Builtin.max_ #[3,3] 3 [(Value.int .i64 s),(Value.int .i64 o1)].toArray).run P w.drew.drew.drew=.ok (Value.int .i64 n6) o6∧∃ p6:Int,∃ q6:World,(Builtin.min_ #[3,3] 3 [(Value.int .i64 e0),(Value.int .i64 y0)].toArray).run P o6=.ok (Value.int .i64 p6) q6∧∃ r6:Array Value,(∀ wq,(Instr.build 173 [(0,(Value.int .i64 p6)),(1,(Value.int .i64 n6))].toArray).run P wq=.ok (Value.agg r6) wq)∧StA 2 c r6 q6 (fun c01=>f107_s8 e f g k l m c n h i j d c01 K Y6))))∧(∃ z0:Int,w.drew.drew.drew.cell? ((p.add (Int.toNat d * 2)).add 1)=some (Value.int .i64 z0)∧(∃ p1:Int,w.drew.drew.drew.cell? (o.add (Int.toNat d * 2))=some (Value.int .i64 p1)∧(∃ s6:Int,∃ t6:World,(Builtin.min_ #[3,3] 3 [(Value.int .i64 e0),(Value.int .i64 p1)].toArray).run P w.drew.drew.drew=.ok (Value.int .i64 s6) t6∧∃ u6:Int,∃ v6:World,(Builtin.max_ #[3,3] 3 [(Value.int .i64 s),(Value.int .i64 z0)].toArray).run P t6=.ok (Value.int .i64 u6) v6∧∃ x6:Array Value,(∀ wq,(Instr.build 173 [(0,(Value.int .i64 s6)),(1,(Value.int .i64 u6))].toArray).run P wq=.ok (Value.agg x6) wq)∧StA 2 c x6 v6 (fun d01=>f107_s8 e f g k l m c n h i j d d01 K Y6))∧(∃ y6:Int,∃ z6:World,(Builtin.max_ #[3,3] 3 [(Value.int .i64 s),(Value.int .i64 z0)].toArray).run P w.drew.drew.drew=.ok (Value.int .i64 y6) z6∧∃ A6:Int,∃ B6:World,(Builtin.min_ #[3,3] 3 [(Value.int .i64 e0),(Value.int .i64 p1)].toArray).run P z6=.ok (Value.int .i64 A6) B6∧∃ C6:Array Value,(∀ wq,(Instr.build 173 [(0,(Value.int .i64 A6)),(1,(Value.int .i64 y6))].toArray).run P wq=.ok (Value.agg C6) wq)∧StA 2 c C6 B6 (fun e01=>f107_s8 e f g k l m c n h i j d e01 K Y6)))∧(∃ D6:Int,∃ q1:World,(Builtin.max_ #[3,3] 3 [(Value.int .i64 s),(Value.int .i64 z0)].toArray).run P w.drew.drew.drew=.ok (Value.int .i64 D6) q1∧∃ E6:Int,q1.cell? (o.add (Int.toNat d * 2))=some (Value.int .i64 E6)∧∃ F6:Int,∃ G6:World,(Builtin.min_ #[3,3] 3 [(Value.int .i64 e0),(Value.int .i64 E6)].toArray).run P q1=.ok (Value.int .i64 F6) G6∧∃ H6:Array Value,(∀ wq,(Instr.build 173 [(0,(Value.int .i64 F6)),(1,(Value.int .i64 D6))].toArray).run P wq=.ok (Value.agg H6) wq)∧StA 2 c H6 G6 (fun f01=>f107_s8 e f g k l m c n h i j d f01 K Y6))))∧(∃ f0:Int,w.drew.drew.drew.cell? (o.add (Int.toNat d * 2))=some (Value.int .i64 f0)∧(∃ A0:Int,w.drew.drew.drew.cell? c=some (Value.int .i64 A0)∧(∃ I6:Int,∃ r1:World,(Builtin.min_ #[3,3] 3 [(Value.int .i64 A0),(Value.int .i64 f0)].toArray).run P w.drew.drew.drew=.ok (Value.int .i64 I6) r1∧∃ J6:Int,r1.cell? ((p.add (Int.toNat d * 2)).add 1)=some (Value.int .i64 J6)∧∃ L6:Int,∃ M6:World,(Builtin.max_ #[3,3] 3 [(Value.int .i64 s),(Value.int .i64 J6)].toArray).run P r1=.ok (Value.int .i64 L6) M6∧∃ N6:Array Value,(∀ wq,(Instr.build 173 [(0,(Value.int .i64 I6)),(1,(Value.int .i64 L6))].toArray).run P wq=.ok (Value.agg N6) wq)∧StA 2 c N6 M6 (fun g01=>f107_s8 e f g k l m c n h i j d g01 K Y6))∧(∃ s1:Int,w.drew.drew.drew.cell? ((p.add (Int.toNat d * 2)).add 1)=some (Value.int .i64 s1)∧(∃ O6:Int,∃ Q6:World,(Builtin.min_ #[3,3] 3 [(Value.int .i64 A0),(Value.int .i64 f0)].toArray).run P w.drew.drew.drew=.ok (Value.int .i64 O6) Q6∧∃ R6:Int,∃ S6:World,(Builtin.max_ #[3,3] 3 [(Value.int .i64 s),(Value.int .i64 s1)].toArray).run P Q6=.ok (Value.int .i64 R6) S6∧∃ T6:Array Value,(∀ wq,(Instr.build 173 [(0,(Value.int .i64 O6)),(1,(Value.int .i64 R6))].toArray).run P wq=.ok (Value.agg T6) wq)∧StA 2 c T6 S6 (fun h01=>f107_s8 e f g k l m c n h i j d h01 K Y6))∧(∃ U6:Int,∃ V6:World,(Builtin.max_ #[3,3] 3 [(Value.int .i64 s),(Value.int .i64 s1)].toArray).run P w.drew.drew.drew=.ok (Value.int .i64 U6) V6∧∃ W6:Int,∃ X6:World,(Builtin.min_ #[3,3] 3 [(Value.int .i64 A0),(Value.int .i64 f0)].toArray).run P V6=.ok (Value.int .i64 W6) X6∧∃ Z6:Array Value,(∀ wq,(Instr.build 173 [(0,(Value.int .i64 W6)),(1,(Value.int .i64 U6))].toArray).run P wq=.ok (Value.agg Z6) wq)∧StA 2 c Z6 X6 (fun i01=>f107_s8 e f g k l m c n h i j d i01 K Y6))))∧(∃ B0:Int,w.drew.drew.drew.cell? ((p.add (Int.toNat d * 2)).add 1)=some (Value.int .i64 B0)∧(∃ t1:Int,w.drew.drew.drew.cell? c=some (Value.int .i64 t1)∧(∃ a7:Int,∃ b7:World,(Builtin.min_ #[3,3] 3 [(Value.int .i64 t1),(Value.int .i64 f0)].toArray).run P w.drew.drew.drew=.ok (Value.int .i64 a7) b7∧∃ c7:Int,∃ d7:World,(Builtin.max_ #[3,3] 3 [(Value.int .i64 s),(Value.int .i64 B0)].toArray).run P b7=.ok (Value.int .i64 c7) d7∧∃ e7:Array Value,(∀ wq,(Instr.build 173 [(0,(Value.int .i64 a7)),(1,(Value.int .i64 c7))].toArray).run P wq=.ok (Value.agg e7) wq)∧StA 2 c e7 d7 (fun j01=>f107_s8 e f g k l m c n h i j d j01 K Y6))∧(∃ f7:Int,∃ g7:World,(Builtin.max_ #[3,3] 3 [(Value.int .i64 s),(Value.int .i64 B0)].toArray).run P w.drew.drew.drew=.ok (Value.int .i64 f7) g7∧∃ h7:Int,∃ i7:World,(Builtin.min_ #[3,3] 3 [(Value.int .i64 t1),(Value.int .i64 f0)].toArray).run P g7=.ok (Value.int .i64 h7) i7∧∃ j7:Array Value,(∀ wq,(Instr.build 173 [(0,(Value.int .i64 h7)),(1,(Value.int .i64 f7))].toArray).run P wq=.ok (Value.agg j7) wq)∧StA 2 c j7 i7 (fun l01=>f107_s8 e f g k l m c n h i j d l01 K Y6)))∧(∃ l7:Int,∃ u1:World,(Builtin.max_ #[3,3] 3 [(Value.int .i64 s),(Value.int .i64 B0)].toArray).run P w.drew.drew.drew=.ok (Value.int .i64 l7) u1∧∃ m7:Int,u1.cell? c=some (Value.int .i64 m7)∧∃ n7:Int,∃ o7:World,(Builtin.min_ #[3,3] 3 [(Value.int .i64 m7),(Value.int .i64 f0)].toArray).run P u1=.ok (Value.int .i64 n7) o7∧∃ p7:Array Value,(∀ wq,(Instr.build 173 [(0,(Value.int .i64 n7)),(1,(Value.int .i64 l7))].toArray).run P wq=.ok (Value.agg p7) wq)∧StA 2 c p7 o7 (fun m01=>f107_s8 e f g k l m c n h i j d m01 K Y6))))∧(∃ y:Int,w.drew.drew.drew.cell? ((p.add (Int.toNat d * 2)).add 1)=some (Value.int .i64 y)∧(∃ C0:Int,w.drew.drew.drew.cell? c=some (Value.int .i64 C0)∧(∃ v1:Int,w.drew.drew.drew.cell? (o.add (Int.toNat d * 2))=some (Value.int .i64 v1)∧(∃ q7:Int,∃ r7:World,(Builtin.min_ #[3,3] 3 [(Value.int .i64 C0),(Value.int .i64 v1)].toArray).run P w.drew.drew.drew=.ok (Value.int .i64 q7) r7∧∃ s7:Int,∃ t7:World,(Builtin.max_ #[3,3] 3 [(Value.int .i64 s),(Value.int .i64 y)].toArray).run P r7=.ok (Value.int .i64 s7) t7∧∃ u7:Array Value,(∀ wq,(Instr.build 173 [(0,(Value.int .i64 q7)),(1,(Value.int .i64 s7))].toArray).run P wq=.ok (Value.agg u7) wq)∧StA 2 c u7 t7 (fun n01=>f107_s8 e f g k l m c n h i j d n01 K Y6))∧(∃ v7:Int,∃ x7:World,(Builtin.max_ #[3,3] 3 [(Value.int .i64 s),(Value.int .i64 y)].toArray).run P w.drew.drew.drew=.ok (Value.int .i64 v7) x7∧∃ y7:Int,∃ z7:World,(Builtin.min_ #[3,3] 3 [(Value.int .i64 C0),(Value.int .i64 v1)].toArray).run P x7=.ok (Value.int .i64 y7) z7∧∃ A7:Array Value,(∀ wq,(Instr.build 173 [(0,(Value.int .i64 y7)),(1,(Value.int .i64 v7))].toArray).run P wq=.ok (Value.agg A7) wq)∧StA 2 c A7 z7 (fun o01=>f107_s8 e f g k l m c n h i j d o01 K Y6)))∧(∃ B7:Int,∃ x1:World,(Builtin.max_ #[3,3] 3 [(Value.int .i64 s),(Value.int .i64 y)].toArray).run P w.drew.drew.drew=.ok (Value.int .i64 B7) x1∧∃ C7:Int,x1.cell? (o.add (Int.toNat d * 2))=some (Value.int .i64 C7)∧∃ D7:Int,∃ E7:World,(Builtin.min_ #[3,3] 3 [(Value.int .i64 C0),(Value.int .i64 C7)].toArray).run P x1=.ok (Value.int .i64 D7) E7∧∃ F7:Array Value,(∀ wq,(Instr.build 173 [(0,(Value.int .i64 D7)),(1,(Value.int .i64 B7))].toArray).run P wq=.ok (Value.agg F7) wq)∧StA 2 c F7 E7 (fun p01=>f107_s8 e f g k l m c n h i j d p01 K Y6)))∧(∃ D0:Int,w.drew.drew.drew.cell? (o.add (Int.toNat d * 2))=some (Value.int .i64 D0)∧(∃ y1:Int,w.drew.drew.drew.cell? c=some (Value.int .i64 y1)∧(∃ G7:Int,∃ H7:World,(Builtin.min_ #[3,3] 3 [(Value.int .i64 y1),(Value.int .i64 D0)].toArray).run P w.drew.drew.drew=.ok (Value.int .i64 G7) H7∧∃ I7:Int,∃ J7:World,(Builtin.max_ #[3,3] 3 [(Value.int .i64 s),(Value.int .i64 y)].toArray).run P H7=.ok (Value.int .i64 I7) J7∧∃ L7:Array Value,(∀ wq,(Instr.build 173 [(0,(Value.int .i64 G7)),(1,(Value.int .i64 I7))].toArray).run P wq=.ok (Value.agg L7) wq)∧StA 2 c L7 J7 (fun q01=>f107_s8 e f g k l m c n h i j d q01 K Y6))∧(∃ M7:Int,∃ N7:World,(Builtin.max_ #[3,3] 3 [(Value.int .i64 s),(Value.int .i64 y)].toArray).run P w.drew.drew.drew=.ok (Value.int .i64 M7) N7∧∃ O7:Int,∃ Q7:World,(Builtin.min_ #[3,3] 3 [(Value.int .i64 y1),(Value.int .i64 D0)].toArray).run P N7=.ok (Value.int .i64 O7) Q7∧∃ R7:Array Value,(∀ wq,(Instr.build 173 [(0,(Value.int .i64 O7)),(1,(Value.int .i64 M7))].toArray).run P wq=.ok (Value.agg R7) wq)∧StA 2 c R7 Q7 (fun r01=>f107_s8 e f g k l m c n h i j d r01 K Y6)))∧(∃ S7:Int,∃ z1:World,(Builtin.max_ #[3,3] 3 [(Value.int .i64 s),(Value.int .i64 y)].toArray).run P w.drew.drew.drew=.ok (Value.int .i64 S7) z1∧∃ T7:Int,z1.cell? c=some (Value.int .i64 T7)∧∃ U7:Int,∃ V7:World,(Builtin.min_ #[3,3] 3 [(Value.int .i64 T7),(Value.int .i64 D0)].toArray).run P z1=.ok (Value.int .i64 U7) V7∧∃ W7:Array Value,(∀ wq,(Instr.build 173 [(0,(Value.int .i64 U7)),(1,(Value.int .i64 S7))].toArray).run P wq=.ok (Value.agg W7) wq)∧StA 2 c W7 V7 (fun s01=>f107_s8 e f g k l m c n h i j d s01 K Y6)))∧(∃ X7:Int,∃ E0:World,(Builtin.max_ #[3,3] 3 [(Value.int .i64 s),(Value.int .i64 y)].toArray).run P w.drew.drew.drew=.ok (Value.int .i64 X7) E0∧∃ Y7:Int,E0.cell? c=some (Value.int .i64 Y7)∧∃ Z7:Int,E0.cell? (o.add (Int.toNat d * 2))=some (Value.int .i64 Z7)∧∃ a8:Int,∃ b8:World,(Builtin.min_ #[3,3] 3 [(Value.int .i64 Y7),(Value.int .i64 Z7)].toArray).run P E0=.ok (Value.int .i64 a8) b8∧∃ c8:Array Value,(∀ wq,(Instr.build 173 [(0,(Value.int .i64 a8)),(1,(Value.int .i64 X7))].toArray).run P wq=.ok (Value.agg c8) wq)∧StA 2 c c8 b8 (fun t01=>f107_s8 e f g k l m c n h i j d t01 K Y6))))∧(∃ t:Int,w.drew.drew.drew.cell? ((p.add (Int.toNat d * 2)).add 1)=some (Value.int .i64 t)∧(∃ g0:Int,w.drew.drew.drew.cell? c=some (Value.int .i64 g0)∧(∃ F0:Int,w.drew.drew.drew.cell? (o.add (Int.toNat d * 2))=some (Value.int .i64 F0)∧(∃ d8:Int,∃ A1:World,(Builtin.min_ #[3,3] 3 [(Value.int .i64 g0),(Value.int .i64 F0)].toArray).run P w.drew.drew.drew=.ok (Value.int .i64 d8) A1∧∃ e8:Int,A1.cell? (c.add 1)=some (Value.int .i64 e8)∧∃ f8:Int,∃ g8:World,(Builtin.max_ #[3,3] 3 [(Value.int .i64 e8),(Value.int .i64 t)].toArray).run P A1=.ok (Value.int .i64 f8) g8∧∃ h8:Array Value,(∀ wq,(Instr.build 173 [(0,(Value.int .i64 d8)),(1,(Value.int .i64 f8))].toArray).run P wq=.ok (Value.agg h8) wq)∧StA 2 c h8 g8 (fun u01=>f107_s8 e f g k l m c n h i j d u01 K Y6))∧(∃ B1:Int,w.drew.drew.drew.cell? (c.add 1)=some (Value.int .i64 B1)∧(∃ i8:Int,∃ j8:World,(Builtin.min_ #[3,3] 3 [(Value.int .i64 g0),(Value.int .i64 F0)].toArray).run P w.drew.drew.drew=.ok (Value.int .i64 i8) j8∧∃ l8:Int,∃ m8:World,(Builtin.max_ #[3,3] 3 [(Value.int .i64 B1),(Value.int .i64 t)].toArray).run P j8=.ok (Value.int .i64 l8) m8∧∃ n8:Array Value,(∀ wq,(Instr.build 173 [(0,(Value.int .i64 i8)),(1,(Value.int .i64 l8))].toArray).run P wq=.ok (Value.agg n8) wq)∧StA 2 c n8 m8 (fun v01=>f107_s8 e f g k l m c n h i j d v01 K Y6))∧(∃ o8:Int,∃ p8:World,(Builtin.max_ #[3,3] 3 [(Value.int .i64 B1),(Value.int .i64 t)].toArray).run P w.drew.drew.drew=.ok (Value.int .i64 o8) p8∧∃ q8:Int,∃ r8:World,(Builtin.min_ #[3,3] 3 [(Value.int .i64 g0),(Value.int .i64 F0)].toArray).run P p8=.ok (Value.int .i64 q8) r8∧∃ s8:Array Value,(∀ wq,(Instr.build 173 [(0,(Value.int .i64 q8)),(1,(Value.int .i64 o8))].toArray).run P wq=.ok (Value.agg s8) wq)∧StA 2 c s8 r8 (fun x01=>f107_s8 e f g k l m c n h i j d x01 K Y6))))∧(∃ G0:Int,w.drew.drew.drew.cell? (c.add 1)=some (Value.int .i64 G0)∧(∃ C1:Int,w.drew.drew.drew.cell? (o.add (Int.toNat d * 2))=some (Value.int .i64 C1)∧(∃ t8:Int,∃ u8:World,(Builtin.min_ #[3,3] 3 [(Value.int .i64 g0),(Value.int .i64 C1)].toArray).run P w.drew.drew.drew=.ok (Value.int .i64 t8) u8∧∃ v8:Int,∃ x8:World,(Builtin.max_ #[3,3] 3 [(Value.int .i64 G0),(Value.int .i64 t)].toArray).run P u8=.ok (Value.int .i64 v8) x8∧∃ y8:Array Value,(∀ wq,(Instr.build 173 [(0,(Value.int .i64 t8)),(1,(Value.int .i64 v8))].toArray).run P wq=.ok (Value.agg y8) wq)∧StA 2 c y8 x8 (fun y01=>f107_s8 e f g k l m c n h i j d y01 K Y6))∧(∃ z8:Int,∃ A8:World,(Builtin.max_ #[3,3] 3 [(Value.int .i64 G0),(Value.int .i64 t)].toArray).run P w.drew.drew.drew=.ok (Value.int .i64 z8) A8∧∃ B8:Int,∃ C8:World,(Builtin.min_ #[3,3] 3 [(Value.int .i64 g0),(Value.int .i64 C1)].toArray).run P A8=.ok (Value.int .i64 B8) C8∧∃ D8:Array Value,(∀ wq,(Instr.build 173 [(0,(Value.int .i64 B8)),(1,(Value.int .i64 z8))].toArray).run P wq=.ok (Value.agg D8) wq)∧StA 2 c D8 C8 (fun z01=>f107_s8 e f g k l m c n h i j d z01 K Y6)))∧(∃ E8:Int,∃ D1:World,(Builtin.max_ #[3,3] 3 [(Value.int .i64 G0),(Value.int .i64 t)].toArray).run P w.drew.drew.drew=.ok (Value.int .i64 E8) D1∧∃ F8:Int,D1.cell? (o.add (Int.toNat d * 2))=some (Value.int .i64 F8)∧∃ G8:Int,∃ H8:World,(Builtin.min_ #[3,3] 3 [(Value.int .i64 g0),(Value.int .i64 F8)].toArray).run P D1=.ok (Value.int .i64 G8) H8∧∃ I8:Array Value,(∀ wq,(Instr.build 173 [(0,(Value.int .i64 G8)),(1,(Value.int .i64 E8))].toArray).run P wq=.ok (Value.agg I8) wq)∧StA 2 c I8 H8 (fun A01=>f107_s8 e f g k l m c n h i j d A01 K Y6))))∧(∃ h0:Int,w.drew.drew.drew.cell? (o.add (Int.toNat d * 2))=some (Value.int .i64 h0)∧(∃ H0:Int,w.drew.drew.drew.cell? c=some (Value.int .i64 H0)∧(∃ J8:Int,∃ E1:World,(Builtin.min_ #[3,3] 3 [(Value.int .i64 H0),(Value.int .i64 h0)].toArray).run P w.drew.drew.drew=.ok (Value.int .i64 J8) E1∧∃ L8:Int,E1.cell? (c.add 1)=some (Value.int .i64 L8)∧∃ M8:Int,∃ N8:World,(Builtin.max_ #[3,3] 3 [(Value.int .i64 L8),(Value.int .i64 t)].toArray).run P E1=.ok (Value.int .i64 M8) N8∧∃ O8:Array Value,(∀ wq,(Instr.build 173 [(0,(Value.int .i64 J8)),(1,(Value.int .i64 M8))].toArray).run P wq=.ok (Value.agg O8) wq)∧StA 2 c O8 N8 (fun B01=>f107_s8 e f g k l m c n h i j d B01 K Y6))∧(∃ F1:Int,w.drew.drew.drew.cell? (c.add 1)=some (Value.int .i64 F1)∧(∃ Q8:Int,∃ R8:World,(Builtin.min_ #[3,3] 3 [(Value.int .i64 H0),(Value.int .i64 h0)].toArray).run P w.drew.drew.drew=.ok (Value.int .i64 Q8) R8∧∃ S8:Int,∃ T8:World,(Builtin.max_ #[3,3] 3 [(Value.int .i64 F1),(Value.int .i64 t)].toArray).run P R8=.ok (Value.int .i64 S8) T8∧∃ U8:Array Value,(∀ wq,(Instr.build 173 [(0,(Value.int .i64 Q8)),(1,(Value.int .i64 S8))].toArray).run P wq=.ok (Value.agg U8) wq)∧StA 2 c U8 T8 (fun C01=>f107_s8 e f g k l m c n h i j d C01 K Y6))∧(∃ V8:Int,∃ W8:World,(Builtin.max_ #[3,3] 3 [(Value.int .i64 F1),(Value.int .i64 t)].toArray).run P w.drew.drew.drew=.ok (Value.int .i64 V8) W8∧∃ X8:Int,∃ Y8:World,(Builtin.min_ #[3,3] 3 [(Value.int .i64 H0),(Value.int .i64 h0)].toArray).run P W8=.ok (Value.int .i64 X8) Y8∧∃ Z8:Array Value,(∀ wq,(Instr.build 173 [(0,(Value.int .i64 X8)),(1,(Value.int .i64 V8))].toArray).run P wq=.ok (Value.agg Z8) wq)∧StA 2 c Z8 Y8 (fun D01=>f107_s8 e f g k l m c n h i j d D01 K Y6))))∧(∃ I0:Int,w.drew.drew.drew.cell? (c.add 1)=some (Value.int .i64 I0)∧(∃ G1:Int,w.drew.drew.drew.cell? c=some (Value.int .i64 G1)∧(∃ a9:Int,∃ b9:World,(Builtin.min_ #[3,3] 3 [(Value.int .i64 G1),(Value.int .i64 h0)].toArray).run P w.drew.drew.drew=.ok (Value.int .i64 a9) b9∧∃ c9:Int,∃ d9:World,(Builtin.max_ #[3,3] 3 [(Value.int .i64 I0),(Value.int .i64 t)].toArray).run P b9=.ok (Value.int .i64 c9) d9∧∃ e9:Array Value,(∀ wq,(Instr.build 173 [(0,(Value.int .i64 a9)),(1,(Value.int .i64 c9))].toArray).run P wq=.ok (Value.agg e9) wq)∧StA 2 c e9 d9 (fun E01=>f107_s8 e f g k l m c n h i j d E01 K Y6))∧(∃ f9:Int,∃ g9:World,(Builtin.max_ #[3,3] 3 [(Value.int .i64 I0),(Value.int .i64 t)].toArray).run P w.drew.drew.drew=.ok (Value.int .i64 f9) g9∧∃ h9:Int,∃ i9:World,(Builtin.min_ #[3,3] 3 [(Value.int .i64 G1),(Value.int .i64 h0)].toArray).run P g9=.ok (Value.int .i64 h9) i9∧∃ j9:Array Value,(∀ wq,(Instr.build 173 [(0,(Value.int .i64 h9)),(1,(Value.int .i64 f9))].toArray).run P wq=.ok (Value.agg j9) wq)∧StA 2 c j9 i9 (fun F01=>f107_s8 e f g k l m c n h i j d F01 K Y6)))∧(∃ l9:Int,∃ H1:World,(Builtin.max_ #[3,3] 3 [(Value.int .i64 I0),(Value.int .i64 t)].toArray).run P w.drew.drew.drew=.ok (Value.int .i64 l9) H1∧∃ m9:Int,H1.cell? c=some (Value.int .i64 m9)∧∃ n9:Int,∃ o9:World,(Builtin.min_ #[3,3] 3 [(Value.int .i64 m9),(Value.int .i64 h0)].toArray).run P H1=.ok (Value.int .i64 n9) o9∧∃ p9:Array Value,(∀ wq,(Instr.build 173 [(0,(Value.int .i64 n9)),(1,(Value.int .i64 l9))].toArray).run P wq=.ok (Value.agg p9) wq)∧StA 2 c p9 o9 (fun G01=>f107_s8 e f g k l m c n h i j d G01 K Y6))))∧(∃ z:Int,w.drew.drew.drew.cell? (c.add 1)=some (Value.int .i64 z)∧(∃ J0:Int,w.drew.drew.drew.cell? c=some (Value.int .i64 J0)∧(∃ I1:Int,w.drew.drew.drew.cell? (o.add (Int.toNat d * 2))=some (Value.int .i64 I1)∧(∃ q9:Int,∃ r9:World,(Builtin.min_ #[3,3] 3 [(Value.int .i64 J0),(Value.int .i64 I1)].toArray).run P w.drew.drew.drew=.ok (Value.int .i64 q9) r9∧∃ s9:Int,∃ t9:World,(Builtin.max_ #[3,3] 3 [(Value.int .i64 z),(Value.int .i64 t)].toArray).run P r9=.ok (Value.int .i64 s9) t9∧∃ u9:Array Value,(∀ wq,(Instr.build 173 [(0,(Value.int .i64 q9)),(1,(Value.int .i64 s9))].toArray).run P wq=.ok (Value.agg u9) wq)∧StA 2 c u9 t9 (fun H01=>f107_s8 e f g k l m c n h i j d H01 K Y6))∧(∃ v9:Int,∃ x9:World,(Builtin.max_ #[3,3] 3 [(Value.int .i64 z),(Value.int .i64 t)].toArray).run P w.drew.drew.drew=.ok (Value.int .i64 v9) x9∧∃ y9:Int,∃ z9:World,(Builtin.min_ #[3,3] 3 [(Value.int .i64 J0),(Value.int .i64 I1)].toArray).run P x9=.ok (Value.int .i64 y9) z9∧∃ A9:Array Value,(∀ wq,(Instr.build 173 [(0,(Value.int .i64 y9)),(1,(Value.int .i64 v9))].toArray).run P wq=.ok (Value.agg A9) wq)∧StA 2 c A9 z9 (fun I01=>f107_s8 e f g k l m c n h i j d I01 K Y6)))∧(∃ B9:Int,∃ J1:World,(Builtin.max_ #[3,3] 3 [(Value.int .i64 z),(Value.int .i64 t)].toArray).run P w.drew.drew.drew=.ok (Value.int .i64 B9) J1∧∃ C9:Int,J1.cell? (o.add (Int.toNat d * 2))=some (Value.int .i64 C9)∧∃ D9:Int,∃ E9:World,(Builtin.min_ #[3,3] 3 [(Value.int .i64 J0),(Value.int .i64 C9)].toArray).run P J1=.ok (Value.int .i64 D9) E9∧∃ F9:Array Value,(∀ wq,(Instr.build 173 [(0,(Value.int .i64 D9)),(1,(Value.int .i64 B9))].toArray).run P wq=.ok (Value.agg F9) wq)∧StA 2 c F9 E9 (fun J01=>f107_s8 e f g k l m c n h i j d J01 K Y6)))∧(∃ L0:Int,w.drew.drew.drew.cell? (o.add (Int.toNat d * 2))=some (Value.int .i64 L0)∧(∃ L1:Int,w.drew.drew.drew.cell? c=some (Value.int .i64 L1)∧(∃ G9:Int,∃ H9:World,(Builtin.min_ #[3,3] 3 [(Value.int .i64 L1),(Value.int .i64 L0)].toArray).run P w.drew.drew.drew=.ok (Value.int .i64 G9) H9∧∃ I9:Int,∃ J9:World,(Builtin.max_ #[3,3] 3 [(Value.int .i64 z),(Value.int .i64 t)].toArray).run P H9=.ok (Value.int .i64 I9) J9∧∃ L9:Array Value,(∀ wq,(Instr.build 173 [(0,(Value.int .i64 G9)),(1,(Value.int .i64 I9))].toArray).run P wq=.ok (Value.agg L9) wq)∧StA 2 c L9 J9 (fun L01=>f107_s8 e f g k l m c n h i j d L01 K Y6))∧(∃ M9:Int,∃ N9:World,(Builtin.max_ #[3,3] 3 [(Value.int .i64 z),(Value.int .i64 t)].toArray).run P w.drew.drew.drew=.ok (Value.int .i64 M9) N9∧∃ O9:Int,∃ Q9:World,(Builtin.min_ #[3,3] 3 [(Value.int .i64 L1),(Value.int .i64 L0)].toArray).run P N9=.ok (Value.int .i64 O9) Q9∧∃ R9:Array Value,(∀ wq,(Instr.build 173 [(0,(Value.int .i64 O9)),(1,(Value.int .i64 M9))].toArray).run P wq=.ok (Value.agg R9) wq)∧StA 2 c R9 Q9 (fun M01=>f107_s8 e f g k l m c n h i j d M01 K Y6)))∧(∃ S9:Int,∃ M1:World,(Builtin.max_ #[3,3] 3 [(Value.int .i64 z),(Value.int .i64 t)].toArray).run P w.drew.drew.drew=.ok (Value.int .i64 S9) M1∧∃ T9:Int,M1.cell? c=some (Value.int .i64 T9)∧∃ U9:Int,∃ V9:World,(Builtin.min_ #[3,3] 3 [(Value.int .i64 T9),(Value.int .i64 L0)].toArray).run P M1=.ok (Value.int .i64 U9) V9∧∃ W9:Array Value,(∀ wq,(Instr.build 173 [(0,(Value.int .i64 U9)),(1,(Value.int .i64 S9))].toArray).run P wq=.ok (Value.agg W9) wq)∧StA 2 c W9 V9 (fun N01=>f107_s8 e f g k l m c n h i j d N01 K Y6)))∧(∃ X9:Int,∃ M0:World,(Builtin.max_ #[3,3] 3 [(Value.int .i64 z),(Value.int .i64 t)].toArray).run P w.drew.drew.drew=.ok (Value.int .i64 X9) M0∧∃ Y9:Int,M0.cell? c=some (Value.int .i64 Y9)∧∃ Z9:Int,M0.cell? (o.add (Int.toNat d * 2))=some (Value.int .i64 Z9)∧∃ a00:Int,∃ b00:World,(Builtin.min_ #[3,3] 3 [(Value.int .i64 Y9),(Value.int .i64 Z9)].toArray).run P M0=.ok (Value.int .i64 a00) b00∧∃ c00:Array Value,(∀ wq,(Instr.build 173 [(0,(Value.int .i64 a00)),(1,(Value.int .i64 X9))].toArray).run P wq=.ok (Value.agg c00) wq)∧StA 2 c c00 b00 (fun O01=>f107_s8 e f g k l m c n h i j d O01 K Y6))))))))))):=Eq.trans (b:=CS P (cA c107 1001) none [7,0,5,3,6,4] [4,3,5,6] (f107_kl6 K Y6) (Env.mk 81 [(0,(VS e f g)),(3,(VP (some c))),(6,(VB n)),(4,(VS h i j)),(7,(VI d)),(5,(VS k l m))] []) w) (by kernel_rfl) (Eq.trans (CSs (cA c107 2002) (cA c107 2003) [0,5,3,6,4,7] (f107_k11 K Y6) (by kernel_rfl) (by kernel_rfl) (by kernel_rfl)) (Eq.trans (CSb 1 (cA c107 4004) [4,3,5,6,0,7] (f107_k12 K Y6) (by kernel_rfl) (by kernel_rfl) (by kernel_rfl)) (Eq.trans (CSs (cA c107 8008) (cA c107 8009) [28,0,3,6,4,7,5] (f107_k13 K Y6) (by kernel_rfl) (by kernel_rfl) (by kernel_rfl)) (by kernel_rfl))))
def f107_s10 (a:Addr) (b:Option Addr) (c d:Nat) (f:Bool) (w:World) (K:KT):Prop:=Join (fun e w=>CS P (cA c107 63) none [4] [4] (f107_kb K) e w) (Env.mk 81 [(3,(VP (some a))),(5,(VS b c d)),(6,(VB f))] []) w
abbrev f107_k18 (K:KT):Exit→YT:=kseq P (cA c107 126) (cA c107 127) none [4] [4] (f107_kb K)
abbrev f107_k19 (K:KT):Exit→YT:=kseq P (cA c107 252) (cA c107 253) none [5] [4] (f107_k18 K)
def f107_s11 (a:Option Addr) (b c:Nat) (w:World) (K:KT):Prop:=Join (fun e w=>CS P (cA c107 127) none [4] [4] (f107_kb K) e w) (Env.mk 81 [(5,(VS a b c))] []) w
abbrev f107_k20 (K:KT):Exit→YT:=kseq P (cA c107 254) (cA c107 255) none [4] [4] (f107_kb K)
theorem f107_s11_eq (c:Option Addr) (d e:Nat) (w:World) (K:KT):f107_s11 c d e w K=(K (Value.slice c d e) w):=Eq.trans (b:=CS P (cA c107 127) none [4] [4] (f107_kb K) (Env.mk 81 [(5,(VS c d e))] []) w) (by kernel_rfl) (Eq.trans (CSs (cA c107 254) (cA c107 255) [4] (f107_k20 K) (by kernel_rfl) (by kernel_rfl) (by kernel_rfl)) (by kernel_rfl))
theorem f107_s10_eq (f:Addr) (c:Option Addr) (d e:Nat) (g:Bool) (w:World) (K:KT):f107_s10 f c d e g w K=(BIf (!g) (LdA 2 f w (fun h=>sizesAre 2 [(Value.agg h)]∧NewC (([(Value.agg h)].map fun (v:Value)=>v.cells.toList).flatten.toArray) 173 w (fun m n=>∃ (i:Option Addr) (j k:Nat),∃ l:World,(Builtin.append_ #[169,169] 169 [(Value.slice c d e),(Value.slice (some (Addr.mk m 0 none)) 1 1)].toArray).run P n=.ok (Value.slice i j k) l∧f107_s11 i j k l K))) (f107_s11 c d e w K)):=Eq.trans (b:=CS P (cA c107 63) none [4] [4] (f107_kb K) (Env.mk 81 [(3,(VP (some f))),(5,(VS c d e)),(6,(VB g))] []) w) (by kernel_rfl) (Eq.trans (CSs (cA c107 126) (cA c107 127) [5] (f107_k18 K) (by kernel_rfl) (by kernel_rfl) (by kernel_rfl)) (Eq.trans (CSs (cA c107 252) (cA c107 253) [75,3,5] (f107_k19 K) (by kernel_rfl) (by kernel_rfl) (by kernel_rfl)) (by kernel_rfl)))
theorem f107_lb6_eq (c:Int) (d:Option Addr) (e f:Nat) (g:Option Addr) (h i:Nat) (j:Addr) (k:Bool) (l:Option Addr) (m n:Nat) (w:World) (K:KT) (Y6:YT):f107_lb6 c d e f g h i j k l m n w K Y6=(∃ o:Int,(∀ wq,Ext w wq→(Builtin.len_ #[169] 3 [(Value.slice d e f)].toArray).run P wq=.ok (Value.int .i64 o) wq)∧BIf (decide ((c:Int) < o)) (f107_s7 d e f j k l m n c g h i w K Y6) (f107_s10 j g h i k w K)):=Eq.trans (b:=CS P (cA c107 500) none [7,0,5,3,6,4] [4,3,5,6] (f107_kl6 K Y6) (Env.mk 81 [(7,(VI c)),(0,(VS d e f)),(5,(VS g h i)),(3,(VP (some j))),(6,(VB k)),(4,(VS l m n))] []) w) (by kernel_rfl) (Eq.trans (CSs (cA c107 1000) (cA c107 1001) [0,3,6,4,7,5] (f107_k9 K Y6) (by kernel_rfl) (by kernel_rfl) (by kernel_rfl)) (Eq.trans (CSs (cA c107 2000) (cA c107 2001) [18,0,3,6,4,7,5] (f107_k10 K Y6) (by kernel_rfl) (by kernel_rfl) (by kernel_rfl)) (by kernel_rfl)))
theorem f107_s5_eq (a:Int) (c:Option Addr) (d e:Nat) (m:Option Addr) (n o:Nat) (f:Option Addr) (g h:Nat) (i:Addr) (j:Option Addr) (k l:Nat) (w:World) (K:KT):f107_s5 a c d e m n o f g h i j k l w K=(LoopE (f107_lp6 K) (Env.mk 81 [(7,(Value.int .i64 a)),(0,(Value.slice f g h)),(5,(Value.slice c d e)),(3,(Value.pointer (some i))),(6,(Value.bool false)),(4,(Value.slice j k l))] []) w):=Eq.trans (b:=CS P (cA c107 125) none [3,5,6] [4] (f107_k6 K) (Env.mk 81 [(7,(VI a)),(6,(VB false)),(5,(VS c d e)),(14,(VS m n o)),(0,(VS f g h)),(3,(VP (some i))),(4,(VS j k l))] []) w) (by kernel_rfl) (Eq.trans (CSb 0 (cA c107 250) [4,3,5,6] (f107_k8 K) (by kernel_rfl) (by kernel_rfl) (by kernel_rfl)) ((CS_loop' (b:=(cA c107 500)) (X':=[4,3,5,6]) (H:=[7,0,5,3,6,4]) (by kernel_rfl) (by kernel_rfl) (by kernel_rfl)).trans (by kernel_rfl)))
theorem f107_s4_eq (c:Option Addr) (d e:Nat) (f:Option Addr) (g h:Nat) (i:Option Addr) (j k:Nat) (l:Addr) (m:Option Addr) (n o:Nat) (w:World) (K:KT):f107_s4 c d e f g h i j k l m n o w K=(f107_s5 0 c d e f g h i j k l m n o w K):=Eq.trans (b:=CS P (cA c107 31) none [4] [4] (f107_kb K) (Env.mk 81 [(6,(VB false)),(5,(VS c d e)),(14,(VS f g h)),(0,(VS i j k)),(3,(VP (some l))),(4,(VS m n o))] []) w) (by kernel_rfl) (Eq.trans (CSs (cA c107 62) (cA c107 63) [3,5,6] (f107_k6 K) (by kernel_rfl) (by kernel_rfl) (by kernel_rfl)) (Eq.trans (CSs (cA c107 124) (cA c107 125) [7,0,5,3,6,4] (f107_k7 K) (by kernel_rfl) (by kernel_rfl) (by kernel_rfl)) (by kernel_rfl)))
theorem f107_s3_eq (c:Option Addr) (d e:Nat) (f:Option Addr) (g h:Nat) (i:Option Addr) (j k:Nat) (l:Addr) (m:Option Addr) (n o:Nat) (w:World) (K:KT):f107_s3 c d e f g h i j k l m n o w K=(f107_s4 c d e f g h i j k l m n o w K):=Eq.trans (b:=CS P (cA c107 15) none [4] [4] (f107_kb K) (Env.mk 81 [(5,(VS c d e)),(14,(VS f g h)),(0,(VS i j k)),(3,(VP (some l))),(4,(VS m n o))] []) w) (by kernel_rfl) (Eq.trans (CSs (cA c107 30) (cA c107 31) [0,5,3,6,4] (f107_k5 K) (by kernel_rfl) (by kernel_rfl) (by kernel_rfl)) (by kernel_rfl))
theorem f107_s2_eq (c:Option Addr) (d e:Nat) (f:Addr) (g:Option Addr) (h i:Nat) (w:World) (K:KT):f107_s2 c d e f g h i w K=(∃ (j:Option Addr) (k l:Nat),∃ m:World,(Instr.buildSlice 169 0 ([]:List (Nat × Value)).toArray).run P w=.ok (Value.slice j k l) m∧f107_s3 j k l j k l c d e f g h i m K):=Eq.trans (b:=CS P (cA c107 7) none [4] [4] (f107_kb K) (Env.mk 81 [(0,(VS c d e)),(3,(VP (some f))),(4,(VS g h i))] []) w) (by kernel_rfl) (Eq.trans (CSs (cA c107 14) (cA c107 15) [0,5,3,4] (f107_k4 K) (by kernel_rfl) (by kernel_rfl) (by kernel_rfl)) (by kernel_rfl))
theorem f107_s1_eq (g:Option Addr) (h i:Nat) (c:Addr) (d:Option Addr) (e f:Nat) (j:Array Value) (w:World) (K:KT):f107_s1 g h i c d e f j w K=(∃ k:Int,w.cell? c=some (Value.int .i64 k)∧∃ l:Int,w.cell? (c.add 1)=some (Value.int .i64 l)∧BIf (decide ((k:Int)≥l)) (K (Value.slice d e f) w) (f107_s2 d e f c g h i w K)):=Eq.trans (b:=CS P (cA c107 3) none [4] [4] (f107_kb K) (Env.mk 81 [(4,(VS g h i)),(3,(VP (some c))),(0,(VS d e f)),(1,(Value.agg j))] []) w) (by kernel_rfl) (Eq.trans (CSs (cA c107 6) (cA c107 7) [0,3,4] (f107_k1 K) (by kernel_rfl) (by kernel_rfl) (by kernel_rfl)) (Eq.trans (CSs (cA c107 12) (cA c107 13) [12,0,3,4] (f107_k2 K) (by kernel_rfl) (by kernel_rfl) (by kernel_rfl)) (by kernel_rfl)))
theorem f107_s0_eq (d:Option Addr) (e f:Nat) (c:Array Value) (w:World) (K:KT):f107_s0 d e f c w K=(NewC c 173 w (fun g h=>f107_s1 none 0 0 (Addr.mk g 0 none) d e f c h K)):=Eq.trans (b:=CS P (cA c107 1) none [4] [4] (f107_kb K) (Env.mk 81 [(0,(VS d e f)),(1,(Value.agg c))] []) w) (by kernel_rfl) (Eq.trans (CSs (cA c107 2) (cA c107 3) [0,3,4] (f107_k0 K) (by kernel_rfl) (by kernel_rfl) (by kernel_rfl)) (by kernel_rfl))
theorem f107_eq (a:Option Addr) (b c:Nat) (d:Array Value) (w:World) (K:KT):f107 a b c d w K=(f107_s0 a b c d w K):=by kernel_rfl
theorem c107_eq:Go.Proofs.Try.f107.body=some c107:=by kernel_rfl
theorem f107_un (a:Option Addr) (b c:Nat) (d:Array Value) (w:World) (K:KT):f107 a b c d w K=CS P c107 none (resT Go.Proofs.Try.f107.results.toList) (resT Go.Proofs.Try.f107.results.toList) (bodyK P Go.Proofs.Try.f107.results.toList K) (env0 Go.Proofs.Try.f107.ntmps [(Value.slice a b c),(Value.agg d)]) w:=by kernel_rfl
theorem f107_ok (a:Option Addr) (b c:Nat) (d:Array Value) (w:World) (K:KT) (h:f107 a b c d w K):CallL P 107 [(Value.slice a b c),(Value.agg d)] w K:=calls_of_CS Go.Proofs.Try.func107 c107_eq (Eq.mp (f107_un a b c d w K) h)
noncomputable def c86:Code:=match Go.Proofs.Try.f86.body with
 | some c=>c
 | none=>.skip
noncomputable def rs86:List ResultVar:=Go.Proofs.Try.f86.results.toList
abbrev f86_kb (K:KT):Exit→YT:=bodyK P rs86 K
def f86 (a:Option Addr) (b c:Nat) (w:World) (K:KT):Prop:=CS P c86 none [2] [2] (f86_kb K) (env0 44 [(VS a b c)]) w
def f86_s0 (a:Option Addr) (b c:Nat) (w:World) (K:KT):Prop:=CS P (cA c86 1) none [2] [2] (f86_kb K) (Env.mk 44 [(0,(VS a b c))] []) w
abbrev f86_k0 (K:KT):Exit→YT:=kseq P (cA c86 2) (cA c86 3) none [2] [2] (f86_kb K)
def f86_s1 (a:Option Addr) (b c:Nat) (d:Option Addr) (e f:Nat) (w:World) (K:KT):Prop:=CS P (cA c86 3) none [2] [2] (f86_kb K) (Env.mk 44 [(2,(VS a b c)),(0,(VS d e f))] []) w
abbrev f86_k1 (K:KT):Exit→YT:=kseq P (cA c86 6) (cA c86 7) none [2] [2] (f86_kb K)
def f86_s2 (a:Option Addr) (b c:Nat) (d:Option Addr) (e f:Nat) (g:Option Addr) (h i:Nat) (j:Option Addr) (k l:Nat) (w:World) (K:KT):Prop:=CS P (cA c86 7) none [2] [2] (f86_kb K) (Env.mk 44 [(3,(VS a b c)),(7,(VS d e f)),(2,(VS g h i)),(0,(VS j k l))] []) w
abbrev f86_k2 (K:KT):Exit→YT:=kseq P (cA c86 14) (cA c86 15) none [2] [2] (f86_kb K)
abbrev f86_k3 (K:KT):Exit→YT:=kseq P (cA c86 28) (cA c86 29) none [3] [2] (f86_k2 K)
def f86_s3 (a:Int) (b:Option Addr) (c d:Nat) (e:Option Addr) (f g:Nat) (h:Option Addr) (i j:Nat) (k:Option Addr) (l m:Nat) (w:World) (K:KT):Prop:=CS P (cA c86 29) none [3] [2] (f86_k2 K) (Env.mk 44 [(4,(VI a)),(3,(VS b c d)),(7,(VS e f g)),(2,(VS h i j)),(0,(VS k l m))] []) w
abbrev f86_k4 (K:KT):Exit→YT:=kblock 0 (f86_k2 K)
def f86_lp4 (K:KT) (Y4:YT) (e:Env) (w:World):Prop:=Join (fun e w=>CS P (cA c86 116) none [4,3,0,2] [2,3] (kloop [4,3,0,2] Y4 (f86_k4 K)) e w) e w
abbrev f86_kl4 (K:KT) (Y4:YT):Exit→YT:=kloop [4,3,0,2] Y4 (f86_k4 K)
def f86_lb4 (a:Int) (b:Option Addr) (c d:Nat) (f:Option Addr) (g h:Nat) (i:Option Addr) (j k:Nat) (w:World) (K:KT) (Y4:YT):Prop:=Join (fun e w=>CS P (cA c86 116) none [4,3,0,2] [2,3] (f86_kl4 K Y4) e w) (Env.mk 44 [(4,(VI a)),(3,(VS b c d)),(0,(VS f g h)),(2,(VS i j k))] []) w
abbrev f86_k5 (K:KT) (Y4:YT):Exit→YT:=kseq P (cA c86 232) (cA c86 233) none [4,3,0,2] [2,3] (f86_kl4 K Y4)
abbrev f86_k6 (K:KT) (Y4:YT):Exit→YT:=kseq P (cA c86 464) (cA c86 465) none [0,2,4,3] [2,3] (f86_k5 K Y4)
def f86_s5 (a:Option Addr) (b c:Nat) (d:Option Addr) (f g:Nat) (h:Int) (i:Option Addr) (j k:Nat) (w:World) (K:KT) (Y4:YT):Prop:=Join (fun e w=>CS P (cA c86 233) none [4,3,0,2] [2,3] (f86_kl4 K Y4) e w) (Env.mk 44 [(0,(VS a b c)),(2,(VS d f g)),(4,(VI h)),(3,(VS i j k))] []) w
abbrev f86_k7 (K:KT) (Y4:YT):Exit→YT:=kseq P (cA c86 466) (cA c86 467) none [4,3,0,2] [2,3] (f86_kl4 K Y4)
abbrev f86_k8 (K:KT) (Y4:YT):Exit→YT:=kblock 1 (f86_k7 K Y4)
abbrev f86_k9 (K:KT) (Y4:YT):Exit→YT:=kseq P (cA c86 1864) (cA c86 1865) none [3,0,2,4] [2,3,0,4] (f86_k8 K Y4)
def f86_s6 (a:Option Addr) (b c:Nat) (d:Option Addr) (f g:Nat) (h:Option Addr) (i j:Nat) (k:Int) (w:World) (K:KT) (Y4:YT):Prop:=Join (fun e w=>CS P (cA c86 467) none [4,3,0,2] [2,3] (f86_kl4 K Y4) e w) (Env.mk 44 [(3,(VS a b c)),(0,(VS d f g)),(2,(VS h i j)),(4,(VI k))] []) w
theorem f86_s6_eq (a:Option Addr) (c d:Nat) (e:Option Addr) (f g:Nat) (h:Option Addr) (i j:Nat) (k:Int) (w:World) (K:KT) (Y4:YT):f86_s6 a c d e f g h i j k w K Y4=(Y4 (Env.mk 44 [(4,(Value.int .i64 (IntKind.wrap .i64 ((k:Int)+1)))),(3,(Value.slice a c d)),(0,(Value.slice e f g)),(2,(Value.slice h i j))] []) w):=Eq.trans (b:=CS P (cA c86 467) none [4,3,0,2] [2,3] (f86_kl4 K Y4) (Env.mk 44 [(3,(VS a c d)),(0,(VS e f g)),(2,(VS h i j)),(4,(VI k))] []) w) (by kernel_rfl) (by kernel_rfl)
theorem f86_s5_eq (d:Option Addr) (e f:Nat) (g:Option Addr) (h i:Nat) (c:Int) (j:Option Addr) (k l:Nat) (w:World) (K:KT) (Y4:YT):f86_s5 d e f g h i c j k l w K Y4=(optS d (fun b0=>0≤(c:Int)∧(c:Int) < (e:Nat)∧LdA 6 (b0.add (Int.toNat c * 6)) w (fun c0=>CallL P 106 [(Value.agg c0)] w (fun d0 m=>∃ p:Bool,d0=(Value.bool p)∧BIf p (optS d (fun e0=>0≤(c:Int)∧(c:Int) < (e:Nat)∧∃ n:Int,m.cell? ((e0.add (Int.toNat c * 6)).add 3)=some (Value.int .u32 n)∧optS d (fun f0=>0≤(c:Int)∧(c:Int) < (e:Nat)∧∃ o:Int,m.cell? ((f0.add (Int.toNat c * 6)).add 5)=some (Value.int .i64 o)∧∃ q:Int,∃ r:World,(Builtin.min_ #[3,3] 3 [(Value.int .i64 (IntKind.wrap .i64 (((IntKind.wrap .i64 n):Int)+o))),(Value.int .i64 4294967296)].toArray).run P m=.ok (Value.int .i64 q) r∧∃ s:Array Value,(∀ wq,(Instr.build 173 [(0,(Value.int .i64 (IntKind.wrap .i64 n))),(1,(Value.int .i64 q))].toArray).run P wq=.ok (Value.agg s) wq)∧CallL P 107 [(Value.slice j k l),(Value.agg s)] r (fun g0 h0=>∃ (t:Option Addr) (u v:Nat),g0=(Value.slice t u v)∧∃ x:Array Value,(∀ wq,(Instr.build 173 [(0,(Value.int .i64 0)),(1,(Value.int .i64 (IntKind.wrap .i64 (((IntKind.wrap .i64 (((IntKind.wrap .i64 n):Int)+o)):Int) - 4294967296))))].toArray).run P wq=.ok (Value.agg x) wq)∧CallL P 107 [(Value.slice t u v),(Value.agg x)] h0 (fun i0 j0=>∃ (y:Option Addr) (z a0:Nat),i0=(Value.slice y z a0)∧f86_s6 y z a0 d e f g h i c j0 K Y4))))) (f86_s6 j k l d e f g h i c m K Y4))))):=Eq.trans (b:=CS P (cA c86 233) none [4,3,0,2] [2,3] (f86_kl4 K Y4) (Env.mk 44 [(0,(VS d e f)),(2,(VS g h i)),(4,(VI c)),(3,(VS j k l))] []) w) (by kernel_rfl) (Eq.trans (CSs (cA c86 466) (cA c86 467) [3,0,2,4] (f86_k7 K Y4) (by kernel_rfl) (by kernel_rfl) (by kernel_rfl)) (Eq.trans (CSb 1 (cA c86 932) [2,3,0,4] (f86_k8 K Y4) (by kernel_rfl) (by kernel_rfl) (by kernel_rfl)) (Eq.trans (CSs (cA c86 1864) (cA c86 1865) [18,0,2,4,3] (f86_k9 K Y4) (by kernel_rfl) (by kernel_rfl) (by kernel_rfl)) (by kernel_rfl))))
def f86_s7 (a:Option Addr) (b c:Nat) (w:World) (K:KT):Prop:=Join (fun e w=>CS P (cA c86 15) none [2] [2] (f86_kb K) e w) (Env.mk 44 [(3,(VS a b c))] []) w
abbrev f86_k13 (K:KT):Exit→YT:=kseq P (cA c86 30) (cA c86 31) none [2] [2] (f86_kb K)
theorem f86_s7_eq (c:Option Addr) (d e:Nat) (w:World) (K:KT):f86_s7 c d e w K=(K (Value.slice c d e) w):=Eq.trans (b:=CS P (cA c86 15) none [2] [2] (f86_kb K) (Env.mk 44 [(3,(VS c d e))] []) w) (by kernel_rfl) (Eq.trans (CSs (cA c86 30) (cA c86 31) [2] (f86_k13 K) (by kernel_rfl) (by kernel_rfl) (by kernel_rfl)) (by kernel_rfl))
theorem f86_lb4_eq (c:Int) (d:Option Addr) (e f:Nat) (g:Option Addr) (h i:Nat) (j:Option Addr) (k l:Nat) (w:World) (K:KT) (Y4:YT):f86_lb4 c d e f g h i j k l w K Y4=(∃ m:Int,(∀ wq,Ext w wq→(Builtin.len_ #[22] 3 [(Value.slice g h i)].toArray).run P wq=.ok (Value.int .i64 m) wq)∧BIf (decide ((c:Int) < m)) (f86_s5 g h i j k l c d e f w K Y4) (f86_s7 d e f w K)):=Eq.trans (b:=CS P (cA c86 116) none [4,3,0,2] [2,3] (f86_kl4 K Y4) (Env.mk 44 [(4,(VI c)),(3,(VS d e f)),(0,(VS g h i)),(2,(VS j k l))] []) w) (by kernel_rfl) (Eq.trans (CSs (cA c86 232) (cA c86 233) [0,2,4,3] (f86_k5 K Y4) (by kernel_rfl) (by kernel_rfl) (by kernel_rfl)) (Eq.trans (CSs (cA c86 464) (cA c86 465) [11,0,2,4,3] (f86_k6 K Y4) (by kernel_rfl) (by kernel_rfl) (by kernel_rfl)) (by kernel_rfl)))
theorem f86_s3_eq (a:Int) (c:Option Addr) (d e:Nat) (l:Option Addr) (m n:Nat) (f:Option Addr) (g h:Nat) (i:Option Addr) (j k:Nat) (w:World) (K:KT):f86_s3 a c d e l m n f g h i j k w K=(LoopE (f86_lp4 K) (Env.mk 44 [(4,(Value.int .i64 a)),(3,(Value.slice c d e)),(0,(Value.slice i j k)),(2,(Value.slice f g h))] []) w):=Eq.trans (b:=CS P (cA c86 29) none [3] [2] (f86_k2 K) (Env.mk 44 [(4,(VI a)),(3,(VS c d e)),(7,(VS l m n)),(2,(VS f g h)),(0,(VS i j k))] []) w) (by kernel_rfl) (Eq.trans (CSb 0 (cA c86 58) [2,3] (f86_k4 K) (by kernel_rfl) (by kernel_rfl) (by kernel_rfl)) ((CS_loop' (b:=(cA c86 116)) (X':=[2,3]) (H:=[4,3,0,2]) (by kernel_rfl) (by kernel_rfl) (by kernel_rfl)).trans (by kernel_rfl)))
theorem f86_s2_eq (c:Option Addr) (d e:Nat) (f:Option Addr) (g h:Nat) (i:Option Addr) (j k:Nat) (l:Option Addr) (m n:Nat) (w:World) (K:KT):f86_s2 c d e f g h i j k l m n w K=(f86_s3 0 c d e f g h i j k l m n w K):=Eq.trans (b:=CS P (cA c86 7) none [2] [2] (f86_kb K) (Env.mk 44 [(3,(VS c d e)),(7,(VS f g h)),(2,(VS i j k)),(0,(VS l m n))] []) w) (by kernel_rfl) (Eq.trans (CSs (cA c86 14) (cA c86 15) [3] (f86_k2 K) (by kernel_rfl) (by kernel_rfl) (by kernel_rfl)) (Eq.trans (CSs (cA c86 28) (cA c86 29) [4,3,0,2] (f86_k3 K) (by kernel_rfl) (by kernel_rfl) (by kernel_rfl)) (by kernel_rfl)))
theorem f86_s1_eq (c:Option Addr) (d e:Nat) (f:Option Addr) (g h:Nat) (w:World) (K:KT):f86_s1 c d e f g h w K=(∃ (i:Option Addr) (j k:Nat),∃ l:World,(Instr.buildSlice 169 0 ([]:List (Nat × Value)).toArray).run P w=.ok (Value.slice i j k) l∧f86_s2 i j k i j k c d e f g h l K):=Eq.trans (b:=CS P (cA c86 3) none [2] [2] (f86_kb K) (Env.mk 44 [(2,(VS c d e)),(0,(VS f g h))] []) w) (by kernel_rfl) (Eq.trans (CSs (cA c86 6) (cA c86 7) [3,0,2] (f86_k1 K) (by kernel_rfl) (by kernel_rfl) (by kernel_rfl)) (by kernel_rfl))
theorem f86_s0_eq (c:Option Addr) (d e:Nat) (w:World) (K:KT):f86_s0 c d e w K=(f86_s1 none 0 0 c d e w K):=Eq.trans (b:=CS P (cA c86 1) none [2] [2] (f86_kb K) (Env.mk 44 [(0,(VS c d e))] []) w) (by kernel_rfl) (Eq.trans (CSs (cA c86 2) (cA c86 3) [0,2] (f86_k0 K) (by kernel_rfl) (by kernel_rfl) (by kernel_rfl)) (by kernel_rfl))
theorem f86_eq (a:Option Addr) (b c:Nat) (w:World) (K:KT):f86 a b c w K=(f86_s0 a b c w K):=by kernel_rfl
theorem c86_eq:Go.Proofs.Try.f86.body=some c86:=by kernel_rfl
theorem f86_un (a:Option Addr) (b c:Nat) (w:World) (K:KT):f86 a b c w K=CS P c86 none (resT Go.Proofs.Try.f86.results.toList) (resT Go.Proofs.Try.f86.results.toList) (bodyK P Go.Proofs.Try.f86.results.toList K) (env0 Go.Proofs.Try.f86.ntmps [(Value.slice a b c)]) w:=by kernel_rfl
theorem f86_ok (a:Option Addr) (b c:Nat) (w:World) (K:KT) (h:f86 a b c w K):CallL P 86 [(Value.slice a b c)] w K:=calls_of_CS Go.Proofs.Try.func86 c86_eq (Eq.mp (f86_un a b c w K) h)
noncomputable def c87:Code:=match Go.Proofs.Try.f87.body with
 | some c=>c
 | none=>.skip
noncomputable def rs87:List ResultVar:=Go.Proofs.Try.f87.results.toList
abbrev f87_kb (K:KT):Exit→YT:=bodyK P rs87 K
def f87 (a:Option Addr) (b c:Nat) (w:World) (K:KT):Prop:=CS P c87 none [2] [2] (f87_kb K) (env0 25 [(VS a b c)]) w
abbrev f87_k2 (K:KT):Exit→YT:=kseq P (cA c87 14) (cA c87 15) none [2] [2] (f87_kb K)
abbrev f87_k4 (K:KT):Exit→YT:=kblock 0 (f87_k2 K)
def f87_lp0 (K:KT) (Y0:YT) (e:Env) (w:World):Prop:=Join (fun e w=>CS P (cA c87 116) none [4,0,3,2] [2,3] (kloop [4,0,3,2] Y0 (f87_k4 K)) e w) e w
abbrev f87_kl0 (K:KT) (Y0:YT):Exit→YT:=kloop [4,0,3,2] Y0 (f87_k4 K)
def f87_lb0 (a:Int) (b:Option Addr) (c d:Nat) (f g:Int) (w:World) (K:KT) (Y0:YT):Prop:=Join (fun e w=>CS P (cA c87 116) none [4,0,3,2] [2,3] (f87_kl0 K Y0) e w) (Env.mk 25 [(4,(VI a)),(0,(VS b c d)),(3,(VI f)),(2,(VI g))] []) w
def f87_s1 (a:Option Addr) (b c:Nat) (d f g:Int) (w:World) (K:KT) (Y0:YT):Prop:=Join (fun e w=>CS P (cA c87 233) none [4,0,3,2] [2,3] (f87_kl0 K Y0) e w) (Env.mk 25 [(0,(VS a b c)),(2,(VI d)),(4,(VI f)),(3,(VI g))] []) w
def f87_s2 (a:Option Addr) (b c:Nat) (d f g:Int) (w:World) (K:KT) (Y0:YT):Prop:=Join (fun e w=>CS P (cA c87 467) none [4,0,3,2] [2,3] (f87_kl0 K Y0) e w) (Env.mk 25 [(0,(VS a b c)),(3,(VI d)),(2,(VI f)),(4,(VI g))] []) w
theorem f87_s2_eq (a:Option Addr) (b c:Nat) (d e f:Int) (w:World) (K:KT) (Y0:YT):f87_s2 a b c d e f w K Y0=(Y0 (Env.mk 25 [(4,(Value.int .i64 (IntKind.wrap .i64 ((f:Int)+1)))),(0,(Value.slice a b c)),(3,(Value.int .i64 d)),(2,(Value.int .i64 e))] []) w):=by kernel_rfl
theorem f87_s1_eq (b:Option Addr) (c d:Nat) (e a f:Int) (w:World) (K:KT) (Y0:YT):f87_s1 b c d e a f w K Y0=(optS b (fun i=>0≤(a:Int)∧(a:Int) < (c:Nat)∧optS b (fun j=>0≤(a:Int)∧(a:Int) < (c:Nat)∧∃ g:Int,w.drew.cell? ((i.add (Int.toNat a * 2)).add 1)=some (Value.int .i64 g)∧∃ h:Int,w.drew.cell? (j.add (Int.toNat a * 2))=some (Value.int .i64 h)∧f87_s2 b c d (IntKind.wrap .i64 ((f:Int)+(IntKind.wrap .i64 ((g:Int) - h)))) e a w.drew K Y0))):=by kernel_rfl
def f87_s3 (a:Int) (w:World) (K:KT):Prop:=Join (fun e w=>CS P (cA c87 15) none [2] [2] (f87_kb K) e w) (Env.mk 25 [(3,(VI a))] []) w
theorem f87_s3_eq (a:Int) (w:World) (K:KT):f87_s3 a w K=(K (Value.int .i64 a) w):=by kernel_rfl
theorem f87_lb0_eq (a:Int) (b:Option Addr) (c d:Nat) (e f:Int) (w:World) (K:KT) (Y0:YT):f87_lb0 a b c d e f w K Y0=(∃ g:Int,(∀ wq,Ext w wq→(Builtin.len_ #[169] 3 [(Value.slice b c d)].toArray).run P wq=.ok (Value.int .i64 g) wq)∧BIf (decide ((a:Int) < g)) (f87_s1 b c d f a e w K Y0) (f87_s3 e w K)):=by kernel_rfl
theorem f87_eq (a:Option Addr) (b c:Nat) (w:World) (K:KT):f87 a b c w K=(LoopE (f87_lp0 K) (Env.mk 25 [(4,(Value.int .i64 0)),(0,(Value.slice a b c)),(3,(Value.int .i64 0)),(2,(Value.int .i64 0))] []) w):=by kernel_rfl
theorem c87_eq:Go.Proofs.Try.f87.body=some c87:=by kernel_rfl
theorem f87_un (a:Option Addr) (b c:Nat) (w:World) (K:KT):f87 a b c w K=CS P c87 none (resT Go.Proofs.Try.f87.results.toList) (resT Go.Proofs.Try.f87.results.toList) (bodyK P Go.Proofs.Try.f87.results.toList K) (env0 Go.Proofs.Try.f87.ntmps [(Value.slice a b c)]) w:=by kernel_rfl
theorem f87_ok (a:Option Addr) (b c:Nat) (w:World) (K:KT) (h:f87 a b c w K):CallL P 87 [(Value.slice a b c)] w K:=calls_of_CS Go.Proofs.Try.func87 c87_eq (Eq.mp (f87_un a b c w K) h)
noncomputable def c55:Code:=match Go.Proofs.Try.f55.body with
 | some c=>c
 | none=>.skip
noncomputable def rs55:List ResultVar:=Go.Proofs.Try.f55.results.toList
abbrev f55_kb (K:KT):Exit→YT:=bodyK P rs55 K
def f55 (a:Option Addr) (b c:Nat) (w:World) (K:KT):Prop:=CS P c55 none [2,3] [2,3] (f55_kb K) (env0 47 [(VS a b c)]) w
def f55_s0 (a:Option Addr) (b c:Nat) (w:World) (K:KT):Prop:=CS P (cA c55 1) none [2,3] [2,3] (f55_kb K) (Env.mk 47 [(0,(VS a b c))] []) w
abbrev f55_k0 (K:KT):Exit→YT:=kseq P (cA c55 2) (cA c55 3) none [2,3] [2,3] (f55_kb K)
def f55_s1 (a:Int) (b:Option Addr) (c d:Nat) (e:Option Addr) (f g:Nat) (w:World) (K:KT):Prop:=CS P (cA c55 3) none [2,3] [2,3] (f55_kb K) (Env.mk 47 [(3,(VI a)),(2,(VS b c d)),(0,(VS e f g))] []) w
abbrev f55_k1 (K:KT):Exit→YT:=kseq P (cA c55 6) (cA c55 7) none [2,3] [2,3] (f55_kb K)
abbrev f55_k2 (K:KT):Exit→YT:=kseq P (cA c55 12) (cA c55 13) none [2,3,0] [2,3] (f55_k1 K)
def f55_s2 (a:Option Addr) (b c:Nat) (d:Int) (f:Option Addr) (g h:Nat) (w:World) (K:KT):Prop:=Join (fun e w=>CS P (cA c55 7) none [2,3] [2,3] (f55_kb K) e w) (Env.mk 47 [(2,(VS a b c)),(3,(VI d)),(0,(VS f g h))] []) w
abbrev f55_k5 (K:KT):Exit→YT:=kseq P (cA c55 14) (cA c55 15) none [2,3] [2,3] (f55_kb K)
def f55_s3 (a:Option Addr) (b c:Nat) (d:Option Addr) (e f:Nat) (g:Option Addr) (h i:Nat) (j:Option Addr) (k l:Nat) (m:Int) (n:Option Addr) (o p:Nat) (w:World) (K:KT):Prop:=CS P (cA c55 15) none [2,3] [2,3] (f55_kb K) (Env.mk 47 [(5,(VS a b c)),(16,(VS d e f)),(15,(VS g h i)),(2,(VS j k l)),(3,(VI m)),(0,(VS n o p))] []) w
abbrev f55_k6 (K:KT):Exit→YT:=kseq P (cA c55 30) (cA c55 31) none [2,3] [2,3] (f55_kb K)
abbrev f55_k7 (K:KT):Exit→YT:=kseq P (cA c55 60) (cA c55 61) none [2,3,5] [2,3] (f55_k6 K)
def f55_s4 (a:Option Addr) (b c:Nat) (d:Int) (f:Option Addr) (g h:Nat) (w:World) (K:KT):Prop:=Join (fun e w=>CS P (cA c55 31) none [2,3] [2,3] (f55_kb K) e w) (Env.mk 47 [(2,(VS a b c)),(3,(VI d)),(5,(VS f g h))] []) w
abbrev f55_k9 (K:KT):Exit→YT:=kseq P (cA c55 62) (cA c55 63) none [2,3] [2,3] (f55_kb K)
def f55_s5 (a:Option Addr) (b c:Nat) (d:Option Addr) (e f:Nat) (g:Option Addr) (h i:Nat) (j:Int) (k:Option Addr) (l m:Nat) (w:World) (K:KT):Prop:=CS P (cA c55 63) none [2,3] [2,3] (f55_kb K) (Env.mk 47 [(6,(VS a b c)),(20,(VS d e f)),(2,(VS g h i)),(3,(VI j)),(5,(VS k l m))] []) w
abbrev f55_k10 (K:KT):Exit→YT:=kseq P (cA c55 126) (cA c55 127) none [2,3] [2,3] (f55_kb K)
abbrev f55_k11 (K:KT):Exit→YT:=kseq P (cA c55 252) (cA c55 253) none [6] [2,3] (f55_k10 K)
def f55_s6 (a:Int) (b:Option Addr) (c d:Nat) (e:Option Addr) (f g:Nat) (h:Option Addr) (i j:Nat) (k:Int) (l:Option Addr) (m n:Nat) (w:World) (K:KT):Prop:=CS P (cA c55 253) none [6] [2,3] (f55_k10 K) (Env.mk 47 [(7,(VI a)),(6,(VS b c d)),(20,(VS e f g)),(2,(VS h i j)),(3,(VI k)),(5,(VS l m n))] []) w
abbrev f55_k12 (K:KT):Exit→YT:=kblock 0 (f55_k10 K)
def f55_lp7 (K:KT) (Y7:YT) (e:Env) (w:World):Prop:=Join (fun e w=>CS P (cA c55 1012) none [6,2,3,7,5] [2,3,6] (kloop [6,2,3,7,5] Y7 (f55_k12 K)) e w) e w
abbrev f55_kl7 (K:KT) (Y7:YT):Exit→YT:=kloop [6,2,3,7,5] Y7 (f55_k12 K)
def f55_lb7 (a:Option Addr) (b c:Nat) (d:Option Addr) (f g:Nat) (h i:Int) (j:Option Addr) (k l:Nat) (w:World) (K:KT) (Y7:YT):Prop:=Join (fun e w=>CS P (cA c55 1012) none [6,2,3,7,5] [2,3,6] (f55_kl7 K Y7) e w) (Env.mk 47 [(6,(VS a b c)),(2,(VS d f g)),(3,(VI h)),(7,(VI i)),(5,(VS j k l))] []) w
abbrev f55_k13 (K:KT) (Y7:YT):Exit→YT:=kseq P (cA c55 2024) (cA c55 2025) none [6,2,3,7,5] [2,3,6] (f55_kl7 K Y7)
abbrev f55_k14 (K:KT) (Y7:YT):Exit→YT:=kseq P (cA c55 4048) (cA c55 4049) none [6,2,3,5,7] [2,3,6] (f55_k13 K Y7)
def f55_s8 (a:Option Addr) (b c:Nat) (d:Option Addr) (f g:Nat) (h:Int) (i:Option Addr) (j k:Nat) (l:Int) (w:World) (K:KT) (Y7:YT):Prop:=Join (fun e w=>CS P (cA c55 2025) none [6,2,3,7,5] [2,3,6] (f55_kl7 K Y7) e w) (Env.mk 47 [(6,(VS a b c)),(2,(VS d f g)),(3,(VI h)),(5,(VS i j k)),(7,(VI l))] []) w
abbrev f55_k15 (K:KT) (Y7:YT):Exit→YT:=kseq P (cA c55 4050) (cA c55 4051) none [6,2,3,7,5] [2,3,6] (f55_kl7 K Y7)
abbrev f55_k16 (K:KT) (Y7:YT):Exit→YT:=kblock 1 (f55_k15 K Y7)
abbrev f55_k17 (K:KT) (Y7:YT):Exit→YT:=kseq P (cA c55 16200) (cA c55 16201) none [6,2,3,5,7] [2,3,6,5,7] (f55_k16 K Y7)
def f55_s9 (a b:Int) (c d:Addr) (e:Int) (f:Option Addr) (g h:Nat) (i:Option Addr) (j k:Nat) (l:Option Addr) (m n:Nat) (o:Int) (p:Option Addr) (q r:Nat) (s:Int) (w:World) (K:KT) (Y7:YT):Prop:=CS P (cA c55 16201) none [6,2,3,5,7] [2,3,6,5,7] (f55_k16 K Y7) (Env.mk 47 [(8,(VI a)),(31,(VI b)),(30,(VP (some c))),(29,(VP (some d))),(28,(VI e)),(27,(VS f g h)),(6,(VS i j k)),(2,(VS l m n)),(3,(VI o)),(5,(VS p q r)),(7,(VI s))] []) w
abbrev f55_k18 (K:KT) (Y7:YT):Exit→YT:=kblock 2 (f55_k16 K Y7)
def f55_lp10 (K:KT) (Y7 Y10:YT) (e:Env) (w:World):Prop:=Join (fun e w=>CS P (cA c55 64804) none [8,6,2,3,5,7] [2,3,6,5,7] (kloop [8,6,2,3,5,7] Y10 (f55_k18 K Y7)) e w) e w
abbrev f55_kl10 (K:KT) (Y7 Y10:YT):Exit→YT:=kloop [8,6,2,3,5,7] Y10 (f55_k18 K Y7)
def f55_lb10 (a:Int) (b:Option Addr) (c d:Nat) (f:Option Addr) (g h:Nat) (i:Int) (j:Option Addr) (k l:Nat) (m:Int) (w:World) (K:KT) (Y7 Y10:YT):Prop:=Join (fun e w=>CS P (cA c55 64804) none [8,6,2,3,5,7] [2,3,6,5,7] (f55_kl10 K Y7 Y10) e w) (Env.mk 47 [(8,(VI a)),(6,(VS b c d)),(2,(VS f g h)),(3,(VI i)),(5,(VS j k l)),(7,(VI m))] []) w
abbrev f55_k19 (K:KT) (Y7 Y10:YT):Exit→YT:=kseq P (cA c55 129608) (cA c55 129609) none [8,6,2,3,5,7] [2,3,6,5,7] (f55_kl10 K Y7 Y10)
abbrev f55_k20 (K:KT) (Y7 Y10:YT):Exit→YT:=kseq P (cA c55 259216) (cA c55 259217) none [2,3,5,7,8,6] [2,3,6,5,7] (f55_k19 K Y7 Y10)
def f55_s11 (a:Option Addr) (b c:Nat) (d:Int) (f:Option Addr) (g h:Nat) (i j:Int) (k:Option Addr) (l m:Nat) (w:World) (K:KT) (Y7 Y10:YT):Prop:=Join (fun e w=>CS P (cA c55 129609) none [8,6,2,3,5,7] [2,3,6,5,7] (f55_kl10 K Y7 Y10) e w) (Env.mk 47 [(2,(VS a b c)),(3,(VI d)),(5,(VS f g h)),(7,(VI i)),(8,(VI j)),(6,(VS k l m))] []) w
abbrev f55_k21 (K:KT) (Y7 Y10:YT):Exit→YT:=kseq P (cA c55 259218) (cA c55 259219) none [8,6,2,3,5,7] [2,3,6,5,7] (f55_kl10 K Y7 Y10)
abbrev f55_k22 (K:KT) (Y7 Y10:YT):Exit→YT:=kblock 3 (f55_k21 K Y7 Y10)
def f55_s12 (a:Option Addr) (b c:Nat) (d:Option Addr) (f g:Nat) (h:Int) (i:Option Addr) (j k:Nat) (l m:Int) (w:World) (K:KT) (Y7 Y10:YT):Prop:=Join (fun e w=>CS P (cA c55 259219) none [8,6,2,3,5,7] [2,3,6,5,7] (f55_kl10 K Y7 Y10) e w) (Env.mk 47 [(6,(VS a b c)),(2,(VS d f g)),(3,(VI h)),(5,(VS i j k)),(7,(VI l)),(8,(VI m))] []) w
theorem f55_s12_eq (a:Option Addr) (c d:Nat) (e:Option Addr) (f g:Nat) (h:Int) (i:Option Addr) (j k:Nat) (l m:Int) (w:World) (K:KT) (Y7 Y10:YT):f55_s12 a c d e f g h i j k l m w K Y7 Y10=(Y10 (Env.mk 47 [(8,(Value.int .i64 (IntKind.wrap .i64 ((m:Int)+1)))),(6,(Value.slice a c d)),(2,(Value.slice e f g)),(3,(Value.int .i64 h)),(5,(Value.slice i j k)),(7,(Value.int .i64 l))] []) w):=Eq.trans (b:=CS P (cA c55 259219) none [8,6,2,3,5,7] [2,3,6,5,7] (f55_kl10 K Y7 Y10) (Env.mk 47 [(6,(VS a c d)),(2,(VS e f g)),(3,(VI h)),(5,(VS i j k)),(7,(VI l)),(8,(VI m))] []) w) (by kernel_rfl) (by kernel_rfl)
theorem f55_s11_eq (d:Option Addr) (e f:Nat) (g:Int) (h:Option Addr) (i j:Nat) (k c:Int) (l:Option Addr) (m n:Nat) (w:World) (K:KT) (Y7 Y10:YT):f55_s11 d e f g h i j k c l m n w K Y7 Y10=(sizesAre 1 [(Value.int .u32 (IntKind.wrap .u32 c))]∧NewC (([(Value.int .u32 (IntKind.wrap .u32 c))].map fun (v:Value)=>v.cells.toList).flatten.toArray) 33 w (fun s t=>∃ (o:Option Addr) (p q:Nat),∃ r:World,(Builtin.append_ #[101,101] 101 [(Value.slice l m n),(Value.slice (some (Addr.mk s 0 none)) 1 1)].toArray).run P t=.ok (Value.slice o p q) r∧f55_s12 o p q d e f g h i j k c r K Y7 Y10)):=Eq.trans (b:=CS P (cA c55 129609) none [8,6,2,3,5,7] [2,3,6,5,7] (f55_kl10 K Y7 Y10) (Env.mk 47 [(2,(VS d e f)),(3,(VI g)),(5,(VS h i j)),(7,(VI k)),(8,(VI c)),(6,(VS l m n))] []) w) (by kernel_rfl) (Eq.trans (CSs (cA c55 259218) (cA c55 259219) [6,2,3,5,7,8] (f55_k21 K Y7 Y10) (by kernel_rfl) (by kernel_rfl) (by kernel_rfl)) (Eq.trans (CSb 3 (cA c55 518436) [2,3,6,5,7,8] (f55_k22 K Y7 Y10) (by kernel_rfl) (by kernel_rfl) (by kernel_rfl)) (by kernel_rfl)))
def f55_s13 (a:Option Addr) (b c:Nat) (d:Option Addr) (f g:Nat) (h:Int) (i:Option Addr) (j k:Nat) (l:Int) (w:World) (K:KT) (Y7:YT):Prop:=Join (fun e w=>CS P (cA c55 4051) none [6,2,3,7,5] [2,3,6] (f55_kl7 K Y7) e w) (Env.mk 47 [(6,(VS a b c)),(2,(VS d f g)),(3,(VI h)),(5,(VS i j k)),(7,(VI l))] []) w
theorem f55_s13_eq (a:Option Addr) (c d:Nat) (e:Option Addr) (f g:Nat) (h:Int) (i:Option Addr) (j k:Nat) (l:Int) (w:World) (K:KT) (Y7:YT):f55_s13 a c d e f g h i j k l w K Y7=(Y7 (Env.mk 47 [(6,(Value.slice a c d)),(2,(Value.slice e f g)),(3,(Value.int .i64 h)),(7,(Value.int .i64 (IntKind.wrap .i64 ((l:Int)+1)))),(5,(Value.slice i j k))] []) w):=Eq.trans (b:=CS P (cA c55 4051) none [6,2,3,7,5] [2,3,6] (f55_kl7 K Y7) (Env.mk 47 [(6,(VS a c d)),(2,(VS e f g)),(3,(VI h)),(5,(VS i j k)),(7,(VI l))] []) w) (by kernel_rfl) (by kernel_rfl)
theorem f55_lb10_eq (f:Int) (g:Option Addr) (h i:Nat) (j:Option Addr) (k l:Nat) (m:Int) (d:Option Addr) (e n:Nat) (c:Int) (w:World) (K:KT) (Y7 Y10:YT):f55_lb10 f g h i j k l m d e n c w K Y7 Y10=(optS d (fun p=>0≤(c:Int)∧(c:Int) < (e:Nat)∧∃ o:Int,w.cell? ((p.add (Int.toNat c * 2)).add 1)=some (Value.int .i64 o)∧BIf (decide ((f:Int) < o)) (f55_s11 j k l m d e n c f g h i w K Y7 Y10) (f55_s13 g h i j k l m d e n c w K Y7))):=Eq.trans (b:=CS P (cA c55 64804) none [8,6,2,3,5,7] [2,3,6,5,7] (f55_kl10 K Y7 Y10) (Env.mk 47 [(8,(VI f)),(6,(VS g h i)),(2,(VS j k l)),(3,(VI m)),(5,(VS d e n)),(7,(VI c))] []) w) (by kernel_rfl) (Eq.trans (CSs (cA c55 129608) (cA c55 129609) [2,3,5,7,8,6] (f55_k19 K Y7 Y10) (by kernel_rfl) (by kernel_rfl) (by kernel_rfl)) (Eq.trans (CSs (cA c55 259216) (cA c55 259217) [38,2,3,5,7,8,6] (f55_k20 K Y7 Y10) (by kernel_rfl) (by kernel_rfl) (by kernel_rfl)) (by kernel_rfl)))
theorem f55_s9_eq (a n:Int) (o p:Addr) (q:Int) (r:Option Addr) (s t:Nat) (c:Option Addr) (d e:Nat) (f:Option Addr) (g h:Nat) (i:Int) (j:Option Addr) (k l:Nat) (m:Int) (w:World) (K:KT) (Y7:YT):f55_s9 a n o p q r s t c d e f g h i j k l m w K Y7=(LoopE (f55_lp10 K Y7) (Env.mk 47 [(8,(Value.int .i64 a)),(6,(Value.slice c d e)),(2,(Value.slice f g h)),(3,(Value.int .i64 i)),(5,(Value.slice j k l)),(7,(Value.int .i64 m))] []) w):=Eq.trans (b:=CS P (cA c55 16201) none [6,2,3,5,7] [2,3,6,5,7] (f55_k16 K Y7) (Env.mk 47 [(8,(VI a)),(31,(VI n)),(30,(VP (some o))),(29,(VP (some p))),(28,(VI q)),(27,(VS r s t)),(6,(VS c d e)),(2,(VS f g h)),(3,(VI i)),(5,(VS j k l)),(7,(VI m))] []) w) (by kernel_rfl) (Eq.trans (CSb 2 (cA c55 32402) [2,3,6,5,7] (f55_k18 K Y7) (by kernel_rfl) (by kernel_rfl) (by kernel_rfl)) ((CS_loop' (b:=(cA c55 64804)) (X':=[2,3,6,5,7]) (H:=[8,6,2,3,5,7]) (by kernel_rfl) (by kernel_rfl) (by kernel_rfl)).trans (by kernel_rfl)))
theorem f55_s8_eq (g:Option Addr) (h i:Nat) (j:Option Addr) (k l:Nat) (m:Int) (d:Option Addr) (e f:Nat) (c:Int) (w:World) (K:KT) (Y7:YT):f55_s8 g h i j k l m d e f c w K Y7=(optS d (fun n=>0≤(c:Int)∧(c:Int) < (e:Nat)∧∃ o:Int,w.cell? (n.add (Int.toNat c * 2))=some (Value.int .i64 o)∧f55_s9 o o (n.add (Int.toNat c * 2)) (n.add (Int.toNat c * 2)) c d e f g h i j k l m d e f c w K Y7)):=Eq.trans (b:=CS P (cA c55 2025) none [6,2,3,7,5] [2,3,6] (f55_kl7 K Y7) (Env.mk 47 [(6,(VS g h i)),(2,(VS j k l)),(3,(VI m)),(5,(VS d e f)),(7,(VI c))] []) w) (by kernel_rfl) (Eq.trans (CSs (cA c55 4050) (cA c55 4051) [6,2,3,5,7] (f55_k15 K Y7) (by kernel_rfl) (by kernel_rfl) (by kernel_rfl)) (Eq.trans (CSb 1 (cA c55 8100) [2,3,6,5,7] (f55_k16 K Y7) (by kernel_rfl) (by kernel_rfl) (by kernel_rfl)) (Eq.trans (CSs (cA c55 16200) (cA c55 16201) [8,6,2,3,5,7] (f55_k17 K Y7) (by kernel_rfl) (by kernel_rfl) (by kernel_rfl)) (by kernel_rfl))))
def f55_s14 (a:Option Addr) (b c:Nat) (w:World) (K:KT):Prop:=Join (fun e w=>CS P (cA c55 127) none [2,3] [2,3] (f55_kb K) e w) (Env.mk 47 [(6,(VS a b c))] []) w
abbrev f55_k23 (K:KT):Exit→YT:=kseq P (cA c55 254) (cA c55 255) none [2,3] [2,3] (f55_kb K)
theorem f55_s14_eq (c:Option Addr) (d e:Nat) (w:World) (K:KT):f55_s14 c d e w K=(K (Value.tuple [(Value.slice c d e),(Value.int .i64 0)].toArray) w):=Eq.trans (b:=CS P (cA c55 127) none [2,3] [2,3] (f55_kb K) (Env.mk 47 [(6,(VS c d e))] []) w) (by kernel_rfl) (Eq.trans (CSs (cA c55 254) (cA c55 255) [2,3] (f55_k23 K) (by kernel_rfl) (by kernel_rfl) (by kernel_rfl)) (by kernel_rfl))
theorem f55_lb7_eq (c:Option Addr) (d e:Nat) (j:Option Addr) (k l:Nat) (m f:Int) (g:Option Addr) (h i:Nat) (w:World) (K:KT) (Y7:YT):f55_lb7 c d e j k l m f g h i w K Y7=(∃ n:Int,(∀ wq,Ext w wq→(Builtin.len_ #[169] 3 [(Value.slice g h i)].toArray).run P wq=.ok (Value.int .i64 n) wq)∧BIf (decide ((f:Int) < n)) (f55_s8 c d e j k l m g h i f w K Y7) (f55_s14 c d e w K)):=Eq.trans (b:=CS P (cA c55 1012) none [6,2,3,7,5] [2,3,6] (f55_kl7 K Y7) (Env.mk 47 [(6,(VS c d e)),(2,(VS j k l)),(3,(VI m)),(7,(VI f)),(5,(VS g h i))] []) w) (by kernel_rfl) (Eq.trans (CSs (cA c55 2024) (cA c55 2025) [6,2,3,5,7] (f55_k13 K Y7) (by kernel_rfl) (by kernel_rfl) (by kernel_rfl)) (Eq.trans (CSs (cA c55 4048) (cA c55 4049) [24,6,2,3,5,7] (f55_k14 K Y7) (by kernel_rfl) (by kernel_rfl) (by kernel_rfl)) (by kernel_rfl)))
theorem f55_s6_eq (a:Int) (c:Option Addr) (d e:Nat) (m:Option Addr) (n o:Nat) (f:Option Addr) (g h:Nat) (i:Int) (j:Option Addr) (k l:Nat) (w:World) (K:KT):f55_s6 a c d e m n o f g h i j k l w K=(LoopE (f55_lp7 K) (Env.mk 47 [(6,(Value.slice c d e)),(2,(Value.slice f g h)),(3,(Value.int .i64 i)),(7,(Value.int .i64 a)),(5,(Value.slice j k l))] []) w):=Eq.trans (b:=CS P (cA c55 253) none [6] [2,3] (f55_k10 K) (Env.mk 47 [(7,(VI a)),(6,(VS c d e)),(20,(VS m n o)),(2,(VS f g h)),(3,(VI i)),(5,(VS j k l))] []) w) (by kernel_rfl) (Eq.trans (CSb 0 (cA c55 506) [2,3,6] (f55_k12 K) (by kernel_rfl) (by kernel_rfl) (by kernel_rfl)) ((CS_loop' (b:=(cA c55 1012)) (X':=[2,3,6]) (H:=[6,2,3,7,5]) (by kernel_rfl) (by kernel_rfl) (by kernel_rfl)).trans (by kernel_rfl)))
theorem f55_s5_eq (c:Option Addr) (d e:Nat) (f:Option Addr) (g h:Nat) (i:Option Addr) (j k:Nat) (l:Int) (m:Option Addr) (n o:Nat) (w:World) (K:KT):f55_s5 c d e f g h i j k l m n o w K=(f55_s6 0 c d e f g h i j k l m n o w K):=Eq.trans (b:=CS P (cA c55 63) none [2,3] [2,3] (f55_kb K) (Env.mk 47 [(6,(VS c d e)),(20,(VS f g h)),(2,(VS i j k)),(3,(VI l)),(5,(VS m n o))] []) w) (by kernel_rfl) (Eq.trans (CSs (cA c55 126) (cA c55 127) [6] (f55_k10 K) (by kernel_rfl) (by kernel_rfl) (by kernel_rfl)) (Eq.trans (CSs (cA c55 252) (cA c55 253) [6,2,3,7,5] (f55_k11 K) (by kernel_rfl) (by kernel_rfl) (by kernel_rfl)) (by kernel_rfl)))
theorem f55_s4_eq (c:Option Addr) (d e:Nat) (f:Int) (g:Option Addr) (h i:Nat) (w:World) (K:KT):f55_s4 c d e f g h i w K=(∃ (j:Option Addr) (k l:Nat),∃ m:World,(Instr.buildSlice 101 0 ([]:List (Nat × Value)).toArray).run P w=.ok (Value.slice j k l) m∧f55_s5 j k l j k l c d e f g h i m K):=Eq.trans (b:=CS P (cA c55 31) none [2,3] [2,3] (f55_kb K) (Env.mk 47 [(2,(VS c d e)),(3,(VI f)),(5,(VS g h i))] []) w) (by kernel_rfl) (Eq.trans (CSs (cA c55 62) (cA c55 63) [6,2,3,5] (f55_k9 K) (by kernel_rfl) (by kernel_rfl) (by kernel_rfl)) (by kernel_rfl))
theorem f55_s3_eq (c:Option Addr) (d e:Nat) (j:Option Addr) (k l:Nat) (m:Option Addr) (n o:Nat) (f:Option Addr) (g h:Nat) (i:Int) (p:Option Addr) (q r:Nat) (w:World) (K:KT):f55_s3 c d e j k l m n o f g h i p q r w K=(CallL P 87 [(Value.slice c d e)] w (fun u s=>∃ t:Int,u=(Value.int .i64 t)∧BIf (decide ((t:Int) > 20000)) (K (Value.tuple [(Value.slice none 0 0),(Value.int .i64 2)].toArray) s) (f55_s4 f g h i c d e s K))):=Eq.trans (b:=CS P (cA c55 15) none [2,3] [2,3] (f55_kb K) (Env.mk 47 [(5,(VS c d e)),(16,(VS j k l)),(15,(VS m n o)),(2,(VS f g h)),(3,(VI i)),(0,(VS p q r))] []) w) (by kernel_rfl) (Eq.trans (CSs (cA c55 30) (cA c55 31) [2,3,5] (f55_k6 K) (by kernel_rfl) (by kernel_rfl) (by kernel_rfl)) (Eq.trans (CSs (cA c55 60) (cA c55 61) [19,2,3,5] (f55_k7 K) (by kernel_rfl) (by kernel_rfl) (by kernel_rfl)) (by kernel_rfl)))
theorem f55_s2_eq (f:Option Addr) (g h:Nat) (i:Int) (c:Option Addr) (d e:Nat) (w:World) (K:KT):f55_s2 f g h i c d e w K=(CallL P 86 [(Value.slice c d e)] w (fun m n=>∃ (j:Option Addr) (k l:Nat),m=(Value.slice j k l)∧f55_s3 j k l j k l c d e f g h i c d e n K)):=Eq.trans (b:=CS P (cA c55 7) none [2,3] [2,3] (f55_kb K) (Env.mk 47 [(2,(VS f g h)),(3,(VI i)),(0,(VS c d e))] []) w) (by kernel_rfl) (Eq.trans (CSs (cA c55 14) (cA c55 15) [2,3,5] (f55_k5 K) (by kernel_rfl) (by kernel_rfl) (by kernel_rfl)) (by kernel_rfl))
theorem f55_s1_eq (f:Int) (g:Option Addr) (h i:Nat) (c:Option Addr) (d e:Nat) (w:World) (K:KT):f55_s1 f g h i c d e w K=(CallL P 60 [(Value.slice c d e)] w (fun m k=>∃ l:Array Value,m=(Value.agg l)∧∃ j:Int,l[19]?=some (Value.int .i64 j)∧BIf ((j:Int) != 0) (K (Value.tuple [(Value.slice none 0 0),(Value.int .i64 j)].toArray) k) (f55_s2 g h i f c d e k K))):=Eq.trans (b:=CS P (cA c55 3) none [2,3] [2,3] (f55_kb K) (Env.mk 47 [(3,(VI f)),(2,(VS g h i)),(0,(VS c d e))] []) w) (by kernel_rfl) (Eq.trans (CSs (cA c55 6) (cA c55 7) [2,3,0] (f55_k1 K) (by kernel_rfl) (by kernel_rfl) (by kernel_rfl)) (Eq.trans (CSs (cA c55 12) (cA c55 13) [4,2,3,0] (f55_k2 K) (by kernel_rfl) (by kernel_rfl) (by kernel_rfl)) (by kernel_rfl)))
theorem f55_s0_eq (c:Option Addr) (d e:Nat) (w:World) (K:KT):f55_s0 c d e w K=(f55_s1 0 none 0 0 c d e w K):=Eq.trans (b:=CS P (cA c55 1) none [2,3] [2,3] (f55_kb K) (Env.mk 47 [(0,(VS c d e))] []) w) (by kernel_rfl) (Eq.trans (CSs (cA c55 2) (cA c55 3) [2,3,0] (f55_k0 K) (by kernel_rfl) (by kernel_rfl) (by kernel_rfl)) (by kernel_rfl))
theorem f55_eq (a:Option Addr) (b c:Nat) (w:World) (K:KT):f55 a b c w K=(f55_s0 a b c w K):=by kernel_rfl
theorem c55_eq:Go.Proofs.Try.f55.body=some c55:=by kernel_rfl
theorem f55_un (a:Option Addr) (b c:Nat) (w:World) (K:KT):f55 a b c w K=CS P c55 none (resT Go.Proofs.Try.f55.results.toList) (resT Go.Proofs.Try.f55.results.toList) (bodyK P Go.Proofs.Try.f55.results.toList K) (env0 Go.Proofs.Try.f55.ntmps [(Value.slice a b c)]) w:=by kernel_rfl
theorem f55_ok (a:Option Addr) (b c:Nat) (w:World) (K:KT) (h:f55 a b c w K):CallL P 55 [(Value.slice a b c)] w K:=calls_of_CS Go.Proofs.Try.func55 c55_eq (Eq.mp (f55_un a b c w K) h)
noncomputable def c31:Code:=match Go.Proofs.Try.f31.body with
 | some c=>c
 | none=>.skip
noncomputable def rs31:List ResultVar:=Go.Proofs.Try.f31.results.toList
abbrev f31_kb (K:KT):Exit→YT:=bodyK P rs31 K
def f31 (a:Option Addr) (b c:Nat) (w:World) (K:KT):Prop:=CS P c31 none [2,3] [2,3] (f31_kb K) (env0 78 [(VS a b c)]) w
def f31_s0 (a:Option Addr) (b c:Nat) (w:World) (K:KT):Prop:=CS P (cA c31 1) none [2,3] [2,3] (f31_kb K) (Env.mk 78 [(0,(VS a b c))] []) w
abbrev f31_k0 (K:KT):Exit→YT:=kseq P (cA c31 2) (cA c31 3) none [2,3] [2,3] (f31_kb K)
def f31_s1 (a:Int) (b:Option Addr) (c d:Nat) (e:Option Addr) (f g:Nat) (w:World) (K:KT):Prop:=CS P (cA c31 3) none [2,3] [2,3] (f31_kb K) (Env.mk 78 [(3,(VI a)),(2,(VS b c d)),(0,(VS e f g))] []) w
abbrev f31_k1 (K:KT):Exit→YT:=kseq P (cA c31 6) (cA c31 7) none [2,3] [2,3] (f31_kb K)
def f31_s2 (a:Int) (b:Option Addr) (c d:Nat) (e:Int) (f:Option Addr) (g h:Nat) (i:Option Addr) (j k:Nat) (l:Int) (m:Option Addr) (n o:Nat) (p:Int) (q:Option Addr) (r s:Nat) (t:Int) (u:Option Addr) (v x:Nat) (y:Option Addr) (z a0:Nat) (w:World) (K:KT):Prop:=CS P (cA c31 7) none [2,3] [2,3] (f31_kb K) (Env.mk 78 [(5,(VI a)),(4,(VS b c d)),(17,(VI e)),(16,(VS f g h)),(13,(Value.tuple [(VS i j k),(VI l)].toArray)),(15,(Value.tuple [(VS m n o),(VI p)].toArray)),(14,(VS q r s)),(3,(VI t)),(2,(VS u v x)),(0,(VS y z a0))] []) w
abbrev f31_k2 (K:KT):Exit→YT:=kseq P (cA c31 14) (cA c31 15) none [2,3] [2,3] (f31_kb K)
abbrev f31_k3 (K:KT):Exit→YT:=kseq P (cA c31 28) (cA c31 29) none [4,0,2,3] [2,3] (f31_k2 K)
def f31_s3 (a:Option Addr) (b c:Nat) (d:Option Addr) (f g:Nat) (h:Option Addr) (i j:Nat) (k:Int) (w:World) (K:KT):Prop:=Join (fun e w=>CS P (cA c31 15) none [2,3] [2,3] (f31_kb K) e w) (Env.mk 78 [(4,(VS a b c)),(0,(VS d f g)),(2,(VS h i j)),(3,(VI k))] []) w
abbrev f31_k5 (K:KT):Exit→YT:=kseq P (cA c31 30) (cA c31 31) none [2,3] [2,3] (f31_kb K)
def f31_s4 (a:Option Addr) (b c:Nat) (d:Option Addr) (e f:Nat) (g:Option Addr) (h i:Nat) (j:Option Addr) (k l:Nat) (m:Option Addr) (n o:Nat) (p:Option Addr) (q r:Nat) (s:Int) (w:World) (K:KT):Prop:=CS P (cA c31 31) none [2,3] [2,3] (f31_kb K) (Env.mk 78 [(6,(VS a b c)),(22,(VS d e f)),(21,(VS g h i)),(4,(VS j k l)),(0,(VS m n o)),(2,(VS p q r)),(3,(VI s))] []) w
abbrev f31_k6 (K:KT):Exit→YT:=kseq P (cA c31 62) (cA c31 63) none [2,3] [2,3] (f31_kb K)
def f31_s5 (a:Option Addr) (b c:Nat) (d:Option Addr) (e f:Nat) (g:Option Addr) (h i:Nat) (j:Option Addr) (k l:Nat) (m:Option Addr) (n o:Nat) (p:Option Addr) (q r:Nat) (s:Option Addr) (t u:Nat) (v:Option Addr) (x y:Nat) (z:Int) (w:World) (K:KT):Prop:=CS P (cA c31 63) none [2,3] [2,3] (f31_kb K) (Env.mk 78 [(7,(VS a b c)),(23,(VS d e f)),(6,(VS g h i)),(22,(VS j k l)),(21,(VS m n o)),(4,(VS p q r)),(0,(VS s t u)),(2,(VS v x y)),(3,(VI z))] []) w
abbrev f31_k7 (K:KT):Exit→YT:=kseq P (cA c31 126) (cA c31 127) none [2,3] [2,3] (f31_kb K)
abbrev f31_k8 (K:KT):Exit→YT:=kseq P (cA c31 252) (cA c31 253) none [7,2,3,0] [2,3] (f31_k7 K)
def f31_s6 (a:Int) (b:Option Addr) (c d:Nat) (e:Option Addr) (f g:Nat) (h:Option Addr) (i j:Nat) (k:Option Addr) (l m:Nat) (n:Option Addr) (o p:Nat) (q:Option Addr) (r s:Nat) (t:Option Addr) (u v:Nat) (x:Option Addr) (y z:Nat) (a0:Int) (w:World) (K:KT):Prop:=CS P (cA c31 253) none [7,2,3,0] [2,3] (f31_k7 K) (Env.mk 78 [(8,(VI a)),(7,(VS b c d)),(23,(VS e f g)),(6,(VS h i j)),(22,(VS k l m)),(21,(VS n o p)),(4,(VS q r s)),(0,(VS t u v)),(2,(VS x y z)),(3,(VI a0))] []) w
abbrev f31_k9 (K:KT):Exit→YT:=kblock 0 (f31_k7 K)
def f31_lp7 (K:KT) (Y7:YT) (e:Env) (w:World):Prop:=Join (fun e w=>CS P (cA c31 1012) none [8,7,4,6,0,2,3] [2,3,7,0] (kloop [8,7,4,6,0,2,3] Y7 (f31_k9 K)) e w) e w
abbrev f31_kl7 (K:KT) (Y7:YT):Exit→YT:=kloop [8,7,4,6,0,2,3] Y7 (f31_k9 K)
def f31_lb7 (a:Int) (b:Option Addr) (c d:Nat) (f:Option Addr) (g h:Nat) (i:Option Addr) (j k:Nat) (l:Option Addr) (m n:Nat) (o:Option Addr) (p q:Nat) (r:Int) (w:World) (K:KT) (Y7:YT):Prop:=Join (fun e w=>CS P (cA c31 1012) none [8,7,4,6,0,2,3] [2,3,7,0] (f31_kl7 K Y7) e w) (Env.mk 78 [(8,(VI a)),(7,(VS b c d)),(4,(VS f g h)),(6,(VS i j k)),(0,(VS l m n)),(2,(VS o p q)),(3,(VI r))] []) w
abbrev f31_k10 (K:KT) (Y7:YT):Exit→YT:=kseq P (cA c31 2024) (cA c31 2025) none [8,7,4,6,0,2,3] [2,3,7,0] (f31_kl7 K Y7)
abbrev f31_k11 (K:KT) (Y7:YT):Exit→YT:=kseq P (cA c31 4048) (cA c31 4049) none [4,6,0,2,3,8,7] [2,3,7,0] (f31_k10 K Y7)
def f31_s8 (a:Option Addr) (b c:Nat) (d:Option Addr) (f g:Nat) (h:Option Addr) (i j:Nat) (k:Option Addr) (l m:Nat) (n o:Int) (p:Option Addr) (q r:Nat) (w:World) (K:KT) (Y7:YT):Prop:=Join (fun e w=>CS P (cA c31 2025) none [8,7,4,6,0,2,3] [2,3,7,0] (f31_kl7 K Y7) e w) (Env.mk 78 [(4,(VS a b c)),(6,(VS d f g)),(0,(VS h i j)),(2,(VS k l m)),(3,(VI n)),(8,(VI o)),(7,(VS p q r))] []) w
abbrev f31_k12 (K:KT) (Y7:YT):Exit→YT:=kseq P (cA c31 4050) (cA c31 4051) none [8,7,4,6,0,2,3] [2,3,7,0] (f31_kl7 K Y7)
abbrev f31_k13 (K:KT) (Y7:YT):Exit→YT:=kblock 1 (f31_k12 K Y7)
abbrev f31_k14 (K:KT) (Y7:YT):Exit→YT:=kseq P (cA c31 16200) (cA c31 16201) none [7,4,6,0,2,3,8] [2,3,7,0,4,6,8] (f31_k13 K Y7)
def f31_s9 (a:Option Addr) (b c:Nat) (d:Option Addr) (f g:Nat) (h:Option Addr) (i j:Nat) (k:Option Addr) (l m:Nat) (n:Option Addr) (o p:Nat) (q r:Int) (w:World) (K:KT) (Y7:YT):Prop:=Join (fun e w=>CS P (cA c31 4051) none [8,7,4,6,0,2,3] [2,3,7,0] (f31_kl7 K Y7) e w) (Env.mk 78 [(7,(VS a b c)),(4,(VS d f g)),(6,(VS h i j)),(0,(VS k l m)),(2,(VS n o p)),(3,(VI q)),(8,(VI r))] []) w
theorem f31_s9_eq (a:Option Addr) (c d:Nat) (e:Option Addr) (f g:Nat) (h:Option Addr) (i j:Nat) (k:Option Addr) (l m:Nat) (n:Option Addr) (o p:Nat) (q r:Int) (w:World) (K:KT) (Y7:YT):f31_s9 a c d e f g h i j k l m n o p q r w K Y7=(Y7 (Env.mk 78 [(8,(Value.int .i64 (IntKind.wrap .i64 ((r:Int)+1)))),(7,(Value.slice a c d)),(4,(Value.slice e f g)),(6,(Value.slice h i j)),(0,(Value.slice k l m)),(2,(Value.slice n o p)),(3,(Value.int .i64 q))] []) w):=Eq.trans (b:=CS P (cA c31 4051) none [8,7,4,6,0,2,3] [2,3,7,0] (f31_kl7 K Y7) (Env.mk 78 [(7,(VS a c d)),(4,(VS e f g)),(6,(VS h i j)),(0,(VS k l m)),(2,(VS n o p)),(3,(VI q)),(8,(VI r))] []) w) (by kernel_rfl) (by kernel_rfl)
theorem f31_s8_eq (d:Option Addr) (e l:Nat) (f:Option Addr) (g h:Nat) (i:Option Addr) (j k:Nat) (m:Option Addr) (n o:Nat) (p c:Int) (q:Option Addr) (r s:Nat) (w:World) (K:KT) (Y7:YT):f31_s8 d e l f g h i j k m n o p c q r s w K Y7=(optS d (fun g0=>0≤(c:Int)∧(c:Int) < (e:Nat)∧∃ y:Int,w.cell? (g0.add (Int.toNat c * 1))=some (Value.int .u32 y)∧CallL P 57 [(Value.slice i j k),(Value.slice f g h),(Value.int .u32 y)] w (fun h0 t=>∃ (u:Option Addr) (x z:Nat),h0=(Value.slice u x z)∧∃ a0:Int,(∀ wq,Ext t wq→(Builtin.len_ #[25] 3 [(Value.slice u x z)].toArray).run P wq=.ok (Value.int .i64 a0) wq)∧BIf (decide ((a0:Int) > 0)) (optS u (fun i0=>0≤(0:Int)∧(0:Int) < (x:Nat)∧LdA 11 (i0.add (Int.toNat 0 * 11)) t (fun b0=>sizesAre 11 [(Value.agg b0)]∧NewC (([(Value.agg b0)].map fun (v:Value)=>v.cells.toList).flatten.toArray) 47 t (fun j0 l0=>∃ (c0:Option Addr) (d0 e0:Nat),∃ f0:World,(Builtin.append_ #[25,25] 25 [(Value.slice q r s),(Value.slice (some (Addr.mk j0 0 none)) 1 1)].toArray).run P l0=.ok (Value.slice c0 d0 e0) f0∧f31_s9 c0 d0 e0 d e l f g h i j k m n o p c f0 K Y7)))) (f31_s9 q r s d e l f g h i j k m n o p c t K Y7)))):=Eq.trans (b:=CS P (cA c31 2025) none [8,7,4,6,0,2,3] [2,3,7,0] (f31_kl7 K Y7) (Env.mk 78 [(4,(VS d e l)),(6,(VS f g h)),(0,(VS i j k)),(2,(VS m n o)),(3,(VI p)),(8,(VI c)),(7,(VS q r s))] []) w) (by kernel_rfl) (Eq.trans (CSs (cA c31 4050) (cA c31 4051) [7,4,6,0,2,3,8] (f31_k12 K Y7) (by kernel_rfl) (by kernel_rfl) (by kernel_rfl)) (Eq.trans (CSb 1 (cA c31 8100) [2,3,7,0,4,6,8] (f31_k13 K Y7) (by kernel_rfl) (by kernel_rfl) (by kernel_rfl)) (Eq.trans (CSs (cA c31 16200) (cA c31 16201) [4,6,0,2,3,8,9,7] (f31_k14 K Y7) (by kernel_rfl) (by kernel_rfl) (by kernel_rfl)) (by kernel_rfl))))
def f31_s10 (a:Option Addr) (b c:Nat) (d:Option Addr) (f g:Nat) (h:Int) (i:Option Addr) (j k:Nat) (w:World) (K:KT):Prop:=Join (fun e w=>CS P (cA c31 127) none [2,3] [2,3] (f31_kb K) e w) (Env.mk 78 [(7,(VS a b c)),(2,(VS d f g)),(3,(VI h)),(0,(VS i j k))] []) w
abbrev f31_k16 (K:KT):Exit→YT:=kseq P (cA c31 254) (cA c31 255) none [2,3] [2,3] (f31_kb K)
abbrev f31_k17 (K:KT):Exit→YT:=kseq P (cA c31 508) (cA c31 509) none [7,2,3,0] [2,3] (f31_k16 K)
def f31_s11 (a:Option Addr) (b c:Nat) (d:Option Addr) (f g:Nat) (h:Int) (i:Option Addr) (j k:Nat) (w:World) (K:KT):Prop:=Join (fun e w=>CS P (cA c31 255) none [2,3] [2,3] (f31_kb K) e w) (Env.mk 78 [(7,(VS a b c)),(2,(VS d f g)),(3,(VI h)),(0,(VS i j k))] []) w
abbrev f31_k19 (K:KT):Exit→YT:=kseq P (cA c31 510) (cA c31 511) none [2,3] [2,3] (f31_kb K)
def f31_s12 (a:Option Addr) (b c:Nat) (d:Option Addr) (e f:Nat) (g:Option Addr) (h i:Nat) (j:Option Addr) (k l:Nat) (m:Int) (n:Option Addr) (o p:Nat) (w:World) (K:KT):Prop:=CS P (cA c31 511) none [2,3] [2,3] (f31_kb K) (Env.mk 78 [(10,(VS a b c)),(49,(VS d e f)),(7,(VS g h i)),(2,(VS j k l)),(3,(VI m)),(0,(VS n o p))] []) w
abbrev f31_k20 (K:KT):Exit→YT:=kseq P (cA c31 1022) (cA c31 1023) none [2,3] [2,3] (f31_kb K)
abbrev f31_k21 (K:KT):Exit→YT:=kseq P (cA c31 2044) (cA c31 2045) none [10] [2,3] (f31_k20 K)
def f31_s13 (a:Int) (b:Option Addr) (c d:Nat) (e:Option Addr) (f g:Nat) (h:Option Addr) (i j:Nat) (k:Option Addr) (l m:Nat) (n:Int) (o:Option Addr) (p q:Nat) (w:World) (K:KT):Prop:=CS P (cA c31 2045) none [10] [2,3] (f31_k20 K) (Env.mk 78 [(11,(VI a)),(10,(VS b c d)),(49,(VS e f g)),(7,(VS h i j)),(2,(VS k l m)),(3,(VI n)),(0,(VS o p q))] []) w
abbrev f31_k22 (K:KT):Exit→YT:=kblock 2 (f31_k20 K)
def f31_lp14 (K:KT) (Y14:YT) (e:Env) (w:World):Prop:=Join (fun e w=>CS P (cA c31 8180) none [7,10,11,2,3,0] [2,3,10] (kloop [7,10,11,2,3,0] Y14 (f31_k22 K)) e w) e w
abbrev f31_kl14 (K:KT) (Y14:YT):Exit→YT:=kloop [7,10,11,2,3,0] Y14 (f31_k22 K)
def f31_lb14 (a:Option Addr) (b c:Nat) (d:Option Addr) (f g:Nat) (h:Int) (i:Option Addr) (j k:Nat) (l:Int) (m:Option Addr) (n o:Nat) (w:World) (K:KT) (Y14:YT):Prop:=Join (fun e w=>CS P (cA c31 8180) none [7,10,11,2,3,0] [2,3,10] (f31_kl14 K Y14) e w) (Env.mk 78 [(7,(VS a b c)),(10,(VS d f g)),(11,(VI h)),(2,(VS i j k)),(3,(VI l)),(0,(VS m n o))] []) w
abbrev f31_k23 (K:KT) (Y14:YT):Exit→YT:=kseq P (cA c31 16360) (cA c31 16361) none [7,10,11,2,3,0] [2,3,10] (f31_kl14 K Y14)
abbrev f31_k24 (K:KT) (Y14:YT):Exit→YT:=kseq P (cA c31 32720) (cA c31 32721) none [7,10,11,2,3,0] [2,3,10] (f31_k23 K Y14)
def f31_s15 (a:Option Addr) (b c:Nat) (d:Option Addr) (f g:Nat) (h:Int) (i:Option Addr) (j k:Nat) (l:Int) (m:Option Addr) (n o:Nat) (w:World) (K:KT) (Y14:YT):Prop:=Join (fun e w=>CS P (cA c31 16361) none [7,10,11,2,3,0] [2,3,10] (f31_kl14 K Y14) e w) (Env.mk 78 [(7,(VS a b c)),(10,(VS d f g)),(11,(VI h)),(2,(VS i j k)),(3,(VI l)),(0,(VS m n o))] []) w
abbrev f31_k25 (K:KT) (Y14:YT):Exit→YT:=kseq P (cA c31 32722) (cA c31 32723) none [7,10,11,2,3,0] [2,3,10] (f31_kl14 K Y14)
abbrev f31_k26 (K:KT) (Y14:YT):Exit→YT:=kblock 3 (f31_k25 K Y14)
abbrev f31_k27 (K:KT) (Y14:YT):Exit→YT:=kseq P (cA c31 130888) (cA c31 130889) none [7,10,2,3,0,11] [2,3,10,7,0,11] (f31_k26 K Y14)
def f31_s16 (a:Int) (b:Option Addr) (c d:Nat) (e:Option Addr) (f g:Nat) (h:Int) (i:Option Addr) (j k:Nat) (l:Int) (m:Option Addr) (n o:Nat) (w:World) (K:KT) (Y14:YT):Prop:=CS P (cA c31 130889) none [7,10,2,3,0,11] [2,3,10,7,0,11] (f31_k26 K Y14) (Env.mk 78 [(12,(VI a)),(7,(VS b c d)),(10,(VS e f g)),(11,(VI h)),(2,(VS i j k)),(3,(VI l)),(0,(VS m n o))] []) w
abbrev f31_k28 (K:KT) (Y14:YT):Exit→YT:=kblock 4 (f31_k26 K Y14)
def f31_lp17 (K:KT) (Y14 Y17:YT) (e:Env) (w:World):Prop:=Join (fun e w=>CS P (cA c31 523556) none [12,7,10,11,2,3,0] [2,3,10,7,0,11] (kloop [12,7,10,11,2,3,0] Y17 (f31_k28 K Y14)) e w) e w
abbrev f31_kl17 (K:KT) (Y14 Y17:YT):Exit→YT:=kloop [12,7,10,11,2,3,0] Y17 (f31_k28 K Y14)
def f31_lb17 (a:Int) (b:Option Addr) (c d:Nat) (f:Option Addr) (g h:Nat) (i:Int) (j:Option Addr) (k l:Nat) (m:Int) (n:Option Addr) (o p:Nat) (w:World) (K:KT) (Y14 Y17:YT):Prop:=Join (fun e w=>CS P (cA c31 523556) none [12,7,10,11,2,3,0] [2,3,10,7,0,11] (f31_kl17 K Y14 Y17) e w) (Env.mk 78 [(12,(VI a)),(7,(VS b c d)),(10,(VS f g h)),(11,(VI i)),(2,(VS j k l)),(3,(VI m)),(0,(VS n o p))] []) w
abbrev f31_k29 (K:KT) (Y14 Y17:YT):Exit→YT:=kseq P (cA c31 1047112) (cA c31 1047113) none [12,7,10,11,2,3,0] [2,3,10,7,0,11] (f31_kl17 K Y14 Y17)
abbrev f31_k30 (K:KT) (Y14 Y17:YT):Exit→YT:=kseq P (cA c31 2094224) (cA c31 2094225) none [7,11,2,3,0,12,10] [2,3,10,7,0,11] (f31_k29 K Y14 Y17)
def f31_s18 (a:Option Addr) (b c:Nat) (d:Int) (f:Option Addr) (g h:Nat) (i:Int) (j:Option Addr) (k l:Nat) (m:Int) (n:Option Addr) (o p:Nat) (w:World) (K:KT) (Y14 Y17:YT):Prop:=Join (fun e w=>CS P (cA c31 1047113) none [12,7,10,11,2,3,0] [2,3,10,7,0,11] (f31_kl17 K Y14 Y17) e w) (Env.mk 78 [(7,(VS a b c)),(11,(VI d)),(2,(VS f g h)),(3,(VI i)),(0,(VS j k l)),(12,(VI m)),(10,(VS n o p))] []) w
abbrev f31_k31 (K:KT) (Y14 Y17:YT):Exit→YT:=kseq P (cA c31 2094226) (cA c31 2094227) none [12,7,10,11,2,3,0] [2,3,10,7,0,11] (f31_kl17 K Y14 Y17)
abbrev f31_k32 (K:KT) (Y14 Y17:YT):Exit→YT:=kblock 5 (f31_k31 K Y14 Y17)
abbrev f31_k33 (K:KT) (Y14 Y17:YT):Exit→YT:=kseq P (cA c31 8376904) (cA c31 8376905) none [7,10,11,2,3,0,12] [2,3,10,7,0,11,12] (f31_k32 K Y14 Y17)
def f31_s19 (a:Option Addr) (b c:Nat) (d:Option Addr) (f g:Nat) (h:Int) (i:Option Addr) (j k:Nat) (l:Int) (m:Option Addr) (n o:Nat) (p:Int) (w:World) (K:KT) (Y14 Y17:YT):Prop:=Join (fun e w=>CS P (cA c31 2094227) none [12,7,10,11,2,3,0] [2,3,10,7,0,11] (f31_kl17 K Y14 Y17) e w) (Env.mk 78 [(7,(VS a b c)),(10,(VS d f g)),(11,(VI h)),(2,(VS i j k)),(3,(VI l)),(0,(VS m n o)),(12,(VI p))] []) w
theorem f31_s19_eq (a:Option Addr) (c d:Nat) (e:Option Addr) (f g:Nat) (h:Int) (i:Option Addr) (j k:Nat) (l:Int) (m:Option Addr) (n o:Nat) (p:Int) (w:World) (K:KT) (Y14 Y17:YT):f31_s19 a c d e f g h i j k l m n o p w K Y14 Y17=(Y17 (Env.mk 78 [(12,(Value.int .i64 (IntKind.wrap .i64 ((p:Int)+1)))),(7,(Value.slice a c d)),(10,(Value.slice e f g)),(11,(Value.int .i64 h)),(2,(Value.slice i j k)),(3,(Value.int .i64 l)),(0,(Value.slice m n o))] []) w):=Eq.trans (b:=CS P (cA c31 2094227) none [12,7,10,11,2,3,0] [2,3,10,7,0,11] (f31_kl17 K Y14 Y17) (Env.mk 78 [(7,(VS a c d)),(10,(VS e f g)),(11,(VI h)),(2,(VS i j k)),(3,(VI l)),(0,(VS m n o)),(12,(VI p))] []) w) (by kernel_rfl) (by kernel_rfl)
theorem f31_s18_eq (d:Option Addr) (e g:Nat) (f:Int) (h:Option Addr) (i j:Nat) (k:Int) (l:Option Addr) (m n:Nat) (c:Int) (o:Option Addr) (p q:Nat) (w:World) (K:KT) (Y14 Y17:YT):f31_s18 d e g f h i j k l m n c o p q w K Y14 Y17=(optS d (fun z=>0≤(c:Int)∧(c:Int) < (e:Nat)∧∃ r:Int,w.cell? ((z.add (Int.toNat c * 11)).add 6)=some (Value.int .i64 r)∧BIf ((r:Int) == f) (optS d (fun a0=>0≤(c:Int)∧(c:Int) < (e:Nat)∧LdA 11 (a0.add (Int.toNat c * 11)) w (fun s=>sizesAre 11 [(Value.agg s)]∧NewC (([(Value.agg s)].map fun (v:Value)=>v.cells.toList).flatten.toArray) 47 w (fun b0 c0=>∃ (t:Option Addr) (u x:Nat),∃ y:World,(Builtin.append_ #[25,25] 25 [(Value.slice o p q),(Value.slice (some (Addr.mk b0 0 none)) 1 1)].toArray).run P c0=.ok (Value.slice t u x) y∧f31_s19 d e g t u x f h i j k l m n c y K Y14 Y17)))) (f31_s19 d e g o p q f h i j k l m n c w K Y14 Y17))):=Eq.trans (b:=CS P (cA c31 1047113) none [12,7,10,11,2,3,0] [2,3,10,7,0,11] (f31_kl17 K Y14 Y17) (Env.mk 78 [(7,(VS d e g)),(11,(VI f)),(2,(VS h i j)),(3,(VI k)),(0,(VS l m n)),(12,(VI c)),(10,(VS o p q))] []) w) (by kernel_rfl) (Eq.trans (CSs (cA c31 2094226) (cA c31 2094227) [7,10,11,2,3,0,12] (f31_k31 K Y14 Y17) (by kernel_rfl) (by kernel_rfl) (by kernel_rfl)) (Eq.trans (CSb 5 (cA c31 4188452) [2,3,10,7,0,11,12] (f31_k32 K Y14 Y17) (by kernel_rfl) (by kernel_rfl) (by kernel_rfl)) (Eq.trans (CSs (cA c31 8376904) (cA c31 8376905) [69,7,11,2,3,0,12,10] (f31_k33 K Y14 Y17) (by kernel_rfl) (by kernel_rfl) (by kernel_rfl)) (by kernel_rfl))))
def f31_s20 (a:Option Addr) (b c:Nat) (d:Option Addr) (f g:Nat) (h:Option Addr) (i j:Nat) (k:Int) (l:Option Addr) (m n:Nat) (o:Int) (w:World) (K:KT) (Y14:YT):Prop:=Join (fun e w=>CS P (cA c31 32723) none [7,10,11,2,3,0] [2,3,10] (f31_kl14 K Y14) e w) (Env.mk 78 [(7,(VS a b c)),(10,(VS d f g)),(2,(VS h i j)),(3,(VI k)),(0,(VS l m n)),(11,(VI o))] []) w
theorem f31_s20_eq (a:Option Addr) (c d:Nat) (e:Option Addr) (f g:Nat) (h:Option Addr) (i j:Nat) (k:Int) (l:Option Addr) (m n:Nat) (o:Int) (w:World) (K:KT) (Y14:YT):f31_s20 a c d e f g h i j k l m n o w K Y14=(Y14 (Env.mk 78 [(7,(Value.slice a c d)),(10,(Value.slice e f g)),(11,(Value.int .i64 (IntKind.wrap .i64 ((o:Int)+1)))),(2,(Value.slice h i j)),(3,(Value.int .i64 k)),(0,(Value.slice l m n))] []) w):=Eq.trans (b:=CS P (cA c31 32723) none [7,10,11,2,3,0] [2,3,10] (f31_kl14 K Y14) (Env.mk 78 [(7,(VS a c d)),(10,(VS e f g)),(2,(VS h i j)),(3,(VI k)),(0,(VS l m n)),(11,(VI o))] []) w) (by kernel_rfl) (by kernel_rfl)
theorem f31_lb17_eq (f:Int) (c:Option Addr) (d e:Nat) (g:Option Addr) (h i:Nat) (j:Int) (k:Option Addr) (l m:Nat) (n:Int) (o:Option Addr) (p q:Nat) (w:World) (K:KT) (Y14 Y17:YT):f31_lb17 f c d e g h i j k l m n o p q w K Y14 Y17=(∃ r:Int,(∀ wq,Ext w wq→(Builtin.len_ #[25] 3 [(Value.slice c d e)].toArray).run P wq=.ok (Value.int .i64 r) wq)∧BIf (decide ((f:Int) < r)) (f31_s18 c d e j k l m n o p q f g h i w K Y14 Y17) (f31_s20 c d e g h i k l m n o p q j w K Y14)):=Eq.trans (b:=CS P (cA c31 523556) none [12,7,10,11,2,3,0] [2,3,10,7,0,11] (f31_kl17 K Y14 Y17) (Env.mk 78 [(12,(VI f)),(7,(VS c d e)),(10,(VS g h i)),(11,(VI j)),(2,(VS k l m)),(3,(VI n)),(0,(VS o p q))] []) w) (by kernel_rfl) (Eq.trans (CSs (cA c31 1047112) (cA c31 1047113) [7,11,2,3,0,12,10] (f31_k29 K Y14 Y17) (by kernel_rfl) (by kernel_rfl) (by kernel_rfl)) (Eq.trans (CSs (cA c31 2094224) (cA c31 2094225) [59,7,11,2,3,0,12,10] (f31_k30 K Y14 Y17) (by kernel_rfl) (by kernel_rfl) (by kernel_rfl)) (by kernel_rfl)))
theorem f31_s16_eq (a:Int) (c:Option Addr) (d e:Nat) (f:Option Addr) (g h:Nat) (i:Int) (j:Option Addr) (k l:Nat) (m:Int) (n:Option Addr) (o p:Nat) (w:World) (K:KT) (Y14:YT):f31_s16 a c d e f g h i j k l m n o p w K Y14=(LoopE (f31_lp17 K Y14) (Env.mk 78 [(12,(Value.int .i64 a)),(7,(Value.slice c d e)),(10,(Value.slice f g h)),(11,(Value.int .i64 i)),(2,(Value.slice j k l)),(3,(Value.int .i64 m)),(0,(Value.slice n o p))] []) w):=Eq.trans (b:=CS P (cA c31 130889) none [7,10,2,3,0,11] [2,3,10,7,0,11] (f31_k26 K Y14) (Env.mk 78 [(12,(VI a)),(7,(VS c d e)),(10,(VS f g h)),(11,(VI i)),(2,(VS j k l)),(3,(VI m)),(0,(VS n o p))] []) w) (by kernel_rfl) (Eq.trans (CSb 4 (cA c31 261778) [2,3,10,7,0,11] (f31_k28 K Y14) (by kernel_rfl) (by kernel_rfl) (by kernel_rfl)) ((CS_loop' (b:=(cA c31 523556)) (X':=[2,3,10,7,0,11]) (H:=[12,7,10,11,2,3,0]) (by kernel_rfl) (by kernel_rfl) (by kernel_rfl)).trans (by kernel_rfl)))
theorem f31_s15_eq (c:Option Addr) (d e:Nat) (f:Option Addr) (g h:Nat) (i:Int) (j:Option Addr) (k l:Nat) (m:Int) (n:Option Addr) (o p:Nat) (w:World) (K:KT) (Y14:YT):f31_s15 c d e f g h i j k l m n o p w K Y14=(f31_s16 0 c d e f g h i j k l m n o p w K Y14):=Eq.trans (b:=CS P (cA c31 16361) none [7,10,11,2,3,0] [2,3,10] (f31_kl14 K Y14) (Env.mk 78 [(7,(VS c d e)),(10,(VS f g h)),(11,(VI i)),(2,(VS j k l)),(3,(VI m)),(0,(VS n o p))] []) w) (by kernel_rfl) (Eq.trans (CSs (cA c31 32722) (cA c31 32723) [7,10,2,3,0,11] (f31_k25 K Y14) (by kernel_rfl) (by kernel_rfl) (by kernel_rfl)) (Eq.trans (CSb 3 (cA c31 65444) [2,3,10,7,0,11] (f31_k26 K Y14) (by kernel_rfl) (by kernel_rfl) (by kernel_rfl)) (Eq.trans (CSs (cA c31 130888) (cA c31 130889) [12,7,10,11,2,3,0] (f31_k27 K Y14) (by kernel_rfl) (by kernel_rfl) (by kernel_rfl)) (by kernel_rfl))))
def f31_s21 (a:Option Addr) (b c:Nat) (w:World) (K:KT):Prop:=Join (fun e w=>CS P (cA c31 1023) none [2,3] [2,3] (f31_kb K) e w) (Env.mk 78 [(10,(VS a b c))] []) w
abbrev f31_k34 (K:KT):Exit→YT:=kseq P (cA c31 2046) (cA c31 2047) none [2,3] [2,3] (f31_kb K)
theorem f31_s21_eq (c:Option Addr) (d e:Nat) (w:World) (K:KT):f31_s21 c d e w K=(K (Value.tuple [(Value.slice c d e),(Value.int .i64 0)].toArray) w):=Eq.trans (b:=CS P (cA c31 1023) none [2,3] [2,3] (f31_kb K) (Env.mk 78 [(10,(VS c d e))] []) w) (by kernel_rfl) (Eq.trans (CSs (cA c31 2046) (cA c31 2047) [2,3] (f31_k34 K) (by kernel_rfl) (by kernel_rfl) (by kernel_rfl)) (by kernel_rfl))
theorem f31_lb14_eq (j:Option Addr) (k l:Nat) (c:Option Addr) (d e:Nat) (f:Int) (m:Option Addr) (n o:Nat) (p:Int) (g:Option Addr) (h i:Nat) (w:World) (K:KT) (Y14:YT):f31_lb14 j k l c d e f m n o p g h i w K Y14=(∃ q:Int,(∀ wq,Ext w wq→(Builtin.len_ #[22] 3 [(Value.slice g h i)].toArray).run P wq=.ok (Value.int .i64 q) wq)∧BIf (decide ((f:Int) < q)) (f31_s15 j k l c d e f m n o p g h i w K Y14) (f31_s21 c d e w K)):=Eq.trans (b:=CS P (cA c31 8180) none [7,10,11,2,3,0] [2,3,10] (f31_kl14 K Y14) (Env.mk 78 [(7,(VS j k l)),(10,(VS c d e)),(11,(VI f)),(2,(VS m n o)),(3,(VI p)),(0,(VS g h i))] []) w) (by kernel_rfl) (Eq.trans (CSs (cA c31 16360) (cA c31 16361) [7,10,11,2,3,0] (f31_k23 K Y14) (by kernel_rfl) (by kernel_rfl) (by kernel_rfl)) (Eq.trans (CSs (cA c31 32720) (cA c31 32721) [53,7,10,11,2,3,0] (f31_k24 K Y14) (by kernel_rfl) (by kernel_rfl) (by kernel_rfl)) (by kernel_rfl)))
theorem f31_s13_eq (a:Int) (c:Option Addr) (d e:Nat) (p:Option Addr) (q r:Nat) (f:Option Addr) (g h:Nat) (i:Option Addr) (j k:Nat) (l:Int) (m:Option Addr) (n o:Nat) (w:World) (K:KT):f31_s13 a c d e p q r f g h i j k l m n o w K=(LoopE (f31_lp14 K) (Env.mk 78 [(7,(Value.slice f g h)),(10,(Value.slice c d e)),(11,(Value.int .i64 a)),(2,(Value.slice i j k)),(3,(Value.int .i64 l)),(0,(Value.slice m n o))] []) w):=Eq.trans (b:=CS P (cA c31 2045) none [10] [2,3] (f31_k20 K) (Env.mk 78 [(11,(VI a)),(10,(VS c d e)),(49,(VS p q r)),(7,(VS f g h)),(2,(VS i j k)),(3,(VI l)),(0,(VS m n o))] []) w) (by kernel_rfl) (Eq.trans (CSb 2 (cA c31 4090) [2,3,10] (f31_k22 K) (by kernel_rfl) (by kernel_rfl) (by kernel_rfl)) ((CS_loop' (b:=(cA c31 8180)) (X':=[2,3,10]) (H:=[7,10,11,2,3,0]) (by kernel_rfl) (by kernel_rfl) (by kernel_rfl)).trans (by kernel_rfl)))
theorem f31_s12_eq (c:Option Addr) (d e:Nat) (f:Option Addr) (g h:Nat) (i:Option Addr) (j k:Nat) (l:Option Addr) (m n:Nat) (o:Int) (p:Option Addr) (q r:Nat) (w:World) (K:KT):f31_s12 c d e f g h i j k l m n o p q r w K=(f31_s13 0 c d e f g h i j k l m n o p q r w K):=Eq.trans (b:=CS P (cA c31 511) none [2,3] [2,3] (f31_kb K) (Env.mk 78 [(10,(VS c d e)),(49,(VS f g h)),(7,(VS i j k)),(2,(VS l m n)),(3,(VI o)),(0,(VS p q r))] []) w) (by kernel_rfl) (Eq.trans (CSs (cA c31 1022) (cA c31 1023) [10] (f31_k20 K) (by kernel_rfl) (by kernel_rfl) (by kernel_rfl)) (Eq.trans (CSs (cA c31 2044) (cA c31 2045) [7,10,11,2,3,0] (f31_k21 K) (by kernel_rfl) (by kernel_rfl) (by kernel_rfl)) (by kernel_rfl)))
theorem f31_s11_eq (c:Option Addr) (d e:Nat) (f:Option Addr) (g h:Nat) (i:Int) (j:Option Addr) (k l:Nat) (w:World) (K:KT):f31_s11 c d e f g h i j k l w K=(∃ (m:Option Addr) (n o:Nat),∃ p:World,(Instr.buildSlice 25 0 ([]:List (Nat × Value)).toArray).run P w=.ok (Value.slice m n o) p∧f31_s12 m n o m n o c d e f g h i j k l p K):=Eq.trans (b:=CS P (cA c31 255) none [2,3] [2,3] (f31_kb K) (Env.mk 78 [(7,(VS c d e)),(2,(VS f g h)),(3,(VI i)),(0,(VS j k l))] []) w) (by kernel_rfl) (Eq.trans (CSs (cA c31 510) (cA c31 511) [7,10,2,3,0] (f31_k19 K) (by kernel_rfl) (by kernel_rfl) (by kernel_rfl)) (by kernel_rfl))
theorem f31_s10_eq (c:Option Addr) (d e:Nat) (f:Option Addr) (g h:Nat) (i:Int) (j:Option Addr) (k l:Nat) (w:World) (K:KT):f31_s10 c d e f g h i j k l w K=(∃ m:Int,(∀ wq,Ext w wq→(Builtin.len_ #[25] 3 [(Value.slice c d e)].toArray).run P wq=.ok (Value.int .i64 m) wq)∧BIf (decide ((m:Int) > 1000)) (K (Value.tuple [(Value.slice none 0 0),(Value.int .i64 2)].toArray) w) (f31_s11 c d e f g h i j k l w K)):=Eq.trans (b:=CS P (cA c31 127) none [2,3] [2,3] (f31_kb K) (Env.mk 78 [(7,(VS c d e)),(2,(VS f g h)),(3,(VI i)),(0,(VS j k l))] []) w) (by kernel_rfl) (Eq.trans (CSs (cA c31 254) (cA c31 255) [7,2,3,0] (f31_k16 K) (by kernel_rfl) (by kernel_rfl) (by kernel_rfl)) (Eq.trans (CSs (cA c31 508) (cA c31 509) [48,7,2,3,0] (f31_k17 K) (by kernel_rfl) (by kernel_rfl) (by kernel_rfl)) (by kernel_rfl)))
theorem f31_lb7_eq (c:Int) (d:Option Addr) (e f:Nat) (g:Option Addr) (h i:Nat) (q:Option Addr) (r s:Nat) (j:Option Addr) (k l:Nat) (m:Option Addr) (n o:Nat) (p:Int) (w:World) (K:KT) (Y7:YT):f31_lb7 c d e f g h i q r s j k l m n o p w K Y7=(∃ t:Int,(∀ wq,Ext w wq→(Builtin.len_ #[101] 3 [(Value.slice g h i)].toArray).run P wq=.ok (Value.int .i64 t) wq)∧BIf (decide ((c:Int) < t)) (f31_s8 g h i q r s j k l m n o p c d e f w K Y7) (f31_s10 d e f m n o p j k l w K)):=Eq.trans (b:=CS P (cA c31 1012) none [8,7,4,6,0,2,3] [2,3,7,0] (f31_kl7 K Y7) (Env.mk 78 [(8,(VI c)),(7,(VS d e f)),(4,(VS g h i)),(6,(VS q r s)),(0,(VS j k l)),(2,(VS m n o)),(3,(VI p))] []) w) (by kernel_rfl) (Eq.trans (CSs (cA c31 2024) (cA c31 2025) [4,6,0,2,3,8,7] (f31_k10 K Y7) (by kernel_rfl) (by kernel_rfl) (by kernel_rfl)) (Eq.trans (CSs (cA c31 4048) (cA c31 4049) [27,4,6,0,2,3,8,7] (f31_k11 K Y7) (by kernel_rfl) (by kernel_rfl) (by kernel_rfl)) (by kernel_rfl)))
theorem f31_s6_eq (a:Int) (c:Option Addr) (d e:Nat) (s:Option Addr) (t u:Nat) (f:Option Addr) (g h:Nat) (v:Option Addr) (x y:Nat) (z:Option Addr) (a0 b0:Nat) (i:Option Addr) (j k:Nat) (l:Option Addr) (m n:Nat) (o:Option Addr) (p q:Nat) (r:Int) (w:World) (K:KT):f31_s6 a c d e s t u f g h v x y z a0 b0 i j k l m n o p q r w K=(LoopE (f31_lp7 K) (Env.mk 78 [(8,(Value.int .i64 a)),(7,(Value.slice c d e)),(4,(Value.slice i j k)),(6,(Value.slice f g h)),(0,(Value.slice l m n)),(2,(Value.slice o p q)),(3,(Value.int .i64 r))] []) w):=Eq.trans (b:=CS P (cA c31 253) none [7,2,3,0] [2,3] (f31_k7 K) (Env.mk 78 [(8,(VI a)),(7,(VS c d e)),(23,(VS s t u)),(6,(VS f g h)),(22,(VS v x y)),(21,(VS z a0 b0)),(4,(VS i j k)),(0,(VS l m n)),(2,(VS o p q)),(3,(VI r))] []) w) (by kernel_rfl) (Eq.trans (CSb 0 (cA c31 506) [2,3,7,0] (f31_k9 K) (by kernel_rfl) (by kernel_rfl) (by kernel_rfl)) ((CS_loop' (b:=(cA c31 1012)) (X':=[2,3,7,0]) (H:=[8,7,4,6,0,2,3]) (by kernel_rfl) (by kernel_rfl) (by kernel_rfl)).trans (by kernel_rfl)))
theorem f31_s5_eq (c:Option Addr) (d e:Nat) (f:Option Addr) (g h:Nat) (i:Option Addr) (j k:Nat) (l:Option Addr) (m n:Nat) (o:Option Addr) (p q:Nat) (r:Option Addr) (s t:Nat) (u:Option Addr) (v x:Nat) (y:Option Addr) (z a0:Nat) (b0:Int) (w:World) (K:KT):f31_s5 c d e f g h i j k l m n o p q r s t u v x y z a0 b0 w K=(f31_s6 0 c d e f g h i j k l m n o p q r s t u v x y z a0 b0 w K):=Eq.trans (b:=CS P (cA c31 63) none [2,3] [2,3] (f31_kb K) (Env.mk 78 [(7,(VS c d e)),(23,(VS f g h)),(6,(VS i j k)),(22,(VS l m n)),(21,(VS o p q)),(4,(VS r s t)),(0,(VS u v x)),(2,(VS y z a0)),(3,(VI b0))] []) w) (by kernel_rfl) (Eq.trans (CSs (cA c31 126) (cA c31 127) [7,2,3,0] (f31_k7 K) (by kernel_rfl) (by kernel_rfl) (by kernel_rfl)) (Eq.trans (CSs (cA c31 252) (cA c31 253) [8,7,4,6,0,2,3] (f31_k8 K) (by kernel_rfl) (by kernel_rfl) (by kernel_rfl)) (by kernel_rfl)))
theorem f31_s4_eq (c:Option Addr) (d e:Nat) (f:Option Addr) (g h:Nat) (i:Option Addr) (j k:Nat) (l:Option Addr) (m n:Nat) (o:Option Addr) (p q:Nat) (r:Option Addr) (s t:Nat) (u:Int) (w:World) (K:KT):f31_s4 c d e f g h i j k l m n o p q r s t u w K=(∃ (v:Option Addr) (x y:Nat),∃ z:World,(Instr.buildSlice 25 0 ([]:List (Nat × Value)).toArray).run P w=.ok (Value.slice v x y) z∧f31_s5 v x y v x y c d e f g h i j k l m n o p q r s t u z K):=Eq.trans (b:=CS P (cA c31 31) none [2,3] [2,3] (f31_kb K) (Env.mk 78 [(6,(VS c d e)),(22,(VS f g h)),(21,(VS i j k)),(4,(VS l m n)),(0,(VS o p q)),(2,(VS r s t)),(3,(VI u))] []) w) (by kernel_rfl) (Eq.trans (CSs (cA c31 62) (cA c31 63) [7,4,6,0,2,3] (f31_k6 K) (by kernel_rfl) (by kernel_rfl) (by kernel_rfl)) (by kernel_rfl))
theorem f31_s3_eq (f:Option Addr) (g h:Nat) (c:Option Addr) (d e:Nat) (i:Option Addr) (j k:Nat) (l:Int) (w:World) (K:KT):f31_s3 f g h c d e i j k l w K=(CallL P 56 [(Value.slice c d e)] w (fun p q=>∃ (m:Option Addr) (n o:Nat),p=(Value.slice m n o)∧f31_s4 m n o m n o c d e f g h c d e i j k l q K)):=Eq.trans (b:=CS P (cA c31 15) none [2,3] [2,3] (f31_kb K) (Env.mk 78 [(4,(VS f g h)),(0,(VS c d e)),(2,(VS i j k)),(3,(VI l))] []) w) (by kernel_rfl) (Eq.trans (CSs (cA c31 30) (cA c31 31) [4,6,0,2,3] (f31_k5 K) (by kernel_rfl) (by kernel_rfl) (by kernel_rfl)) (by kernel_rfl))
theorem f31_s2_eq (c:Int) (d:Option Addr) (e f:Nat) (n:Int) (o:Option Addr) (p q:Nat) (r:Option Addr) (s t:Nat) (u:Int) (v:Option Addr) (x y:Nat) (z:Int) (a0:Option Addr) (b0 c0:Nat) (g:Int) (h:Option Addr) (i j:Nat) (k:Option Addr) (l m:Nat) (w:World) (K:KT):f31_s2 c d e f n o p q r s t u v x y z a0 b0 c0 g h i j k l m w K=(BIf ((c:Int) != 0) (K (Value.tuple [(Value.slice none 0 0),(Value.int .i64 c)].toArray) w) (f31_s3 d e f k l m h i j g w K)):=Eq.trans (b:=CS P (cA c31 7) none [2,3] [2,3] (f31_kb K) (Env.mk 78 [(5,(VI c)),(4,(VS d e f)),(17,(VI n)),(16,(VS o p q)),(13,(Value.tuple [(VS r s t),(VI u)].toArray)),(15,(Value.tuple [(VS v x y),(VI z)].toArray)),(14,(VS a0 b0 c0)),(3,(VI g)),(2,(VS h i j)),(0,(VS k l m))] []) w) (by kernel_rfl) (Eq.trans (CSs (cA c31 14) (cA c31 15) [4,0,2,3] (f31_k2 K) (by kernel_rfl) (by kernel_rfl) (by kernel_rfl)) (Eq.trans (CSs (cA c31 28) (cA c31 29) [19,5,4,0,2,3] (f31_k3 K) (by kernel_rfl) (by kernel_rfl) (by kernel_rfl)) (by kernel_rfl)))
theorem f31_s1_eq (j:Int) (k:Option Addr) (l m:Nat) (c:Option Addr) (d e:Nat) (w:World) (K:KT):f31_s1 j k l m c d e w K=(CallL P 55 [(Value.slice c d e)] w (fun n o=>∃ (f:Option Addr) (g h:Nat),∃ i:Int,n=(Value.tuple [(Value.slice f g h),(Value.int .i64 i)].toArray)∧f31_s2 i f g h i f g h f g h i f g h i c d e j k l m c d e o K)):=Eq.trans (b:=CS P (cA c31 3) none [2,3] [2,3] (f31_kb K) (Env.mk 78 [(3,(VI j)),(2,(VS k l m)),(0,(VS c d e))] []) w) (by kernel_rfl) (Eq.trans (CSs (cA c31 6) (cA c31 7) [5,4,0,2,3] (f31_k1 K) (by kernel_rfl) (by kernel_rfl) (by kernel_rfl)) (by kernel_rfl))
theorem f31_s0_eq (c:Option Addr) (d e:Nat) (w:World) (K:KT):f31_s0 c d e w K=(f31_s1 0 none 0 0 c d e w K):=Eq.trans (b:=CS P (cA c31 1) none [2,3] [2,3] (f31_kb K) (Env.mk 78 [(0,(VS c d e))] []) w) (by kernel_rfl) (Eq.trans (CSs (cA c31 2) (cA c31 3) [0,2,3] (f31_k0 K) (by kernel_rfl) (by kernel_rfl) (by kernel_rfl)) (by kernel_rfl))
theorem f31_eq (a:Option Addr) (b c:Nat) (w:World) (K:KT):f31 a b c w K=(f31_s0 a b c w K):=by kernel_rfl
theorem c31_eq:Go.Proofs.Try.f31.body=some c31:=by kernel_rfl
theorem f31_un (a:Option Addr) (b c:Nat) (w:World) (K:KT):f31 a b c w K=CS P c31 none (resT Go.Proofs.Try.f31.results.toList) (resT Go.Proofs.Try.f31.results.toList) (bodyK P Go.Proofs.Try.f31.results.toList K) (env0 Go.Proofs.Try.f31.ntmps [(Value.slice a b c)]) w:=by kernel_rfl
theorem f31_ok (a:Option Addr) (b c:Nat) (w:World) (K:KT) (h:f31 a b c w K):CallL P 31 [(Value.slice a b c)] w K:=calls_of_CS Go.Proofs.Try.func31 c31_eq (Eq.mp (f31_un a b c w K) h)
noncomputable def c30:Code:=match Go.Proofs.Try.f30.body with
 | some c=>c
 | none=>.skip
noncomputable def rs30:List ResultVar:=Go.Proofs.Try.f30.results.toList
abbrev f30_kb (K:KT):Exit→YT:=bodyK P rs30 K
def f30 (a:Option Addr) (b c:Nat) (d:Int) (w:World) (K:KT):Prop:=CS P c30 none [4] [4] (f30_kb K) (env0 14 [(VS a b c),(VI d)]) w
def f30_s0 (a:Bool) (w:World) (K:KT):Prop:=Join (fun e w=>CS P (cA c30 7) none [4] [4] (f30_kb K) e w) (Env.mk 14 [(4,(VB a))] []) w
theorem f30_s0_eq (a:Bool) (w:World) (K:KT):f30_s0 a w K=(K (Value.bool a) w):=by kernel_rfl
theorem f30_eq (a:Option Addr) (b c:Nat) (d:Int) (w:World) (K:KT):f30 a b c d w K=(∃ e:Int,(∀ wq,Ext w wq→(Builtin.len_ #[22] 3 [(Value.slice a b c)].toArray).run P wq=.ok (Value.int .i64 e) wq)∧BIf (decide ((e:Int)≤d)) (CallL P 14 [(Value.slice a b c)] w (fun g h=>∃ f:Int,g=(Value.int .i64 f)∧f30_s0 (decide ((f:Int)≤600)) h K)) (f30_s0 false w K)):=by kernel_rfl
theorem c30_eq:Go.Proofs.Try.f30.body=some c30:=by kernel_rfl
theorem f30_un (a:Option Addr) (b c:Nat) (d:Int) (w:World) (K:KT):f30 a b c d w K=CS P c30 none (resT Go.Proofs.Try.f30.results.toList) (resT Go.Proofs.Try.f30.results.toList) (bodyK P Go.Proofs.Try.f30.results.toList K) (env0 Go.Proofs.Try.f30.ntmps [(Value.slice a b c),(Value.int .i64 d)]) w:=by kernel_rfl
theorem f30_ok (a:Option Addr) (b c:Nat) (d:Int) (w:World) (K:KT) (h:f30 a b c d w K):CallL P 30 [(Value.slice a b c),(Value.int .i64 d)] w K:=calls_of_CS Go.Proofs.Try.func30 c30_eq (Eq.mp (f30_un a b c d w K) h)
noncomputable def c8:Code:=match Go.Proofs.Try.f8.body with
 | some c=>c
 | none=>.skip
noncomputable def rs8:List ResultVar:=Go.Proofs.Try.f8.results.toList
abbrev f8_kb (K:KT):Exit→YT:=bodyK P rs8 K
def f8 (a:Option Addr) (b c:Nat) (d:Int) (w:World) (K:KT):Prop:=CS P c8 none [4] [4] (f8_kb K) (env0 62 [(VS a b c),(Value.int .u32 d)]) w
def f8_s0 (a:Bool) (b:Int) (c:Option Addr) (d f:Nat) (w:World) (K:KT):Prop:=Join (fun e w=>CS P (cA c8 15) none [4] [4] (f8_kb K) e w) (Env.mk 62 [(5,(VB a)),(1,(Value.int .u32 b)),(0,(VS c d f))] []) w
abbrev f8_k5 (K:KT):Exit→YT:=kseq P (cA c8 30) (cA c8 31) none [4] [4] (f8_kb K)
def f8_s1 (a:Bool) (w:World) (K:KT):Prop:=Join (fun e w=>CS P (cA c8 511) none [4] [4] (f8_kb K) e w) (Env.mk 62 [(4,(VB a))] []) w
theorem f8_s1_eq (a:Bool) (w:World) (K:KT):f8_s1 a w K=(K (Value.bool a) w):=Eq.trans (b:=CS P (cA c8 511) none [4] [4] (f8_kb K) (Env.mk 62 [(4,(VB a))] []) w) (by kernel_rfl) (by kernel_rfl)
theorem f8_s0_eq (g:Bool) (f:Int) (c:Option Addr) (d e:Nat) (w:World) (K:KT):f8_s0 g f c d e w K=(CallL P 16 [(Value.slice c d e)] w (fun d0 e0=>∃ (i:Option Addr) (j k:Nat),∃ l:Int,d0=(Value.tuple [(Value.slice i j k),(Value.int .i64 l)].toArray)∧CallL P 31 [(Value.slice c d e)] e0 (fun f0 g0=>∃ (m:Option Addr) (n o:Nat),∃ p:Int,f0=(Value.tuple [(Value.slice m n o),(Value.int .i64 p)].toArray)∧CallL P 32 [(Value.slice c d e),(Value.int .u32 f)] g0 (fun h0 i0=>∃ (q:Option Addr) (r s:Nat),∃ t:Int,h0=(Value.tuple [(Value.slice q r s),(Value.int .i64 t)].toArray)∧CallL P 33 [(Value.slice c d e),(Value.int .u32 f)] i0 (fun j0 h=>∃ (u:Option Addr) (v x:Nat),∃ y:Int,j0=(Value.tuple [(Value.slice u v x),(Value.int .i64 y)].toArray)∧BIf ((l:Int) == p) (BIf ((t:Int) == y) (CallL P 17 [(Value.slice i j k),(Value.slice m n o)] h (fun l0 z=>∃ a0:Bool,l0=(Value.bool a0)∧BIf a0 (CallL P 17 [(Value.slice q r s),(Value.slice u v x)] z (fun m0 b0=>∃ c0:Bool,m0=(Value.bool c0)∧BIf c0 (f8_s1 g b0 K) (f8_s1 false b0 K))) (f8_s1 false z K))) (f8_s1 false h K)) (f8_s1 false h K)))))):=Eq.trans (b:=CS P (cA c8 15) none [4] [4] (f8_kb K) (Env.mk 62 [(5,(VB g)),(1,(Value.int .u32 f)),(0,(VS c d e))] []) w) (by kernel_rfl) (Eq.trans (CSs (cA c8 30) (cA c8 31) [5,6,7,1,0] (f8_k5 K) (by kernel_rfl) (by kernel_rfl) (by kernel_rfl)) (by kernel_rfl))
theorem f8_eq (a:Option Addr) (b c:Nat) (e:Int) (w:World) (K:KT):f8 a b c e w K=(CallL P 13 [] w (fun h i=>∃ d:Bool,h=(Value.bool d)∧CallL P 30 [(Value.slice a b c),(Value.int .i64 60)] i (fun j f=>∃ g:Bool,j=(Value.bool g)∧BIf (!g) (K (Value.bool d) f) (f8_s0 d e a b c f K)))):=by kernel_rfl
theorem c8_eq:Go.Proofs.Try.f8.body=some c8:=by kernel_rfl
theorem f8_un (a:Option Addr) (b c:Nat) (d:Int) (w:World) (K:KT):f8 a b c d w K=CS P c8 none (resT Go.Proofs.Try.f8.results.toList) (resT Go.Proofs.Try.f8.results.toList) (bodyK P Go.Proofs.Try.f8.results.toList K) (env0 Go.Proofs.Try.f8.ntmps [(Value.slice a b c),(Value.int .u32 d)]) w:=by kernel_rfl
theorem f8_ok (a:Option Addr) (b c:Nat) (d:Int) (w:World) (K:KT) (h:f8 a b c d w K):CallL P 8 [(Value.slice a b c),(Value.int .u32 d)] w K:=calls_of_CS Go.Proofs.Try.func8 c8_eq (Eq.mp (f8_un a b c d w K) h)
end Go.Fx.Try
namespace Go.Fx.Mo
abbrev Prt:=Int × Int
def mStep (s:List Prt × Bool × Prt) (p:Prt):List Prt × Bool × Prt:=
 if p.2 < s.2.2.1 then (s.1++[p],s.2.1,s.2.2) else
 if p.1 > s.2.2.2 then ((if s.2.1 then s.1 else s.1++[s.2.2])++[p],true,s.2.2) else
 (s.1,s.2.1,(if p.1 < s.2.2.1 then p.1 else s.2.2.1,if s.2.2.2 < p.2 then p.2 else s.2.2.2))
def mFold:List Prt→List Prt × Bool × Prt→List Prt × Bool × Prt
 | [],s=>s
 | p::t,s=>mFold t (mStep s p)
def merged (l:List Prt) (x:Prt):List Prt:=
 if x.1≥x.2 then l else if (mFold l ([],false,x)).2.1 then (mFold l ([],false,x)).1 else (mFold l ([],false,x)).1++[(mFold l ([],false,x)).2.2]
theorem mStep_len (s:List Prt × Bool × Prt) (p:Prt):(mStep s p).1.length+(if (mStep s p).2.1 then 0 else 1)≤s.1.length+(if s.2.1 then 0 else 1)+1:=by
 obtain ⟨o,d,x⟩:=s
 unfold mStep
 dsimp only
 split
 ·simp; omega
 ·split
  ·cases d <;> simp
  ·simp
theorem mFold_len:∀ (l:List Prt) (s:List Prt × Bool × Prt),(mFold l s).1.length+(if (mFold l s).2.1 then 0 else 1)≤s.1.length+(if s.2.1 then 0 else 1)+l.length
 | [],s=>by
  show s.1.length+_≤s.1.length+_+0
  exact Nat.le_refl _
 | p::t,s=>by
  have h1:=mFold_len t (mStep s p)
  have h2:=mStep_len s p
  unfold mFold
  simp only [List.length_cons]
  omega
theorem merged_len (l:List Prt) (x:Prt):(merged l x).length≤l.length+1:=by
 unfold merged
 split
 ·omega
 ·have:=mFold_len l ([],false,x)
  split
  ·rename_i h
   rw [h] at this
   simp at this; omega
  ·rename_i h
   simp at h
   rw [h] at this
   simp at this ⊢; omega
end Go.Fx.Mo
namespace Go.Fx.Try
open Go Go.Fx Go.Fx.Mo
open Go.Proofs
variable {w0 w:World} {H Y:List (Nat × Obj)} {K:Value→World→Prop}
set_option maxRecDepth 20000
def Prcs (p:Prt):List Value:=[I64 p.1,I64 p.2]
def prsCs (l:List Prt):List Value:=(l.map Prcs).flatten
theorem prs_at {l:List Prt} {i:Nat} (hi:i < l.length):((prsCs l).drop (i * 2)).take 2=Prcs l[i]:=flat_slice (f:=Prcs) (fun _ _=>rfl) hi
theorem prs_snoc (l:List Prt) (p:Prt):prsCs (l++[p])=prsCs l++Prcs p:=by simp [prsCs]
theorem bs169 (w:World):(Instr.buildSlice 169 0 ([]:List (Nat × Value)).toArray).run P w=.ok (.slice (some ⟨w.heap.size,0,none⟩) 0 0) (w.alloc (.cells #[] 173 (0,0))):=by kernel_rfl
theorem info173:P.info? 173=some Try.t173:=by kernel_rfl
theorem build173 (a b:Int) (wq:World):(Instr.build 173 [(0,(Value.int .i64 a)),(1,(Value.int .i64 b))].toArray).run P wq=.ok (.agg (Prcs (a,b)).toArray) wq:=by kernel_rfl
theorem run_len_169 {p:Option Addr} {l c:Nat} (wq:World):(Builtin.len_ #[169] 3 [Value.slice p l c].toArray).run P wq=.ok (.int .i64 l) wq:=run_len_slice p l c Try.underlying169 3
theorem run_max' (a b:Int) (wq:World):(Builtin.max_ #[3,3] 3 [Value.int .i64 a,Value.int .i64 b].toArray).run P wq=.ok (.int .i64 (if a < b then b else a)) wq:=by
 simp [Builtin.max_,Builtin.max2]
theorem app_part {A Lo:List (Nat × Obj)} {oa:Option Addr} {oc nb:Nat} {out:List Prt} {p:Prt} {t:TypeId} (h:St w0 w (A++(Lo++H))) (hS:SlO 2 173 (.slice oa out.length oc) out.length (prsCs out) Lo) (hN:New w0 Lo) {j:Nat} (hj:A[j]?=some (nb,Cs (Prcs p) t)) (hb:out.length < 1000000000) :
  ∃ g cap w' L',(Builtin.append_ #[169,169] 169 [.slice oa out.length oc,.slice (some ⟨nb,0,none⟩) 1 1].toArray).run P w=.ok (.slice (some ⟨g,0,none⟩) (out++[p]).length cap) w'∧
   SlO 2 173 (.slice (some ⟨g,0,none⟩) (out++[p]).length cap) (out++[p]).length (prsCs (out++[p])) L'∧St w0 w' (A++(L'++H))∧New w0 L':=by
 rw [show (out++[p]).length=out.length+1 by simp,prs_snoc]
 exact St.append (P:=P) 169 169 173 Try.t173 (.agg #[I64 0,I64 0]) 2 16 Try.underlying169 info173 rfl rfl rfl rfl (by omega) h hS hN hj (by simp [Prcs]) (by simp [Prcs,Value.oneCell']) (by simp [maxLen]; omega) (by omega)
set_option maxHeartbeats 4000000 in
theorem merged_ok {l:List Prt} {x:Prt} {la:Option Addr} {lc:Nat} {Ll:List (Nat × Obj)} (h:St w0 w (Ll++H)) (hl:SlO 2 173 (.slice la l.length lc) l.length (prsCs l) Ll) (hlN:New w0 Ll) (hb:l.length < 100000000)
  (hK:∀ w' a c L,SlO 2 173 (.slice a (merged l x).length c) (merged l x).length (prsCs (merged l x)) L→New w0 L→St w0 w' (L++H)→K (.slice a (merged l x).length c) w') :
  CallL P 107 [.slice la l.length lc,.agg (Prcs x).toArray] w K:=by
 refine f107_ok _ _ _ _ _ _ ?_
 rw [f107_eq,f107_s0_eq]
 refine h.newC fun n4 w1 hn4 h1=>?_
 rw [f107_s1_eq]
 refine ⟨x.1,by rw [h1.cell (k:=0) rfl]; rfl,x.2,by rw [add_lit',h1.cell (k:=0) rfl]; rfl,?_⟩
 rw [BIf_iff]
 constructor
 ·intro hge
  have hge:x.1≥x.2:=by simpa using hge
  have e:merged l x=l:=by unfold merged; rw [if_pos hge]
  rw [e] at hK
  exact hK w1 la lc Ll hl hlN (h1.tail hn4)
 ·intro hlt
  have hlt:¬ x.1≥x.2:=by simpa using hlt
  have e:merged l x=if (mFold l ([],false,x)).2.1 then (mFold l ([],false,x)).1 else (mFold l ([],false,x)).1++[(mFold l ([],false,x)).2.2]:=by unfold merged; rw [if_neg hlt]
  rw [f107_s2_eq]
  refine ⟨_,_,_,_,bs169 w1,?_⟩
  have h2:=h1.alloc (.cells #[] 173 (0,0))
  have hn:=h1.le
  generalize w1.heap.size=n at h2 hn
  have h2:St w0 (w1.alloc (.cells #[] 173 (0,0))) ((n4,Cs (Prcs x) 173)::([(n,Cs [] 173)]++(Ll++H))):=h2.perm (List.Perm.swap ..)
  rw [f107_s3_eq,f107_s4_eq,f107_s5_eq]
  refine ⟨fun m ee w=>∃ (i:Nat) (s:List Prt × Bool × Prt) (oa:Option Addr) (oc:Nat) (Lo:List (Nat × Obj)),i≤l.length∧m=l.length - i∧ee=Env.mk 81 [(7,I64 (i:Nat)),(0,.slice la l.length lc),(5,.slice oa s.1.length oc),(3,(Value.pointer (some (Addr.mk n4 0 none)))),(6,.bool s.2.1),(4,nilS)] []∧
    mFold (l.drop i) s=mFold l ([],false,x)∧s.1.length≤2 * i∧SlO 2 173 (.slice oa s.1.length oc) s.1.length (prsCs s.1) Lo∧New w0 Lo∧St w0 w ((n4,Cs (Prcs s.2.2) 173)::(Lo++(Ll++H))),
   ⟨l.length,0,([],false,x),_,_,_,by omega,rfl,rfl,rfl,by simp,slO_nil0 2 173 n,by simpa [New] using hn,h2⟩,?_⟩
  rintro m ee w4 ⟨i,⟨o,d,y⟩,oa,oc,Lo,hi,rfl,rfl,hfin,hob,hS,hN,hw⟩
  show f107_lb6 _ _ _ _ _ _ _ _ _ _ _ _ _ _ _
  rw [f107_lb6_eq]
  refine ⟨l.length,fun wq _=>run_len_169 wq,?_⟩
  rw [BIf_iff]
  dsimp only at hob hS hw
  constructor
  ·intro hlt
   have hlt:i < l.length:=by simpa using hlt
   rw [f107_s7_eq]
   have hdrop:l.drop i=l[i]::l.drop (i+1):=List.drop_eq_getElem_cons hlt
   rw [hdrop,mFold] at hfin
   generalize hY:(fun e' w'=>∃ m,m < l.length - i∧∃ (i:Nat) (s:List Prt × Bool × Prt) (oa:Option Addr) (oc:Nat) (Lo:List (Nat × Obj)),i≤l.length∧m=l.length - i∧e'=Env.mk 81 [(7,I64 (i:Nat)),(0,.slice la l.length lc),(5,.slice oa s.1.length oc),(3,(Value.pointer (some (Addr.mk n4 0 none)))),(6,.bool s.2.1),(4,nilS)] []∧
    mFold (l.drop i) s=mFold l ([],false,x)∧s.1.length≤2 * i∧SlO 2 173 (.slice oa s.1.length oc) s.1.length (prsCs s.1) Lo∧New w0 Lo∧St w0 w' ((n4,Cs (Prcs s.2.2) 173)::(Lo++(Ll++H))))=Y6
   have next:∀ w5 (s:List Prt × Bool × Prt) oa oc Lo,mStep (o,d,y) l[i]=s→s.1.length≤2 * (i+1)→SlO 2 173 (.slice oa s.1.length oc) s.1.length (prsCs s.1) Lo→New w0 Lo→St w0 w5 ((n4,Cs (Prcs s.2.2) 173)::(Lo++(Ll++H)))→
     f107_s8 la l.length lc oa s.1.length oc (Addr.mk n4 0 none) s.2.1 none 0 0 (i:Nat) w5 K Y6:=by
    intro w5 s oa oc Lo hs hlen hS' hN' h5
    rw [f107_s8_eq,← hY]
    refine ⟨l.length - (i+1),by omega,i+1,s,oa,oc,Lo,by omega,rfl,?_,by rw [← hs]; exact hfin,hlen,hS',hN',h5⟩
    rw [wrap_i64 (by omega) (by omega)]; rfl
   have hd:=hw.drew
   obtain ⟨g,cc,hg,hld⟩:=slO_ldA hl (w:=w4.drew) (i:=i) (fun z hz=>hd.has _ _ (by simp [hz])) hlt
   obtain ⟨hsa,-⟩:la=some ⟨g,0,none⟩∧lc=cc:=by simpa using hg
   subst hsa
   have hrw:∀ {w':World},St w0 w' ((n4,Cs (Prcs y) 173)::(Lo++(Ll++H)))→∀ j,j < 2→w'.cell? (((Addr.mk g 0 none).add (Int.toNat (i:Int) * 2)).add j)=(Prcs l[i])[j]?:=fun {w'} h' j hj=>by
    have hr:Row w' 2 (.slice (some ⟨g,0,none⟩) l.length lc) l.length (prsCs l):=hl.row fun z hz=>h'.has _ _ (by simp [hz])
    obtain ⟨a,c,hac,hld'⟩:=hr.ldA hlt
    obtain ⟨rfl,-⟩:(⟨g,0,none⟩:Addr)=a∧lc=c:=by simpa using hac
    rcases hr.2 with ⟨_,h0⟩ | ⟨a,c,h1,h2⟩
    ·omega
    ·obtain ⟨rfl,-⟩:(⟨g,0,none⟩:Addr)=a∧lc=c:=by simpa using h1
     rw [add_add',Int.toNat_natCast,h2 _ (by omega)]
     have:=prs_at hlt
     rw [← this]
     simp [List.getElem?_take,hj]
   have r0:∀ {w':World},St w0 w' ((n4,Cs (Prcs y) 173)::(Lo++(Ll++H)))→w'.cell? ((Addr.mk g 0 none).add (Int.toNat (i:Int) * 2))=some (I64 l[i].1):=fun {w'} h'=>by
    have:=hrw h' 0 (by omega)
    rw [add_add',Nat.add_zero] at this
    exact this
   have r1:∀ {w':World},St w0 w' ((n4,Cs (Prcs y) 173)::(Lo++(Ll++H)))→w'.cell? (((Addr.mk g 0 none).add (Int.toNat (i:Int) * 2)).add 1)=some (I64 l[i].2):=fun {w'} h'=>hrw h' 1 (by omega)
   have x0:∀ {w':World},St w0 w' ((n4,Cs (Prcs y) 173)::(Lo++(Ll++H)))→w'.cell? (Addr.mk n4 0 none)=some (I64 y.1):=fun {w'} h'=>by rw [h'.cell (k:=0) rfl]; rfl
   have x1:∀ {w':World},St w0 w' ((n4,Cs (Prcs y) 173)::(Lo++(Ll++H)))→w'.cell? ((Addr.mk n4 0 none).add 1)=some (I64 y.2):=fun {w'} h'=>by rw [add_lit',h'.cell (k:=0) rfl]; rfl
   have ldp:∀ {w':World} {Q:Array Value→Prop},St w0 w' ((n4,Cs (Prcs y) 173)::(Lo++(Ll++H)))→Q (Prcs l[i]).toArray→LdA 2 ((Addr.mk g 0 none).add (Int.toNat (i:Int) * 2)) w' Q:=fun {w' Q} h' hq=>by
    obtain ⟨g',cc',hg',hld'⟩:=slO_ldA hl (w:=w') (i:=i) (fun z hz=>h'.has _ _ (by simp [hz])) hlt
    obtain ⟨hgg,-⟩:g=g'∧lc=cc':=by simpa using hg'
    subst hgg
    rw [Int.toNat_natCast]
    refine hld' _ ?_
    rw [prs_at hlt]; exact hq
   refine ⟨by omega,by omega,_,r1 hd,_,x0 hd,?_⟩
   rw [BIf_iff]
   constructor
   ·intro hb1
    have hb1:l[i].2 < y.1:=by simpa using hb1
    refine ⟨by omega,by omega,ldp hd ⟨⟨rfl,trivial⟩,?_⟩⟩
    refine hd.newC fun n58 w5 hn58 h5=>?_
    have h5:St w0 w5 (((n58,Cs (Prcs l[i]) 173)::[(n4,Cs (Prcs y) 173)])++(Lo++(Ll++H))):=h5
    obtain ⟨g',cap,w6,L',hru,hS',g6,hN'⟩:=app_part h5 hS hN (j:=0) rfl (by omega)
    refine ⟨_,_,_,w6,hru,?_⟩
    have hs:mStep (o,d,y) l[i]=(o++[l[i]],d,y):=by unfold mStep; rw [if_pos hb1]
    exact next w6 (o++[l[i]],d,y) _ _ L' hs (by simp; omega) hS' hN' (St.tail (b:=n58) g6 hn58)
   ·intro hb1
    have hb1:¬ l[i].2 < y.1:=by simpa using hb1
    have hd2:=hd.drew
    refine ⟨by omega,by omega,_,r0 hd2,_,x1 hd2,?_⟩
    rw [BIf_iff]
    constructor
    ·intro hb2
     have hb2:l[i].1 > y.2:=by simpa using hb2
     have s9:∀ w5 (o':List Prt) oa oc Lo',(if d then o else o++[y])=o'→SlO 2 173 (.slice oa o'.length oc) o'.length (prsCs o') Lo'→New w0 Lo'→St w0 w5 ((n4,Cs (Prcs y) 173)::(Lo'++(Ll++H)))→
       f107_s9 (some ⟨g,0,none⟩) l.length lc (Addr.mk n4 0 none) none 0 0 (i:Nat) oa o'.length oc w5 K Y6:=by
      intro w5 o' oa oc Lo' ho' hS' hN' h5
      have hol:o'.length≤2 * i+1:=by
       rw [← ho']
       split
       ·omega
       ·simp; omega
      rw [f107_s9_eq]
      refine ⟨by omega,by omega,?_⟩
      obtain ⟨g',cc',hg',hld'⟩:=slO_ldA hl (w:=w5) (i:=i) (fun z hz=>h5.has _ _ (by simp [hz])) hlt
      obtain ⟨hgg,-⟩:g=g'∧lc=cc':=by simpa using hg'
      subst hgg
      rw [Int.toNat_natCast]
      refine hld' _ ?_
      rw [prs_at hlt]
      refine ⟨⟨rfl,trivial⟩,?_⟩
      refine h5.newC fun n87 w6 hn87 h6=>?_
      have h6:St w0 w6 (((n87,Cs (Prcs l[i]) 173)::[(n4,Cs (Prcs y) 173)])++(Lo'++(Ll++H))):=h6
      obtain ⟨g2,cap,w7,L',hru,hS2,g7,hN2⟩:=app_part h6 hS' hN' (j:=0) rfl (by omega)
      refine ⟨_,_,_,w7,hru,?_⟩
      have hs:mStep (o,d,y) l[i]=(o'++[l[i]],true,y):=by unfold mStep; rw [if_neg hb1,if_pos hb2,← ho']
      exact next w7 (o'++[l[i]],true,y) _ _ L' hs (by simp; omega) hS2 hN2 (St.tail (b:=n87) g7 hn87)
     cases d
     ·rw [Bool.not_false,BIf_true]
      refine hd2.ldA (k:=0) (i:=0) rfl (by simp [Prcs]) ⟨⟨rfl,trivial⟩,?_⟩
      refine hd2.newC fun n74 w5 hn74 h5=>?_
      have h5:St w0 w5 (((n74,Cs (Prcs y) 173)::[(n4,Cs (Prcs y) 173)])++(Lo++(Ll++H))):=h5
      obtain ⟨g',cap,w6,L',hru,hS',g6,hN'⟩:=app_part h5 hS hN (j:=0) rfl (by omega)
      refine ⟨_,_,_,w6,hru,?_⟩
      exact s9 w6 (o++[y]) _ _ L' rfl hS' hN' (St.tail (b:=n74) g6 hn74)
     ·rw [Bool.not_true,BIf_false]
      exact s9 _ o oa oc Lo rfl hS hN hd2
    ·intro hb2
     have hb2:¬ l[i].1 > y.2:=by simpa using hb2
     have hd3:=hd2.drew
     refine ⟨by omega,by omega,by omega,by omega,?_⟩
     have p0:=r0 hd3
     have p1:=r1 hd3
     have q0:=x0 hd3
     have q1:=x1 hd3
     have fin:∃ cs:Array Value,(∀ wq,(Instr.build 173 [(0,(Value.int .i64 (if l[i].1 < y.1 then l[i].1 else y.1))),(1,(Value.int .i64 (if y.2 < l[i].2 then l[i].2 else y.2)))].toArray).run P wq=.ok (Value.agg cs) wq)∧
       StA 2 (Addr.mk n4 0 none) cs w4.drew.drew.drew (fun w5=>f107_s8 (some ⟨g,0,none⟩) l.length lc oa o.length oc (Addr.mk n4 0 none) d none 0 0 (i:Nat) w5 K Y6):=by
      refine ⟨_,fun wq=>build173 _ _ wq,?_⟩
      refine hd3.stA (k:=0) rfl rfl (by simp [Prcs]) (by simp [Prcs,Value.oneCell']) fun w5 h5=>?_
      have hs:mStep (o,d,y) l[i]=(o,d,(if l[i].1 < y.1 then l[i].1 else y.1,if y.2 < l[i].2 then l[i].2 else y.2)):=by unfold mStep; rw [if_neg hb1,if_neg hb2]
      exact next w5 (o,d,(if l[i].1 < y.1 then l[i].1 else y.1,if y.2 < l[i].2 then l[i].2 else y.2)) oa oc Lo hs (by simp; omega) hS hN h5
     clear next hK hfin hY r0 r1 x0 x1 ldp hrw
     repeat' first
      | exact fin
      | refine ⟨_,p0,?_⟩
      | refine ⟨_,p1,?_⟩
      | refine ⟨_,q0,?_⟩
      | refine ⟨_,q1,?_⟩
      | refine ⟨_,_,run_min _ _ _,?_⟩
      | refine ⟨_,_,run_max' _ _ _,?_⟩
      | refine ⟨?_,?_⟩
  ·intro hge
   have hge:l.length≤i:=by simpa using hge
   have:i=l.length:=by omega
   subst this
   rw [List.drop_length,mFold] at hfin
   rw [← hfin] at e
   rw [f107_s10_eq]
   have fin:∀ w5 (o':List Prt) oa oc Lo',merged l x=o'→SlO 2 173 (.slice oa o'.length oc) o'.length (prsCs o') Lo'→New w0 Lo'→St w0 w5 ((n4,Cs (Prcs y) 173)::(Lo'++(Ll++H)))→f107_s11 oa o'.length oc w5 K:=by
    intro w5 o' oa oc Lo' he hS' hN' h5
    rw [f107_s11_eq]
    subst he
    refine hK w5 oa oc Lo' hS' hN' ?_
    have h6:=(h5.tail hn4).perm (H':=Ll++(Lo'++H)) (perm_by fun f=>by simp only [List.map_append,List.sum_append]; omega)
    exact h6.sub hlN
   cases d
   ·rw [Bool.not_false,BIf_true]
    refine hw.ldA (k:=0) (i:=0) rfl (by simp [Prcs]) ⟨⟨rfl,trivial⟩,?_⟩
    refine hw.newC fun n74 w5 hn74 h5=>?_
    have h5:St w0 w5 (((n74,Cs (Prcs y) 173)::[(n4,Cs (Prcs y) 173)])++(Lo++(Ll++H))):=h5
    obtain ⟨g',cap,w6,L',hru,hS',g6,hN'⟩:=app_part h5 hS hN (j:=0) rfl (by omega)
    refine ⟨_,_,_,w6,hru,?_⟩
    exact fin w6 (o++[y]) _ _ L' e hS' hN' (St.tail (b:=n74) g6 hn74)
   ·rw [Bool.not_true,BIf_false]
    exact fin w4 o oa oc Lo e hS hN hw
end Go.Fx.Try
