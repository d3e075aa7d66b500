/- RaceFeeds: New, Feed, Clone, Racy and Size match the specification, event by event. -/
import Derived.Test.YtamciedmojpjaaaGreatKfYu
set_option linter.unusedSectionVars false
set_option autoImplicit true
set_option relaxedAutoImplicit true
noncomputable section
namespace Go.Fx.Tryz
open Go Go.Fx Go.Fx.Mo
open Go.Proofs
variable {w0 w:World} {H Y:qP} {K:KT}
set_option maxRecDepth 20000
theorem q7y{l:List Ev}{ov:Value}(hla:∀ e∈l,0<=e.a/\e.a<4294967296)(h:St w0 w H)(hrow:∀ w',St w0 w' H->Qt w' 6 ov l.length (zq l))(hK:∀ w',St w0 w' H->K (.bool true) w') :
  qa P 3 [ov] w K:=by
 obtain⟨sa,sc,hov⟩:=(hrow w h).form
 subst hov
 refine qKt _ _ _ _ _ ?_
 rw[qL0,qtl,qwc]
 refine qzr h fun w1 h1=>⟨true,rfl,?_⟩
 rw[qvE]
 refine qss 40 om h1 hrow fun b w2 hb h2=>⟨b,rfl,?_⟩
 rw[qg]
 refine⟨fun _=>hK w2 h2,fun hbf=>?_⟩
 obtain⟨hl,hbs⟩:=hb (by simpa using hbf)
 refine qBX h2 fun w3 h3=>?_
 rw[qlV]
 refine qz1 h3 fun w4 D hd hD h4=>⟨_,rfl,_,qwk,?_⟩
 rw[z52]
 refine h4.newC fun n4 w5 hn4 h5=>h5.stA (k:=0) rfl rfl (by simp) (by simp[Value.oneCell']) fun w6 h6=>?_
 have h6:St w0 w6 ((n4,Cs [qy,qy] 52)::(zg D++H)):=h6
 have h6:St w0 w6 (zg D++((n4,Cs [qy,qy] 52)::([]++H))):=h6.perm (qK fun c=>by
  simp only[List.map_append,List.map_cons,List.map_nil,List.sum_append,List.sum_cons,List.sum_nil];omega)
 rw[qnW]
 refine⟨l.length,fun wq _=>yb wq,?_⟩
 rw[qmq]
 refine⟨EvI w0 H l sa sc n4 D.db,⟨l.length,0,D,⟨[],[]⟩,qy,qy,[],[],[],by omega,rfl,rfl,rfl,by rw[hd];exact FR.zero,hD,by simp,by simp[Qz],zC.nil 6 45,by simp,zC.nil 1 43,by simp,zr.nil w0,h6⟩,?_⟩
 rintro m ee w7 ⟨i,D',s,lv,tv,LL,LT,X,hi,rfl,rfl,hdb,hFR,hD',hsl,htot,hL,hLL,hT,hLT,hNX,h7⟩
 show qiY ..
 rw[qfm,qnJ,qg]
 constructor
 ·intro hlt
  have hlt:i<l.length:=by simpa using hlt
  rw[<-hdb]
  exact qMi hla om hbs hn4 hlt hrow hFR hD' hsl htot hL hLL hT hLT hNX h7
 ·intro _
  rw[qn0]
  exact hK w7 (((h7.sub hD'.newH).tail hn4).sub hNX)
end Go.Fx.Tryz
namespace Go.Proofs.YtamciedmojpjaaaGreat
open Go Go.Fx Go.Fx.Tryz Go.Fx.Mo
open Go.ChangeShapes Go.WideShapes Go.ChangeAt Go.RowKit
set_option maxRecDepth 100000
theorem q28(os:Os)(started:os.Started)(H:Type)(enc:TypeId × Value->H) :
  ReturnsInHanded {} Tryz.checked os 3 .any (Rows.raceFeedsSpec.pre6 enc Tryz.prog Tryz.f3 Rows.raceFeedsRow.domain false) (Rows.raceFeedsSpec.post enc Tryz.prog Tryz.f3 false true false false):=by
 refine returnsInHanded_of_change (C:=Tryz.checked) own started kr Tryz.func3
  (ChangeSpec.witness6 (enc:=enc) (C:=Tryz.checked) false ⟨#[],#[.slice none 0 0],[]⟩ 8 kr kr kr kr) ?_
 intro W base args ds gs before hval0 hW _ _
 have hval:∀ (j:Nat) t v,Tryz.f3.params[j]?=some t->args[j]?=some v->Value.okWide Tryz.prog W .any base t v:=hval0
 have hW':=hW
 obtain⟨p,q,hA0,hV,rfl,hfz,hnd⟩:=hW
 have hA:DataW.TrodAll enc Tryz.prog W 0 (fun _=>true) true Tryz.f3.params.toList args.toList ds p:=hA0
 rw[Tryz.params3]at hA hval
 obtain⟨v0,d0,rfl,rfl,h0⟩:=trodAll_one hA
 obtain⟨rfl,rfl⟩:=trodVars_none hV
 obtain⟨l,hrow,hla⟩:=q4o (okWide_slice Tryz.underlying22 (hval 0 22 v0 rfl rfl)) h0
 have hcall:=q7y (w0:=W) (H:=[]) (K:=fun v w'=>v=.bool true/\Below W.heap.size W w') hla (St.refl W) (fun w' h'=>Qt.old hrow (zr.nil W) h') (fun w' h'=>⟨rfl,h'.below⟩)
 refine Calls.mono hcall fun e W' he=>?_
 unfold q5B at he
 split at he
 ·obtain⟨rfl,hB⟩:=he
  have hlt:∀ x∈p,x.block<W.heap.size:=fun x hx=>hW'.lt x (by simp[hx])
  have h0':=Below.trod qBC readable22 qDp h0 hB hlt
  exact⟨_,rfl,_,_,_,[],p,[],hW',trodAll_mk1 (shut_bool Tryz.underlying4 _),trodAll_mk1 h0',rfl,hB.frame _,fun h=>by cases h⟩
 ·exact he.elim
theorem raceFeeds_holds:Rows.RaceFeedsSaid:=
 OpenClaim.holds_of_wide 3 Tryz.f3 rfl rfl rfl rfl rfl rfl rfl ⟨rfl,rfl,rfl,rfl,rfl⟩ rfl rfl rfl rfl rfl kr Tryz.func3 kr
  (of_decide_eq_true kr) (by unfold Func.isWrapper;first | (rw[if_pos (by decide +kernel)];kernel_rfl) | (rw[if_neg (by decide +kernel)];exact⟨rfl,rfl⟩))
  (fun os started H enc _=>q28 os started H enc)
end Go.Proofs.YtamciedmojpjaaaGreat
