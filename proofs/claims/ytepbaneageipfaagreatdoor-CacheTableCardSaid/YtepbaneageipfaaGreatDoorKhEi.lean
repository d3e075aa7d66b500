/- A part of the proof. -/
import Derived.Test.YtepbaneageipfaaGreatDoorKeEi
import Derived.Test.YtepbaneageipfaaGreatDoorKfEi
import Derived.Test.YtepbaneageipfaaGreatDoorKgEi
set_option linter.all false
set_option autoImplicit true
set_option relaxedAutoImplicit true
noncomputable section
namespace Go.Proofs.YtepbaneageipfaaGreatDoor
open Go Go.Fx Go.Fx.Tryz Go.Fx.Ch
open Go.ChangeShapes Go.WideShapes Go.ChangeAt Go.RowKit
set_option linter.all false
set_option maxRecDepth 100000
abbrev qty:Array Value:=#[.agg #[J 0,J 0,J 0],.slice none 0 0,U 0]
abbrev q6z (os:Os):World:=(World.laidAll Tryz.prog os JU).forCall (fun _ _=>0) ⟨#[],qty,[]⟩
theorem qzF(os:Os):(q6z os).Shaped Tryz.prog:=World.shaped_of_ZipB (by as_aux_lemma=>kernel_rfl) (by as_aux_lemma=>kernel_rfl)
theorem qEv(os:Os):Input.okWideB Tryz.prog (q6z os) 9 ⟨#[],qty,[]⟩=true:=kr
theorem qNC(os:Os){H:Type}(enc:TypeId × Value->H):Rows.cacheTableSpec.preB enc Tryz.prog Tryz.f9 [] false (q6z os).memory qty 8=true:=kr
theorem qK9(os:Os){H:Type}(enc:TypeId × Value->H):Rows.cacheTableSpec.sizedB enc Tryz.prog Tryz.f9 false (q6z os).memory qty 8=true:=kr
theorem YQ(os:Os)(started:os.Started)(H:Type)(enc:TypeId × Value->H) :
  ReturnsInHanded {} Tryz.checked os 9 .any (fun w args=>(Rows.cacheTableSpec.pre enc Tryz.prog Tryz.f9 [] false w args/\laidMetH Tryz.prog JU w)/\sizedMet enc Tryz.prog Tryz.f9 (OpenSpec.ofChange Rows.cacheTableSpec) false w args)
   (Rows.cacheTableSpec.post enc Tryz.prog Tryz.f9 false true false false):=by
 refine returnsInHanded_of_change_and (C:=Tryz.checked) (X:=fun w _=>laidMetH Tryz.prog JU w) (fun _ _ _ hh h=>h.of_heap hh) own started (by as_aux_lemma=>kernel_rfl) Tryz.func9
  (ChangeSpec.witness_shaped (enc:=enc) (C:=Tryz.checked) (os:=os) (X:=fun w _=>laidMetH Tryz.prog JU w) false (World.laidAll Tryz.prog os JU) qty 8 (World.laidAll_os _ _ _) (qzF os) (qEv os) (qNC os enc) (qK9 os enc) (qxV os _)) ?_
 intro W base args ds gs before hval0 hW _ _ hL _
 have hval:∀ (j:Nat) t v,Tryz.f9.params[j]?=some t->args[j]?=some v->Value.okWide Tryz.prog W .any base t v:=hval0
 have hW':=hW
 obtain⟨p,q,hA0,hV,rfl,hfz,hnd⟩:=hW
 have hA:DataW.TrodAll enc Tryz.prog W 0 (fun _=>true) true Tryz.f9.params.toList args.toList ds p:=hA0
 rw[Tryz.params9]at hA hval
 obtain⟨v0,vs0,d0,ds0,p0,q0,e0,rfl,rfl,h0,hA⟩:=trodAll_cons hA
 obtain⟨v1,vs1,d1,ds1,p1,q1,rfl,rfl,rfl,h1,hA⟩:=trodAll_cons hA
 obtain⟨v2,vs2,d2,ds2,p2,q2,rfl,rfl,rfl,h2,hA⟩:=trodAll_cons hA
 obtain⟨rfl,rfl,rfl⟩:=trodAll_nil hA
 obtain rfl:args=#[v0,v1,v2]:=by rw[<-Array.toArray_toList (xs:=args),e0]
 obtain⟨rfl,rfl⟩:=trodVars_none hV
 obtain⟨gcs,gt,t2,hb0,hT,hb2⟩:=q8S hL
 obtain⟨sec,len,slots,rfl⟩:=qqE (hval 0 27 v0 rfl rfl) h0
 obtain⟨l,hr1,ha1,hl1⟩:=qpP (okWide_slice Tryz.underlying50 (hval 1 50 v1 rfl rfl)) h1 Tryz.underlying50
 obtain⟨x2,rfl,rfl,rfl,w2⟩:=open_int Tryz.underlying24 (hval 2 24 v2 rfl rfl) h2
 obtain⟨aa,ac,rfl⟩:=hr1.form
 have hst:St W W [(2,Cs (Yl.map fun x=>.int .u8 x) t2),(0,Cs gcs gt)]:=((St.refl W).add hb0 (by simp)).add hb2 (by simp)
 have hg:zA [(2,Cs (Yl.map fun x=>.int .u8 x) t2),(0,Cs gcs gt)]:=⟨⟨gcs,gt,.tail _ (.head _),hT⟩,t2,.head _⟩
 have hun:∀ w',St W w' [(2,Cs (Yl.map fun x=>.int .u8 x) t2),(0,Cs gcs gt)]->St W w' []:=fun w' h'=>(h'.unadd hb2).unadd hb0
 have hcall:=qtX (w0:=W) (K:=fun v w'=>v=.bool true/\Below W.heap.size W w') (sec:=sec) (len:=len) (slots:=slots) (qD6 hun hr1 ha1 hl1) (q3N w2) hg hst (fun w' h'=>⟨rfl,(hun w' h').below'⟩)
 refine Calls.mono hcall fun e W' he=>?_
 unfold q7L at he
 split at he
 ·obtain⟨rfl,hB⟩:=he
  have hlt0:∀ x∈p0,x.block<W.heap.size:=fun x hx=>hW'.lt x (by simp[hx])
  have hlt1:∀ x∈p1,x.block<W.heap.size:=fun x hx=>hW'.lt x (by simp[hx])
  have h0':=Below.trod qlf readable27 qEU h0 hB hlt0
  have h1':=Below.trod qlf readable50 qEh h1 hB hlt1
  have h5:=trodAll_append (trodAll_append (trodAll_mk1 (shut_int Tryz.underlying24 w2)) (trodAll_mk1 h1')) (trodAll_mk1 h0')
  exact⟨_,rfl,_,_,_,[],_,[],hW',trodAll_mk1 (shut_bool Tryz.underlying4 _),h5,rfl,hB.frame _,fun h=>by cases h⟩
 ·exact he.elim
theorem q1H:Rows.CacheTableSaid:=
 OpenClaim.holds_of_wide 9 Tryz.f9 rfl rfl rfl rfl rfl rfl rfl ⟨rfl,rfl,rfl,rfl,rfl⟩ rfl rfl rfl rfl rfl qGv Tryz.func9 qAe qMb qMi
  (fun os started H enc _=>YQ os started H enc)
end Go.Proofs.YtepbaneageipfaaGreatDoor
