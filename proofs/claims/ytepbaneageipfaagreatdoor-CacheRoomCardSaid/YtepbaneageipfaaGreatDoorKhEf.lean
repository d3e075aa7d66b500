/- A part of the proof. -/
import Derived.Test.YtepbaneageipfaaGreatDoorKeEf
import Derived.Test.YtepbaneageipfaaGreatDoorKfEf
import Derived.Test.YtepbaneageipfaaGreatDoorKgEf
set_option linter.all false
set_option autoImplicit true
set_option relaxedAutoImplicit true
noncomputable section
namespace Go.Proofs.YtepbaneageipfaaGreatDoor
open Go Go.Fx Go.Fx.Tryz Go.Fx.Ch
open Go.ChangeShapes Go.WideShapes Go.ChangeAt Go.RowKit
set_option linter.all false
set_option maxRecDepth 100000
abbrev qtK:Array Value:=#[.agg #[J 0,J 0,J 0],.slice none 0 0]
abbrev q6e (os:Os):World:=(World.laidAll Tryz.prog os JM).forCall (fun _ _=>0) ⟨#[],qtK,[]⟩
theorem qB1(os:Os):(q6e os).Shaped Tryz.prog:=World.shaped_of_ZipB (by as_aux_lemma=>kernel_rfl) (by as_aux_lemma=>kernel_rfl)
theorem qzq(os:Os):Input.okWideB Tryz.prog (q6e os) 6 ⟨#[],qtK,[]⟩=true:=kr
theorem qNw(os:Os){H:Type}(enc:TypeId × Value->H):Rows.cacheRoomSpec.preB enc Tryz.prog Tryz.f6 [] false (q6e os).memory qtK 8=true:=kr
theorem qHt(os:Os){H:Type}(enc:TypeId × Value->H):Rows.cacheRoomSpec.sizedB enc Tryz.prog Tryz.f6 false (q6e os).memory qtK 8=true:=kr
theorem Jp(os:Os)(started:os.Started)(H:Type)(enc:TypeId × Value->H) :
  ReturnsInHanded {} Tryz.checked os 6 .any (fun w args=>(Rows.cacheRoomSpec.pre enc Tryz.prog Tryz.f6 [] false w args/\laidMetH Tryz.prog JM w)/\sizedMet enc Tryz.prog Tryz.f6 (OpenSpec.ofChange Rows.cacheRoomSpec) false w args)
   (Rows.cacheRoomSpec.post enc Tryz.prog Tryz.f6 false true false false):=by
 refine returnsInHanded_of_change_and (C:=Tryz.checked) (X:=fun w _=>laidMetH Tryz.prog JM w) (fun _ _ _ hh h=>h.of_heap hh) own started (by as_aux_lemma=>kernel_rfl) Tryz.func6
  (ChangeSpec.witness_shaped (enc:=enc) (C:=Tryz.checked) (os:=os) (X:=fun w _=>laidMetH Tryz.prog JM w) false (World.laidAll Tryz.prog os JM) qtK 8 (World.laidAll_os _ _ _) (qB1 os) (qzq os) (qNw os enc) (qHt os enc) (qse os _)) ?_
 intro W base args ds gs before hval0 hW _ _ hL _
 have hval:∀ (j:Nat) t v,Tryz.f6.params[j]?=some t->args[j]?=some v->Value.okWide Tryz.prog W .any base t v:=hval0
 have hW':=hW
 obtain⟨p,q,hA0,hV,rfl,hfz,hnd⟩:=hW
 have hA:DataW.TrodAll enc Tryz.prog W 0 (fun _=>true) true Tryz.f6.params.toList args.toList ds p:=hA0
 rw[Tryz.params6]at hA hval
 obtain⟨v0,vs0,d0,ds0,p0,q0,e0,rfl,rfl,h0,hA⟩:=trodAll_cons hA
 obtain⟨v1,vs1,d1,ds1,p1,q1,rfl,rfl,rfl,h1,hA⟩:=trodAll_cons hA
 obtain⟨rfl,rfl,rfl⟩:=trodAll_nil hA
 obtain rfl:args=#[v0,v1]:=by rw[<-Array.toArray_toList (xs:=args),e0]
 obtain⟨rfl,rfl⟩:=trodVars_none hV
 obtain⟨gcs,gt,t2,hb0,hT,hb2⟩:=q7Z hL
 obtain⟨sec,len,slots,rfl⟩:=qqM (hval 0 27 v0 rfl rfl) h0
 obtain⟨l,hr1,ha1,hl1⟩:=qoC (okWide_slice Tryz.underlying50 (hval 1 50 v1 rfl rfl)) h1 Tryz.underlying50
 obtain⟨aa,ac,rfl⟩:=hr1.form
 have hst:St W W [(2,Cs (Yo.map fun x=>.int .u8 x) t2),(0,Cs gcs gt)]:=((St.refl W).add hb0 (by simp)).add hb2 (by simp)
 have hg:zC [(2,Cs (Yo.map fun x=>.int .u8 x) t2),(0,Cs gcs gt)]:=⟨⟨gcs,gt,.tail _ (.head _),hT⟩,t2,.head _⟩
 have hun:∀ w',St W w' [(2,Cs (Yo.map fun x=>.int .u8 x) t2),(0,Cs gcs gt)]->St W w' []:=fun w' h'=>(h'.unadd hb2).unadd hb0
 have hcall:=qzJ (w0:=W) (K:=fun v w'=>v=.bool true/\Below W.heap.size W w') (sec:=sec) (len:=len) (slots:=slots) (qA2 hun hr1 ha1 hl1) hg hst (fun w' h'=>⟨rfl,(hun w' h').below'⟩)
 refine Calls.mono hcall fun e W' he=>?_
 unfold q5f at he
 split at he
 ·obtain⟨rfl,hB⟩:=he
  have hlt0:∀ x∈p0,x.block<W.heap.size:=fun x hx=>hW'.lt x (by simp[hx])
  have hlt1:∀ x∈p1,x.block<W.heap.size:=fun x hx=>hW'.lt x (by simp[hx])
  have h0':=Below.trod ql7 readable27 qAS h0 hB hlt0
  have h1':=Below.trod ql7 readable50 qE8 h1 hB hlt1
  have h5:=trodAll_append (trodAll_mk1 h1') (trodAll_mk1 h0')
  exact⟨_,rfl,_,_,_,[],_,[],hW',trodAll_mk1 (shut_bool Tryz.underlying4 _),h5,rfl,hB.frame _,fun h=>by cases h⟩
 ·exact he.elim
theorem q3S:Rows.CacheRoomSaid:=
 OpenClaim.holds_of_wide 6 Tryz.f6 rfl rfl rfl rfl rfl rfl rfl ⟨rfl,rfl,rfl,rfl,rfl⟩ rfl rfl rfl rfl rfl qGM Tryz.func6 qA4 qKE qLi
  (fun os started H enc _=>Jp os started H enc)
end Go.Proofs.YtepbaneageipfaaGreatDoor
