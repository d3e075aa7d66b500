/- A part of the proof. -/
import Derived.Test.YtepbaneageipfaaGreatDoorKeTi
import Derived.Test.YtepbaneageipfaaGreatDoorKfTi
set_option linter.all false
set_option autoImplicit true
set_option relaxedAutoImplicit true
noncomputable section
namespace Go.Fx.Tryz
open Go Go.Fx Go.Fx.Ch
open Go.Proofs
open Go.ChangeShapes Go.WideShapes Go.ChangeAt Go.RowKit
set_option linter.all false
set_option maxRecDepth 100000
variable {H:Type} {enc:TypeId × Value->H} {W:World}
theorem qrg{n:Int}(h:(Lit.int .u32 n).wf=true):0<=n/\n<4294967296:=by
 simp[Lit.wf,IntKind.min,IntKind.max,IntKind.signed,IntKind.bits]at h
 omega
theorem qC0{n:Int}(h:(Lit.int .u8 n).wf=true):0<=n/\n<256:=by
 simp[Lit.wf,IntKind.min,IntKind.max,IntKind.signed,IntKind.bits]at h
 omega
theorem qzl:P.cellsOf 24=1:=kr
theorem qFV:P.cellsOf 4=1:=kr
theorem qgO{base:Nat}{spare:Nat->Bool}{held:Bool}{v:Value}{d:DataW H}{p:List MemPlace}(hv:∃ a len cap,v=.slice a len cap)(h:DataW.Trod enc P W base spare held 22 v d p) :
  ∃ xs:List Int,vC W 1 v xs.length (xs.map U)/\∀ x∈xs,jm x:=by
 obtain⟨fuel,hf⟩:=h
 obtain⟨a0,len0,cap0,rfl⟩:=hv
 rcases Deep.open_slice1 Tryz.underlying22 qzl hf with⟨hc,_⟩ | ⟨a,len,cap,m,n,V,D,Pl,hc,_,hle,hcm,hm,_,hall⟩
 ·have hv:Value.slice a0 len0 cap0=.slice none 0 0:=by simpa [Value.cells]using hc
  exact⟨[],⟨rfl,.inl ⟨hv,rfl⟩⟩,by simp⟩
 ·have hv:Value.slice a0 len0 cap0=.slice (some a) len cap:=by simpa [Value.cells]using hc
  have hlm:len<=m:=by rw[hm];split<;>omega
  obtain⟨E,hE⟩:=Deep.choose_lt (α:=Int) (n:=len) (p:=fun i x=>W.cell? (a.add i)=some (U x)/\jm x) (fun i hi=>by
   obtain⟨h1,h2⟩:=hall i om
   obtain⟨x,e,_,hw⟩:=DataW.trod_int Tryz.underlying24 h2
   refine⟨x,?_,qrg hw⟩
   rw[h1]
   simpa using e)
  refine⟨(List.range len).map E,⟨by simp,.inr ⟨a,cap,by simpa using hv,fun i hi=>?_⟩⟩,fun x hx=>?_⟩
  ·have hi:i<len:=by simpa using hi
   rw[(hE i hi).1,List.map_map,List.getElem?_map,List.getElem?_range hi]
   rfl
  ·obtain⟨i,hi,rfl⟩:=List.mem_map.1 hx
   exact(hE i (List.mem_range.1 hi)).2
theorem qck{base:Nat}{spare:Nat->Bool}{held:Bool}{v:Value}{d:DataW H}{p:List MemPlace}(hv:∃ a len cap,v=.slice a len cap)(h:DataW.Trod enc P W base spare held 23 v d p) :
  ∃ xs:List Bool,vC W 1 v xs.length (xs.map Value.bool):=by
 obtain⟨fuel,hf⟩:=h
 obtain⟨a0,len0,cap0,rfl⟩:=hv
 rcases Deep.open_slice1 Tryz.underlying23 qFV hf with⟨hc,_⟩ | ⟨a,len,cap,m,n,V,D,Pl,hc,_,hle,hcm,hm,_,hall⟩
 ·have hv:Value.slice a0 len0 cap0=.slice none 0 0:=by simpa [Value.cells]using hc
  exact⟨[],⟨rfl,.inl ⟨hv,rfl⟩⟩⟩
 ·have hv:Value.slice a0 len0 cap0=.slice (some a) len cap:=by simpa [Value.cells]using hc
  have hlm:len<=m:=by rw[hm];split<;>omega
  obtain⟨E,hE⟩:=Deep.choose_lt (α:=Bool) (n:=len) (p:=fun i x=>W.cell? (a.add i)=some (.bool x)) (fun i hi=>by
   obtain⟨h1,h2⟩:=hall i om
   obtain⟨x,e,_⟩:=DataW.trod_bool Tryz.underlying4 h2
   refine⟨x,?_⟩
   rw[h1]
   simpa using e)
  refine⟨(List.range len).map E,by simp,.inr ⟨a,cap,by simpa using hv,fun i hi=>?_⟩⟩
  have hi:i<len:=by simpa using hi
  rw[hE i hi,List.map_map,List.getElem?_map,List.getElem?_range hi]
  rfl
theorem readable22:P.readableRec 22=true:=kr
theorem qyo:22<P.types.size:=of_decide_eq_true kr
theorem readable23:P.readableRec 23=true:=kr
theorem qyn:23<P.types.size:=of_decide_eq_true kr
end Go.Fx.Tryz
namespace Go.Proofs.YtepbaneageipfaaGreatDoor
open Go Go.Fx Go.Fx.Tryz Go.Fx.Ch
open Go.ChangeShapes Go.WideShapes Go.ChangeAt Go.RowKit
set_option linter.all false
set_option maxRecDepth 100000
abbrev qu2:Array Value:=#[.int .u8 0,.slice none 0 0,.slice none 0 0,.int .u8 0,U 0]
abbrev q5q (os:Os):World:=(World.laidAll Tryz.prog os Jn).forCall (fun _ _=>0) ⟨#[],qu2,[]⟩
theorem qxh(os:Os):(q5q os).Shaped Tryz.prog:=World.shaped_of_ZipB (by as_aux_lemma=>kernel_rfl) (by as_aux_lemma=>kernel_rfl)
theorem qzL(os:Os):Input.okWideB Tryz.prog (q5q os) 3 ⟨#[],qu2,[]⟩=true:=kr
theorem qJs(os:Os){H:Type}(enc:TypeId × Value->H):Rows.cacheProbesSpec.preB enc Tryz.prog Tryz.f3 [] false (q5q os).memory qu2 8=true:=kr
theorem qGc(os:Os){H:Type}(enc:TypeId × Value->H):Rows.cacheProbesSpec.sizedB enc Tryz.prog Tryz.f3 false (q5q os).memory qu2 8=true:=kr
theorem ZS(os:Os)(started:os.Started)(H:Type)(enc:TypeId × Value->H) :
  ReturnsInHanded {} Tryz.checked os 3 .any (fun w args=>(Rows.cacheProbesSpec.pre enc Tryz.prog Tryz.f3 [] false w args/\laidMetH Tryz.prog Jn w)/\sizedMet enc Tryz.prog Tryz.f3 (OpenSpec.ofChange Rows.cacheProbesSpec) false w args)
   (Rows.cacheProbesSpec.post enc Tryz.prog Tryz.f3 false true false false):=by
 refine returnsInHanded_of_change_and (C:=Tryz.checked) (X:=fun w _=>laidMetH Tryz.prog Jn w) (fun _ _ _ hh h=>h.of_heap hh) own started (by as_aux_lemma=>kernel_rfl) Tryz.func3
  (ChangeSpec.witness_shaped (enc:=enc) (C:=Tryz.checked) (os:=os) (X:=fun w _=>laidMetH Tryz.prog Jn w) false (World.laidAll Tryz.prog os Jn) qu2 8 (World.laidAll_os _ _ _) (qxh os) (qzL os) (qJs os enc) (qGc os enc) (quM os _)) ?_
 intro W base args ds gs before hval0 hW _ _ hL _
 have hval:∀ (j:Nat) t v,Tryz.f3.params[j]?=some t->args[j]?=some v->Value.okWide Tryz.prog W .any base t v:=hval0
 have hW':=hW
 obtain⟨p,q,hA0,hV,rfl,hfz,hnd⟩:=hW
 have hA:DataW.TrodAll enc Tryz.prog W 0 (fun _=>true) true Tryz.f3.params.toList args.toList ds p:=hA0
 rw[Tryz.params3]at hA hval
 obtain⟨v0,vs0,d0,ds0,p0,q0,e0,rfl,rfl,h0,hA⟩:=trodAll_cons hA
 obtain⟨v1,vs1,d1,ds1,p1,q1,rfl,rfl,rfl,h1,hA⟩:=trodAll_cons hA
 obtain⟨v2,vs2,d2,ds2,p2,q2,rfl,rfl,rfl,h2,hA⟩:=trodAll_cons hA
 obtain⟨v3,vs3,d3,ds3,p3,q3,rfl,rfl,rfl,h3,hA⟩:=trodAll_cons hA
 obtain⟨v4,vs4,d4,ds4,p4,q4,rfl,rfl,rfl,h4,hA⟩:=trodAll_cons hA
 obtain⟨rfl,rfl,rfl⟩:=trodAll_nil hA
 obtain rfl:args=#[v0,v1,v2,v3,v4]:=by rw[<-Array.toArray_toList (xs:=args),e0]
 obtain⟨rfl,rfl⟩:=trodVars_none hV
 obtain⟨gcs,gt,t2,hb0,hT,hb2⟩:=q7c hL
 obtain⟨slots,rfl,rfl,rfl,w0⟩:=open_int Tryz.underlying5 (hval 0 5 v0 rfl rfl) h0
 obtain⟨ins,hr1,hw1⟩:=qgO (okWide_slice Tryz.underlying22 (hval 1 22 v1 rfl rfl)) h1
 obtain⟨stay,hr2⟩:=qck (okWide_slice Tryz.underlying23 (hval 2 23 v2 rfl rfl)) h2
 obtain⟨turn,rfl,rfl,rfl,w3⟩:=open_int Tryz.underlying5 (hval 3 5 v3 rfl rfl) h3
 obtain⟨at_,rfl,rfl,rfl,w4⟩:=open_int Tryz.underlying24 (hval 4 24 v4 rfl rfl) h4
 obtain⟨ia,ic,rfl⟩:=hr1.form
 obtain⟨sa,sc,rfl⟩:=hr2.form
 have hs:=qC0 w0
 have ht:=qC0 w3
 obtain⟨t,rfl⟩:=Int.eq_ofNat_of_zero_le ht.1
 have hst:St W W [(2,Cs (ZF.map fun x=>.int .u8 x) t2),(0,Cs gcs gt)]:=((St.refl W).add hb0 (by simp)).add hb2 (by simp)
 have hg:zr [(2,Cs (ZF.map fun x=>.int .u8 x) t2),(0,Cs gcs gt)]:=⟨⟨gcs,gt,.tail _ (.head _),hT⟩,t2,.head _⟩
 have hun:∀ w',St W w' [(2,Cs (ZF.map fun x=>.int .u8 x) t2),(0,Cs gcs gt)]->St W w' []:=fun w' h'=>(h'.unadd hb2).unadd hb0
 have hcall:=qdb (w0:=W) (K:=fun v w'=>v=.bool true/\Below W.heap.size W w') (slots:=slots) (at_:=at_) (t:=t) (ins:=ins) (stay:=stay) (ia:=ia) (ic:=ic) (sa:=sa) (sl:=stay.length) (sc:=sc) hst hg hs.1 om (qrg w4) hw1
  (fun w' h'=>vC.old hr1 (qD.nil W) (hun w' h')) (fun w' h'=>vC.old hr2 (qD.nil W) (hun w' h')) (fun w' h'=>⟨rfl,(hun w' h').below'⟩)
 refine Calls.mono hcall fun e W' he=>?_
 unfold q6e at he
 split at he
 ·obtain⟨rfl,hB⟩:=he
  have hlt1:∀ x∈p1,x.block<W.heap.size:=fun x hx=>hW'.lt x (by simp[hx])
  have hlt2:∀ x∈p2,x.block<W.heap.size:=fun x hx=>hW'.lt x (by simp[hx])
  have h1':=Below.trod qmW readable22 qyo h1 hB hlt1
  have h2':=Below.trod qmW readable23 qyn h2 hB hlt2
  have h5:=trodAll_append (trodAll_mk4 h1' h2' (shut_int Tryz.underlying5 w3) (shut_int Tryz.underlying24 w4)) (trodAll_mk1 (shut_int Tryz.underlying5 w0))
  exact⟨_,rfl,_,_,_,[],[]++(p1++(p2++([]++[]))),[],hW',trodAll_mk1 (shut_bool Tryz.underlying4 _),h5,rfl,hB.frame _,fun h=>by cases h⟩
 ·exact he.elim
theorem Jy:Rows.CacheProbesSaid:=
 OpenClaim.holds_of_wide 3 Tryz.f3 rfl rfl rfl rfl rfl rfl rfl ⟨rfl,rfl,rfl,rfl,rfl⟩ rfl rfl rfl rfl rfl qD7 Tryz.func3 qzC qHX qGp
  (fun os started H enc _=>ZS os started H enc)
end Go.Proofs.YtepbaneageipfaaGreatDoor
