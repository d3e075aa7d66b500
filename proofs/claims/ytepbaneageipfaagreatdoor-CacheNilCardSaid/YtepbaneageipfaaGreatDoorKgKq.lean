/- A part of the proof. -/
import Derived.Test.YtepbaneageipfaaGreatDoorKeKq
import Derived.Test.YtepbaneageipfaaGreatDoorKfKq
import Derived.Lay
set_option linter.all false
namespace Go.Fx
open Go
variable {w0 w:World} {H:HBL}
theorem St.unadd {b:Nat} {o:Obj} (h:St w0 w ((b,o)::H)) (hb:w0.heap[b]?=some o):St w0 w H:=by
 refine ⟨h.kept,h.le,fun c p hp=>h.has c p (.tail _ hp),?_,fun k hk hn=>?_⟩
 ·have:=h.nd
  rw [List.map_cons] at this
  exact (List.nodup_cons.1 this).2
 ·by_cases e:k=b
  ·subst e
   rw [h.has k o (.head _),hb]
  ·exact h.old k hk (by rw [List.map_cons,List.mem_cons]; exact fun hc=>hc.elim e hn)
theorem St.below' (h:St w0 w []):RowKit.Below w0.heap.size w0 w:=⟨h.kept.os,h.kept.tape,h.kept.output,h.le,fun k hk=>h.old k hk (by simp)⟩
namespace Tryz
open Go.Fx.Ch
open Go.Proofs
set_option maxRecDepth 100000
theorem own:ownKnob P.godebug=none:=by kernel_rfl
theorem laidOut:laidOutB P=true:=by kernel_rfl
theorem slice_form {t e:TypeId} {W:World} {base:Nat} {sp:Nat→Bool} {held:Bool} {H:Type} {enc:TypeId × Value→H} {fuel:Nat} {c:Value} {x:DataW H × List MemPlace} (ht:P.underlying t=some (.slice e)) (h:DataW.trod enc P W base sp held fuel t [c]=some x):∃ a n k,c=.slice a n k:=by
 rcases DataW.trod_slice ht h with ⟨h0,_⟩ | ⟨a,len,cap,_,_,_,_,h0,_⟩
 ·exact ⟨_,_,_,by simpa using h0⟩
 ·exact ⟨_,_,_,by simpa using h0⟩
end Tryz
end Go.Fx
namespace Go.Proofs.YtepbaneageipfaaGreatDoor
open Go Go.Fx Go.Fx.Tryz Go.Fx.Ch
open Go.ChangeShapes Go.WideShapes Go.ChangeAt Go.RowKit
set_option maxRecDepth 100000
theorem door_met (os:Os) (args:Array Value):laidMetH Tryz.prog laid3 ((World.laidAll Tryz.prog os laid3).forCall (fun _ _=>0) ⟨#[],args,[]⟩).memory:=by
 rw [MakeChecks.laidMetH_plain _ _ _ (by kernel_rfl)]
 exact laidMet_laidAll _ (by kernel_rfl) (by kernel_rfl)
theorem readable66:Tryz.prog.readableRec 67=true:=by kernel_rfl
theorem types66:67 < Tryz.prog.types.size:=of_decide_eq_true (by kernel_rfl)
theorem act_form {H:Type} {enc:TypeId × Value→H} {W:World} {base:Nat} {sp:Nat→Bool} {held:Bool} {fuel:Nat} {cs:List Value} {x:DataW H × List MemPlace} (h:DataW.trod enc Tryz.prog W base sp held fuel 67 cs=some x) :
  ∃ (kd:Value) (ta at_ id slot s1 s2:Int) (sa ca:Option Addr) (sl sc cl cc:Nat),cs=[kd,U ta,.slice sa sl sc,.slice ca cl cc,U at_,U id,J slot,U s1,J s2]:=by
 have c67:Tryz.prog.cellsOf 67=9:=by kernel_rfl
 have c41:Tryz.prog.cellsOf 41=3:=by kernel_rfl
 have c36:Tryz.prog.cellsOf 36=2:=by kernel_rfl
 have c24:Tryz.prog.cellsOf 24=1:=by kernel_rfl
 have c3:Tryz.prog.cellsOf 3=1:=by kernel_rfl
 have c5:Tryz.prog.cellsOf 5=1:=by kernel_rfl
 have c37:Tryz.prog.cellsOf 37=1:=by kernel_rfl
 have c38:Tryz.prog.cellsOf 38=1:=by kernel_rfl
 obtain ⟨xs,m,_,_,hl,hxs,hf⟩:=DataW.trod_struct Tryz.underlying67 h
 rw [c67] at hl
 match cs,hl with
 | [a0,a1,a2,a3,a4,a5,a6,a7,a8],_=>
 have hx:∀ i,i < 6→∃ y,xs[i]?=some y:=fun i hi=>⟨xs[i]'(by rw [hxs]; exact hi),List.getElem?_eq_getElem _⟩
 obtain ⟨y1,e1⟩:=hx 1 (by omega)
 obtain ⟨y2,e2⟩:=hx 2 (by omega)
 obtain ⟨y3,e3⟩:=hx 3 (by omega)
 obtain ⟨y4,e4⟩:=hx 4 (by omega)
 obtain ⟨y5,e5⟩:=hx 5 (by omega)
 have t1:DataW.trod enc Tryz.prog W base sp held m 41 (([a0,a1,a2,a3,a4,a5,a6,a7,a8].drop 1).take (Tryz.prog.cellsOf 41))=some y1:=(hf 1 _ rfl).trans e1
 rw [c41] at t1
 have t2:DataW.trod enc Tryz.prog W base sp held m 24 (([a0,a1,a2,a3,a4,a5,a6,a7,a8].drop 4).take (Tryz.prog.cellsOf 24))=some y2:=(hf 2 _ rfl).trans e2
 rw [c24] at t2
 have t3:DataW.trod enc Tryz.prog W base sp held m 24 (([a0,a1,a2,a3,a4,a5,a6,a7,a8].drop 5).take (Tryz.prog.cellsOf 24))=some y3:=(hf 3 _ rfl).trans e3
 rw [c24] at t3
 have t4:DataW.trod enc Tryz.prog W base sp held m 3 (([a0,a1,a2,a3,a4,a5,a6,a7,a8].drop 6).take (Tryz.prog.cellsOf 3))=some y4:=(hf 4 _ rfl).trans e4
 rw [c3] at t4
 have t5:DataW.trod enc Tryz.prog W base sp held m 36 (([a0,a1,a2,a3,a4,a5,a6,a7,a8].drop 7).take (Tryz.prog.cellsOf 36))=some y5:=(hf 5 _ rfl).trans e5
 rw [c36] at t5
 have t1:DataW.trod enc Tryz.prog W base sp held m 41 [a1,a2,a3]=some y1:=t1
 have t2:DataW.trod enc Tryz.prog W base sp held m 24 [a4]=some y2:=t2
 have t3:DataW.trod enc Tryz.prog W base sp held m 24 [a5]=some y3:=t3
 have t4:DataW.trod enc Tryz.prog W base sp held m 3 [a6]=some y4:=t4
 have t5:DataW.trod enc Tryz.prog W base sp held m 36 [a7,a8]=some y5:=t5
 obtain ⟨k4,g4,_⟩:=DataW.trod_int Tryz.underlying24 t2
 obtain ⟨k5,g5,_⟩:=DataW.trod_int Tryz.underlying24 t3
 obtain ⟨k6,g6,_⟩:=DataW.trod_int Tryz.underlying3 t4
 obtain ⟨xs2,m2,_,_,_,hxs2,hf2⟩:=DataW.trod_struct Tryz.underlying41 t1
 have hx2:∀ i,i < 3→∃ y,xs2[i]?=some y:=fun i hi=>⟨xs2[i]'(by rw [hxs2]; exact hi),List.getElem?_eq_getElem _⟩
 obtain ⟨z0,q0⟩:=hx2 0 (by omega)
 obtain ⟨z1,q1⟩:=hx2 1 (by omega)
 obtain ⟨z2,q2⟩:=hx2 2 (by omega)
 have r0:DataW.trod enc Tryz.prog W base sp held m2 24 (([a1,a2,a3].drop 0).take (Tryz.prog.cellsOf 24))=some z0:=(hf2 0 _ rfl).trans q0
 rw [c24] at r0
 have r1:DataW.trod enc Tryz.prog W base sp held m2 37 (([a1,a2,a3].drop 1).take (Tryz.prog.cellsOf 37))=some z1:=(hf2 1 _ rfl).trans q1
 rw [c37] at r1
 have r2:DataW.trod enc Tryz.prog W base sp held m2 38 (([a1,a2,a3].drop 2).take (Tryz.prog.cellsOf 38))=some z2:=(hf2 2 _ rfl).trans q2
 rw [c38] at r2
 have r0:DataW.trod enc Tryz.prog W base sp held m2 24 [a1]=some z0:=r0
 have r1:DataW.trod enc Tryz.prog W base sp held m2 37 [a2]=some z1:=r1
 have r2:DataW.trod enc Tryz.prog W base sp held m2 38 [a3]=some z2:=r2
 obtain ⟨k1,g1,_⟩:=DataW.trod_int Tryz.underlying24 r0
 obtain ⟨sa,sl,sc,g2⟩:=slice_form Tryz.underlying37 r1
 obtain ⟨ca,cl,cc,g3⟩:=slice_form Tryz.underlying38 r2
 obtain ⟨xs3,m3,_,_,_,hxs3,hf3⟩:=DataW.trod_struct Tryz.underlying36 t5
 have hx3:∀ i,i < 2→∃ y,xs3[i]?=some y:=fun i hi=>⟨xs3[i]'(by rw [hxs3]; exact hi),List.getElem?_eq_getElem _⟩
 obtain ⟨u0,v0⟩:=hx3 0 (by omega)
 obtain ⟨u1,v1⟩:=hx3 1 (by omega)
 have w0:DataW.trod enc Tryz.prog W base sp held m3 24 (([a7,a8].drop 0).take (Tryz.prog.cellsOf 24))=some u0:=(hf3 0 _ rfl).trans v0
 rw [c24] at w0
 have w1:DataW.trod enc Tryz.prog W base sp held m3 3 (([a7,a8].drop 1).take (Tryz.prog.cellsOf 3))=some u1:=(hf3 1 _ rfl).trans v1
 rw [c3] at w1
 have w0:DataW.trod enc Tryz.prog W base sp held m3 24 [a7]=some u0:=w0
 have w1:DataW.trod enc Tryz.prog W base sp held m3 3 [a8]=some u1:=w1
 obtain ⟨k7,g7,_⟩:=DataW.trod_int Tryz.underlying24 w0
 obtain ⟨k8,g8,_⟩:=DataW.trod_int Tryz.underlying3 w1
 refine ⟨a0,k1,k4,k5,k6,k7,k8,sa,ca,sl,sc,cl,cc,?_⟩
 simp only [List.cons.injEq,and_true] at g1 g4 g5 g6 g7 g8
 rw [g1,g2,g3,g4,g5,g6,g7,g8]
abbrev arg11:Array Value:=#[.agg #[.int .u8 0,U 0,.slice none 0 0,.slice none 0 0,U 0,U 0,J 0,U 0,J 0]]
noncomputable abbrev world11 (os:Os):World:=(World.laidAll Tryz.prog os laid3).forCall (fun _ _=>0) ⟨#[],arg11,[]⟩
theorem shaped11 (os:Os):(world11 os).Shaped Tryz.prog:=World.shaped_of_ZipB (by as_aux_lemma=>kernel_rfl) (by as_aux_lemma=>kernel_rfl)
theorem okWide11 (os:Os):Input.okWideB Tryz.prog (world11 os) 11 ⟨#[],arg11,[]⟩=true:=by kernel_rfl
theorem pre11 (os:Os) {H:Type} (enc:TypeId × Value→H):Rows.cacheNilSpec.preB enc Tryz.prog Tryz.f11 [] false (world11 os).memory arg11 8=true:=by kernel_rfl
theorem sized11 (os:Os) {H:Type} (enc:TypeId × Value→H):Rows.cacheNilSpec.sizedB enc Tryz.prog Tryz.f11 false (world11 os).memory arg11 8=true:=by kernel_rfl
theorem cacheNil_lifted (os:Os) (started:os.Started) (H:Type) (enc:TypeId × Value→H) :
  ReturnsInHanded {} Tryz.checked os 11 .any (fun w args=>(Rows.cacheNilSpec.pre enc Tryz.prog Tryz.f11 [] false w args∧laidMetH Tryz.prog laid3 w)∧sizedMet enc Tryz.prog Tryz.f11 (OpenSpec.ofChange Rows.cacheNilSpec) false w args)
   (Rows.cacheNilSpec.post enc Tryz.prog Tryz.f11 false true false false):=by
 refine returnsInHanded_of_change_and (C:=Tryz.checked) (X:=fun w _=>laidMetH Tryz.prog laid3 w) (fun _ _ _ hh h=>h.of_heap hh) own started (by as_aux_lemma=>kernel_rfl) Tryz.func11
  (ChangeSpec.witness_shaped (enc:=enc) (C:=Tryz.checked) (os:=os) (X:=fun w _=>laidMetH Tryz.prog laid3 w) false (World.laidAll Tryz.prog os laid3) arg11 8 (World.laidAll_os _ _ _) (shaped11 os) (okWide11 os) (pre11 os enc) (sized11 os enc) (door_met os _)) ?_
 intro W base args ds gs before hval0 hW _ _ hL _
 have hval:∀ (j:Nat) t v,Tryz.f11.params[j]?=some t→args[j]?=some v→Value.okWide Tryz.prog W .any base t v:=hval0
 have hW':=hW
 obtain ⟨p,q,hA0,hV,rfl,hfz,hnd⟩:=hW
 have hA:DataW.TrodAll enc Tryz.prog W 0 (fun _=>true) true Tryz.f11.params.toList args.toList ds p:=hA0
 rw [Tryz.params11] at hA hval
 obtain ⟨v0,d0,rfl,rfl,h0⟩:=trodAll_one hA
 obtain ⟨rfl,rfl⟩:=trodVars_none hV
 obtain ⟨gcs,gt,t2,hb0,hT,hb2⟩:=laid_blocks hL
 obtain ⟨cs0,rfl,hsz⟩:=okWide_struct Tryz.underlying67 (hval 0 67 v0 rfl rfl)
 have form:∃ (kd:Value) (ta at_ id slot s1 s2:Int) (sa ca:Option Addr) (sl sc cl cc:Nat),cs0=#[kd,U ta,.slice sa sl sc,.slice ca cl cc,U at_,U id,J slot,U s1,J s2]:=by
  obtain ⟨fuel,hf⟩:=h0
  obtain ⟨kd,ta,at_,id,slot,s1,s2,sa,ca,sl,sc,cl,cc,e⟩:=act_form (cs:=cs0.toList) hf
  exact ⟨kd,ta,at_,id,slot,s1,s2,sa,ca,sl,sc,cl,cc,by rw [← Array.toArray_toList (xs:=cs0),e]⟩
 obtain ⟨kd,ta,at_,id,slot,s1,s2,sa,ca,sl,sc,cl,cc,rfl⟩:=form
 have hst:St W W [(2,Cs (tab64.map fun x=>.int .u8 x) t2),(0,Cs gcs gt)]:=((St.refl W).add hb0 (by simp)).add hb2 (by simp)
 have hg:Glob [(2,Cs (tab64.map fun x=>.int .u8 x) t2),(0,Cs gcs gt)]:=⟨⟨gcs,gt,.tail _ (.head _),hT⟩,t2,.head _⟩
 have hcall:=cacheNil_ok (w0:=W) (K:=fun v w'=>v=.bool true∧Below W.heap.size W w') (kd:=kd) (ta:=ta) (at_:=at_) (id:=id) (slot:=slot) (s1:=s1) (s2:=s2) (sa:=sa) (sl:=sl) (sc:=sc) (ca:=ca) (cl:=cl) (cc:=cc) hst hg (fun w' h'=>⟨rfl,((h'.unadd hb2).unadd hb0).below'⟩)
 refine Calls.mono hcall fun e W' he=>?_
 unfold retK at he
 split at he
 ·obtain ⟨rfl,hB⟩:=he
  have hlt:∀ x∈p,x.block < W.heap.size:=fun x hx=>hW'.lt x (by simp [hx])
  have h0':=Below.trod laidOut readable66 types66 h0 hB hlt
  exact ⟨_,rfl,_,_,_,[],p,[],hW',trodAll_mk1 (shut_bool Tryz.underlying4 _),trodAll_mk1 h0',rfl,hB.frame _,fun h=>by cases h⟩
 ·exact he.elim
theorem cacheNil_row:Rows.CacheNilSaid:=
 OpenClaim.holds_of_wide 11 Tryz.f11 rfl rfl rfl rfl rfl rfl rfl ⟨rfl,rfl,rfl,rfl,rfl⟩ rfl rfl rfl rfl rfl named11 Tryz.func11 closed11 inst11 wrap11
  (fun os started H enc _=>cacheNil_lifted os started H enc)
end Go.Proofs.YtepbaneageipfaaGreatDoor
