/- RaceOperations returns true for every list of events, address and indices, and they read behind the call as they read before. No condition. -/
import Derived.Test.YtamciedmojpjaaaGreatKfYi
namespace Go.Proofs.YtamciedmojpjaaaGreat
open Go Go.Fx Go.Fx.Tryz Go.Fx.Mo
open Go.ChangeShapes Go.WideShapes Go.ChangeAt Go.RowKit
set_option maxRecDepth 100000
theorem raceOperations_lifted (os:Os) (started:os.Started) (H:Type) (enc:TypeId × Value→H) :
  ReturnsInHanded {} Tryz.checked os 4 .any (Rows.raceOperationsSpec.pre6 enc Tryz.prog Tryz.f4 Rows.raceOperationsRow.domain false) (Rows.raceOperationsSpec.post enc Tryz.prog Tryz.f4 false true false false):=by
 refine returnsInHanded_of_change (C:=Tryz.checked) own started (by kernel_rfl) Tryz.func4
  (ChangeSpec.witness6 (enc:=enc) (C:=Tryz.checked) false ⟨#[],#[.slice none 0 0,.int .u32 0,.int .i64 0,.int .i64 0],[]⟩ 8 (by kernel_rfl) (by kernel_rfl) (by kernel_rfl) (by kernel_rfl)) ?_
 intro W base args ds gs before hval0 hW _ _
 have hval:∀ (j:Nat) t v,Tryz.f4.params[j]?=some t→args[j]?=some v→Value.okWide Tryz.prog W .any base t v:=hval0
 have hW':=hW
 obtain ⟨p,q,hA0,hV,rfl,hfz,hnd⟩:=hW
 have hA:DataW.TrodAll enc Tryz.prog W 0 (fun _=>true) true Tryz.f4.params.toList args.toList ds p:=hA0
 rw [Tryz.params4] at hA hval
 obtain ⟨v0,v1,v2,v3,d0,d1,d2,d3,p0,p1,p2,p3,rfl,rfl,rfl,h0,h1,h2,h3⟩:=trodAll_four hA
 obtain ⟨rfl,rfl⟩:=trodVars_none hV
 obtain ⟨l,hrow,hla⟩:=open_events_in (okWide_slice Tryz.underlying22 (hval 0 22 v0 rfl rfl)) h0
 obtain ⟨b,rfl,rfl,rfl,hwf1⟩:=open_int Tryz.underlying43 (hval 1 43 v1 rfl rfl) h1
 obtain ⟨i,rfl,rfl,rfl,hwf2⟩:=open_int Tryz.underlying3 (hval 2 3 v2 rfl rfl) h2
 obtain ⟨j,rfl,rfl,rfl,hwf3⟩:=open_int Tryz.underlying3 (hval 3 3 v3 rfl rfl) h3
 have hcall:=raceOperations_ok (w0:=W) (H:=[]) (K:=fun v w'=>v=.bool true∧Below W.heap.size W w') b i j hla (St.refl W) (fun w' h'=>Row.old hrow (New.nil W) h') (fun w' h'=>⟨rfl,h'.below⟩)
 refine Calls.mono hcall fun e W' he=>?_
 unfold retK at he
 split at he
 ·obtain ⟨rfl,hB⟩:=he
  have hlt:∀ x∈p0,x.block < W.heap.size:=fun x hx=>hW'.lt x (by simp [hx])
  have h0':=Below.trod laidOut readable22 types22 h0 hB hlt
  exact ⟨_,rfl,_,_,_,[],p0++([]++([]++[])),[],hW',trodAll_mk1 (shut_bool Tryz.underlying4 _),trodAll_mk4 h0' (shut_int Tryz.underlying43 hwf1) (shut_int Tryz.underlying3 hwf2) (shut_int Tryz.underlying3 hwf3),rfl,hB.frame _,fun h=>by cases h⟩
 ·exact he.elim
theorem raceOperations_holds:Rows.RaceOperationsSaid:=
 OpenClaim.holds_of_wide 4 Tryz.f4 rfl rfl rfl rfl rfl rfl rfl ⟨rfl,rfl,rfl,rfl,rfl⟩ rfl rfl rfl rfl rfl (by kernel_rfl) Tryz.func4 (by kernel_rfl)
  (of_decide_eq_true (by kernel_rfl)) (by unfold Func.isWrapper; first | (rw [if_pos (by decide +kernel)]; kernel_rfl) | (rw [if_neg (by decide +kernel)]; exact ⟨rfl,rfl⟩))
  (fun os started H enc _=>raceOperations_lifted os started H enc)
end Go.Proofs.YtamciedmojpjaaaGreat
