/- RaceRaces returns true for every list of events and address, and both read behind the call as they read before. No condition. -/
import Derived.Test.YtamciedmojpjaaaKfXh
namespace Go.Proofs.Ytamciedmojpjaaa
open Go Go.Fx Go.Fx.Try Go.Fx.Mo
open Go.ChangeShapes Go.WideShapes Go.ChangeAt Go.RowKit
set_option maxRecDepth 100000
theorem raceRaces_lifted (os:Os) (started:os.Started) (H:Type) (enc:TypeId × Value→H) :
  ReturnsInHanded {} Try.checked os 8 .any (Rows.raceRacesSpec.pre6 enc Try.prog Try.f8 Rows.raceRacesRow.domain false) (Rows.raceRacesSpec.post enc Try.prog Try.f8 false true false false):=by
 refine returnsInHanded_of_change (C:=Try.checked) own started (by kernel_rfl) Try.func8
  (ChangeSpec.witness6 (enc:=enc) (C:=Try.checked) false ⟨#[],#[.slice none 0 0,.int .u32 0],[]⟩ 8 (by kernel_rfl) (by kernel_rfl) (by kernel_rfl) (by kernel_rfl)) ?_
 intro W base args ds gs before hval0 hW _ _
 have hval:∀ (j:Nat) t v,Try.f8.params[j]?=some t→args[j]?=some v→Value.okWide Try.prog W .any base t v:=hval0
 have hW':=hW
 obtain ⟨p,q,hA0,hV,rfl,hfz,hnd⟩:=hW
 have hA:DataW.TrodAll enc Try.prog W 0 (fun _=>true) true Try.f8.params.toList args.toList ds p:=hA0
 rw [Try.params8] at hA hval
 obtain ⟨v0,v1,d0,d1,p0,p1,rfl,rfl,rfl,h0,h1⟩:=trodAll_two hA
 obtain ⟨rfl,rfl⟩:=trodVars_none hV
 obtain ⟨l,hrow,hla⟩:=open_events_in (okWide_slice Try.underlying22 (hval 0 22 v0 rfl rfl)) h0
 obtain ⟨b,rfl,rfl,rfl,hwf1⟩:=open_int Try.underlying33 (hval 1 33 v1 rfl rfl) h1
 have hcall:=raceRaces_ok (w0:=W) (H:=[]) (K:=fun v w'=>v=.bool true∧Below W.heap.size W w') b hla (St.refl W) (fun w' h'=>Row.old hrow (New.nil W) h') (fun w' h'=>⟨rfl,h'.below⟩)
 refine Calls.mono hcall fun e W' he=>?_
 unfold retK at he
 split at he
 ·obtain ⟨rfl,hB⟩:=he
  have hlt:∀ x∈p0,x.block < W.heap.size:=fun x hx=>hW'.lt x (by simp [hx])
  have h0':=Below.trod laidOut readable22 types22 h0 hB hlt
  exact ⟨_,rfl,_,_,_,[],p0++[],[],hW',trodAll_mk1 (shut_bool Try.underlying4 _),trodAll_mk2 h0' (shut_int Try.underlying33 hwf1),rfl,hB.frame _,fun h=>by cases h⟩
 ·exact he.elim
theorem raceRaces_holds:Rows.RaceRacesSaid:=
 OpenClaim.holds_of_wide 8 Try.f8 rfl rfl rfl rfl rfl rfl rfl ⟨rfl,rfl,rfl,rfl,rfl⟩ rfl rfl rfl rfl rfl (by kernel_rfl) Try.func8 (by kernel_rfl)
  (of_decide_eq_true (by kernel_rfl)) (by unfold Func.isWrapper; first | (rw [if_pos (by decide +kernel)]; kernel_rfl) | (rw [if_neg (by decide +kernel)]; exact ⟨rfl,rfl⟩))
  (fun os started H enc _=>raceRaces_lifted os started H enc)
end Go.Proofs.Ytamciedmojpjaaa
