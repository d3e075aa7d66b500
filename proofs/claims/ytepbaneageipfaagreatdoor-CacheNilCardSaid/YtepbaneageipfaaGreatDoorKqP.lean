/- CacheNil returns true for every act, and the act reads behind the call as it read before: the tied card. No condition beyond the row. -/
import Derived.Test.YtepbaneageipfaaGreatDoorKgKq
import Derived.Test.YtepbaneageipfaaGreatDoorTie
import Derived.Test.YtepbaneageipfaaGreatDoorCards
import Derived.SevenTiedAt
set_option linter.all false
namespace Go.Proofs.YtepbaneageipfaaGreatDoor
open Go
set_option maxRecDepth 100000
theorem cacheNil_holds:Rows.CacheNilCardSaid:=
 Claim7.holds_tied_plain_at .later [] [.data, .data, .data] true (true, "7241155afdb9d0d1f9bab0e5c725654399425f91bba8db0dfffcda845c3196ba") true
  cacheNil_row (fun _ h=>by cases h) (by as_aux_lemma=>kernel_rfl) (fun _ h=>by cases h) cacheNil_row_tie rfl ⟨rfl,rfl⟩ (by as_aux_lemma=>kernel_rfl) rfl
  (fun f fn hf hfn=>by
   obtain rfl : f = 11 := Option.some.inj ((show Tryz.prog.funcNamed "candling/candlinglaw21.CacheNil" = some 11 by kernel_rfl).symm.trans hf) |>.symm
   obtain rfl:fn=Tryz.f11:=(Option.some.inj (Tryz.func11.symm.trans hfn)).symm
   exact ⟨by as_aux_lemma=>kernel_rfl,fun j t ht=>by
    rw [Tryz.params11] at ht
    have hm:t∈[67]:=by simpa using Array.mem_of_getElem? ht
    have hall:([67].all fun u=>!Tryz.prog.wantsStandIn u)=true:=by as_aux_lemma=>kernel_rfl
    exact (show Tryz.prog.wantsStandIn t=false by simpa using List.all_eq_true.1 hall t hm)⟩)
  (by as_aux_lemma=>kernel_rfl)
end Go.Proofs.YtepbaneageipfaaGreatDoor
