/- CacheTable returns true for every configuration, acts and address, and the acts read behind the call as they read before: the tied card. No condition beyond the row. -/
import Derived.Test.YtepbaneageipfaaGreatDoorKhEi
import Derived.Test.YtepbaneageipfaaGreatDoorTie
import Derived.Test.YtepbaneageipfaaGreatDoorCards
import Derived.SevenTiedAt
set_option linter.all false
set_option autoImplicit true
set_option relaxedAutoImplicit true
noncomputable section
namespace Go.Proofs.YtepbaneageipfaaGreatDoor
open Go
set_option maxRecDepth 100000
theorem cacheTable_holds:Rows.CacheTableCardSaid:=
 Claim7.holds_tied_plain_at .later [] [.data, .data, .data] true (true, "7241155afdb9d0d1f9bab0e5c725654399425f91bba8db0dfffcda845c3196ba") true
  q1H (fun _ h=>by cases h) (by as_aux_lemma=>kernel_rfl) (fun _ h=>by cases h) cacheTable_row_tie rfl ⟨rfl,rfl⟩ (by as_aux_lemma=>kernel_rfl) rfl
  (fun f fn hf hfn=>by
   obtain rfl : f = 9 := Option.some.inj ((show Tryz.prog.funcNamed "candling/candlinglaw21.CacheTable" = some 9 by kernel_rfl).symm.trans hf) |>.symm
   obtain rfl:fn=Tryz.f9:=(Option.some.inj (Tryz.func9.symm.trans hfn)).symm
   exact⟨by as_aux_lemma=>kernel_rfl,fun j t ht=>by
    rw[Tryz.params9]at ht
    have hm:t∈[27,50,24]:=by simpa using Array.mem_of_getElem? ht
    have hall:([27,50,24].all fun u=>!Tryz.prog.wantsStandIn u)=true:=by as_aux_lemma=>kernel_rfl
    exact(show Tryz.prog.wantsStandIn t=false by simpa using List.all_eq_true.1 hall t hm)⟩)
  (by as_aux_lemma=>kernel_rfl)
end Go.Proofs.YtepbaneageipfaaGreatDoor
