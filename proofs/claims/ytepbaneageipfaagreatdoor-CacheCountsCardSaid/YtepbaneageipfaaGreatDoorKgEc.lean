/- A part of the proof. -/
import Derived.Test.YtepbaneageipfaaGreatDoorRows
import Derived.ProofKit
import Derived.JoinedOf
import Derived.Test.YtepbaneageipfaaGreatDoorKfEc
set_option linter.all false
set_option autoImplicit true
set_option relaxedAutoImplicit true
noncomputable section
namespace Go.Proofs.YtepbaneageipfaaGreatDoor
open Go
set_option maxRecDepth 100000
theorem zr{a b:Bool}(h:a=true)(g:b=true):(a&&b)=true:=by rw[h,g];rfl
set_option maxHeartbeats 4000000 in
theorem qAm:joinedFacts Tryz.pinned.checked.prog 8 Tryz.f8 Rows.cacheCountsSpec Rows.cacheCountsRow=true:=by
 unfold joinedFacts
 refine zr ?_ (by as_aux_lemma=>kernel_rfl)
 refine zr ?_ (by as_aux_lemma=>kernel_rfl)
 refine zr ?_ (by as_aux_lemma=>kernel_rfl)
 refine zr ?_ (by as_aux_lemma=>kernel_rfl)
 refine zr ?_ (by as_aux_lemma=>kernel_rfl)
 refine zr ?_ (by as_aux_lemma=>kernel_rfl)
 refine zr ?_ (by as_aux_lemma=>kernel_rfl)
 refine zr ?_ (by as_aux_lemma=>kernel_rfl)
 refine zr ?_ (by as_aux_lemma=>kernel_rfl)
 refine zr ?_ (by as_aux_lemma=>kernel_rfl)
 refine zr ?_ (by as_aux_lemma=>kernel_rfl)
 refine zr ?_ (by as_aux_lemma=>kernel_rfl)
 refine zr ?_ (by as_aux_lemma=>kernel_rfl)
 refine zr ?_ (by as_aux_lemma=>kernel_rfl)
 refine zr ?_ (by as_aux_lemma=>kernel_rfl)
 refine zr ?_ (by as_aux_lemma=>kernel_rfl)
 refine zr ?_ (by as_aux_lemma=>kernel_rfl)
 refine zr ?_ (by as_aux_lemma=>kernel_rfl)
 refine zr ?_ (by as_aux_lemma=>kernel_rfl)
 refine zr ?_ (by as_aux_lemma=>kernel_rfl)
 refine zr ?_ (by as_aux_lemma=>kernel_rfl)
 refine zr ?_ (by as_aux_lemma=>kernel_rfl)
 refine zr ?_ (by as_aux_lemma=>kernel_rfl)
 refine zr ?_ (by as_aux_lemma=>kernel_rfl)
 refine zr ?_ (by as_aux_lemma=>kernel_rfl)
 refine zr ?_ (by as_aux_lemma=>kernel_rfl)
 refine zr ?_ (by as_aux_lemma=>kernel_rfl)
 refine zr ?_ (by as_aux_lemma=>kernel_rfl)
 refine zr ?_ (by as_aux_lemma=>kernel_rfl)
 refine zr ?_ (by as_aux_lemma=>kernel_rfl)
 refine zr ?_ (by as_aux_lemma=>kernel_rfl)
 as_aux_lemma=>kernel_rfl
theorem qIK:Tryz.f8.isInstance Tryz.pinned.checked.prog Rows.cacheCountsRow.origin Rows.cacheCountsRow.targs:=of_decide_eq_true kr
theorem qIV:Tryz.f8.isWrapper Tryz.pinned.checked.prog Rows.cacheCountsRow.wrapper Rows.cacheCountsRow.mainSum:=by unfold Func.isWrapper;first | (rw[if_pos (by decide +kernel)];kernel_rfl) | (rw[if_neg (by decide +kernel)];exact⟨rfl,rfl⟩)
theorem qEY:Tryz.pinned.checked.prog.funcNamed Rows.cacheCountsRow.func=some 8:=kr
end Go.Proofs.YtepbaneageipfaaGreatDoor
