/- A part of the proof. -/
import Derived.Test.YtepbaneageipfaaGreatDoorRows
import Derived.ProofKit
import Derived.JoinedOf
import Derived.Test.YtepbaneageipfaaGreatDoorKfEi
set_option linter.all false
set_option autoImplicit true
set_option relaxedAutoImplicit true
noncomputable section
namespace Go.Proofs.YtepbaneageipfaaGreatDoor
open Go
set_option maxRecDepth 100000
theorem zv{a b:Bool}(h:a=true)(g:b=true):(a&&b)=true:=by rw[h,g];rfl
set_option maxHeartbeats 4000000 in
theorem qAe:joinedFacts Tryz.pinned.checked.prog 9 Tryz.f9 Rows.cacheTableSpec Rows.cacheTableRow=true:=by
 unfold joinedFacts
 refine zv ?_ (by as_aux_lemma=>kernel_rfl)
 refine zv ?_ (by as_aux_lemma=>kernel_rfl)
 refine zv ?_ (by as_aux_lemma=>kernel_rfl)
 refine zv ?_ (by as_aux_lemma=>kernel_rfl)
 refine zv ?_ (by as_aux_lemma=>kernel_rfl)
 refine zv ?_ (by as_aux_lemma=>kernel_rfl)
 refine zv ?_ (by as_aux_lemma=>kernel_rfl)
 refine zv ?_ (by as_aux_lemma=>kernel_rfl)
 refine zv ?_ (by as_aux_lemma=>kernel_rfl)
 refine zv ?_ (by as_aux_lemma=>kernel_rfl)
 refine zv ?_ (by as_aux_lemma=>kernel_rfl)
 refine zv ?_ (by as_aux_lemma=>kernel_rfl)
 refine zv ?_ (by as_aux_lemma=>kernel_rfl)
 refine zv ?_ (by as_aux_lemma=>kernel_rfl)
 refine zv ?_ (by as_aux_lemma=>kernel_rfl)
 refine zv ?_ (by as_aux_lemma=>kernel_rfl)
 refine zv ?_ (by as_aux_lemma=>kernel_rfl)
 refine zv ?_ (by as_aux_lemma=>kernel_rfl)
 refine zv ?_ (by as_aux_lemma=>kernel_rfl)
 refine zv ?_ (by as_aux_lemma=>kernel_rfl)
 refine zv ?_ (by as_aux_lemma=>kernel_rfl)
 refine zv ?_ (by as_aux_lemma=>kernel_rfl)
 refine zv ?_ (by as_aux_lemma=>kernel_rfl)
 refine zv ?_ (by as_aux_lemma=>kernel_rfl)
 refine zv ?_ (by as_aux_lemma=>kernel_rfl)
 refine zv ?_ (by as_aux_lemma=>kernel_rfl)
 refine zv ?_ (by as_aux_lemma=>kernel_rfl)
 refine zv ?_ (by as_aux_lemma=>kernel_rfl)
 refine zv ?_ (by as_aux_lemma=>kernel_rfl)
 refine zv ?_ (by as_aux_lemma=>kernel_rfl)
 refine zv ?_ (by as_aux_lemma=>kernel_rfl)
 as_aux_lemma=>kernel_rfl
theorem qMb:Tryz.f9.isInstance Tryz.pinned.checked.prog Rows.cacheTableRow.origin Rows.cacheTableRow.targs:=of_decide_eq_true kr
theorem qMi:Tryz.f9.isWrapper Tryz.pinned.checked.prog Rows.cacheTableRow.wrapper Rows.cacheTableRow.mainSum:=by unfold Func.isWrapper;first | (rw[if_pos (by decide +kernel)];kernel_rfl) | (rw[if_neg (by decide +kernel)];exact⟨rfl,rfl⟩)
theorem qGv:Tryz.pinned.checked.prog.funcNamed Rows.cacheTableRow.func=some 9:=kr
end Go.Proofs.YtepbaneageipfaaGreatDoor
