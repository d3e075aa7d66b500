/- A part of the proof. -/
import Derived.Test.YtepbaneageipfaaGreatDoorRows
import Derived.ProofKit
import Derived.JoinedOf
import Derived.Test.YtepbaneageipfaaGreatDoorKeTi
set_option linter.all false
set_option autoImplicit true
set_option relaxedAutoImplicit true
noncomputable section
namespace Go.Proofs.YtepbaneageipfaaGreatDoor
open Go
set_option maxRecDepth 100000
theorem ze{a b:Bool}(h:a=true)(g:b=true):(a&&b)=true:=by rw[h,g];rfl
set_option maxHeartbeats 4000000 in
theorem qzC:joinedFacts Tryz.pinned.checked.prog 3 Tryz.f3 Rows.cacheProbesSpec Rows.cacheProbesRow=true:=by
 unfold joinedFacts
 refine ze ?_ (by as_aux_lemma=>kernel_rfl)
 refine ze ?_ (by as_aux_lemma=>kernel_rfl)
 refine ze ?_ (by as_aux_lemma=>kernel_rfl)
 refine ze ?_ (by as_aux_lemma=>kernel_rfl)
 refine ze ?_ (by as_aux_lemma=>kernel_rfl)
 refine ze ?_ (by as_aux_lemma=>kernel_rfl)
 refine ze ?_ (by as_aux_lemma=>kernel_rfl)
 refine ze ?_ (by as_aux_lemma=>kernel_rfl)
 refine ze ?_ (by as_aux_lemma=>kernel_rfl)
 refine ze ?_ (by as_aux_lemma=>kernel_rfl)
 refine ze ?_ (by as_aux_lemma=>kernel_rfl)
 refine ze ?_ (by as_aux_lemma=>kernel_rfl)
 refine ze ?_ (by as_aux_lemma=>kernel_rfl)
 refine ze ?_ (by as_aux_lemma=>kernel_rfl)
 refine ze ?_ (by as_aux_lemma=>kernel_rfl)
 refine ze ?_ (by as_aux_lemma=>kernel_rfl)
 refine ze ?_ (by as_aux_lemma=>kernel_rfl)
 refine ze ?_ (by as_aux_lemma=>kernel_rfl)
 refine ze ?_ (by as_aux_lemma=>kernel_rfl)
 refine ze ?_ (by as_aux_lemma=>kernel_rfl)
 refine ze ?_ (by as_aux_lemma=>kernel_rfl)
 refine ze ?_ (by as_aux_lemma=>kernel_rfl)
 refine ze ?_ (by as_aux_lemma=>kernel_rfl)
 refine ze ?_ (by as_aux_lemma=>kernel_rfl)
 refine ze ?_ (by as_aux_lemma=>kernel_rfl)
 refine ze ?_ (by as_aux_lemma=>kernel_rfl)
 refine ze ?_ (by as_aux_lemma=>kernel_rfl)
 refine ze ?_ (by as_aux_lemma=>kernel_rfl)
 refine ze ?_ (by as_aux_lemma=>kernel_rfl)
 refine ze ?_ (by as_aux_lemma=>kernel_rfl)
 refine ze ?_ (by as_aux_lemma=>kernel_rfl)
 as_aux_lemma=>kernel_rfl
theorem qHX:Tryz.f3.isInstance Tryz.pinned.checked.prog Rows.cacheProbesRow.origin Rows.cacheProbesRow.targs:=of_decide_eq_true kr
theorem qGp:Tryz.f3.isWrapper Tryz.pinned.checked.prog Rows.cacheProbesRow.wrapper Rows.cacheProbesRow.mainSum:=by unfold Func.isWrapper;first | (rw[if_pos (by decide +kernel)];kernel_rfl) | (rw[if_neg (by decide +kernel)];exact⟨rfl,rfl⟩)
theorem qD7:Tryz.pinned.checked.prog.funcNamed Rows.cacheProbesRow.func=some 3:=kr
end Go.Proofs.YtepbaneageipfaaGreatDoor
