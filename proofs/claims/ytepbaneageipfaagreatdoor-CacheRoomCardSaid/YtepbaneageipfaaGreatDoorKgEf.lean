/- A part of the proof. -/
import Derived.Test.YtepbaneageipfaaGreatDoorRows
import Derived.ProofKit
import Derived.JoinedOf
import Derived.Test.YtepbaneageipfaaGreatDoorKfEf
set_option linter.all false
set_option autoImplicit true
set_option relaxedAutoImplicit true
noncomputable section
namespace Go.Proofs.YtepbaneageipfaaGreatDoor
open Go
set_option maxRecDepth 100000
theorem zr{a b:Bool}(h:a=true)(g:b=true):(a&&b)=true:=by rw[h,g];rfl
set_option maxHeartbeats 4000000 in
theorem qA4:joinedFacts Tryz.pinned.checked.prog 6 Tryz.f6 Rows.cacheRoomSpec Rows.cacheRoomRow=true:=by
 unfold joinedFacts
 refine zr ?_ (by as_aux_lemma=>kernel_rfl)
 refine zr ?_ (by as_aux_lemma=>kernel_rfl)
 refine zr ?_ (by as_aux_lemma=>kernel_rfl)
 refine zr ?_ (by as_aux_lemma=>kernel_rfl)
 refine zr ?_ (by as_aux_lemma=>kernel_rfl)
 refine zr ?_ (by as_aux_lemma=>kernel_rfl)
 refine zr ?_ (by as_aux_lemma=>kernel_rfl)
 refine zr ?_ (by as_aux_lemma=>kernel_rfl)
 refine zr ?_ (by as_aux_lemma=>kernel_rfl)
 refine zr ?_ (by as_aux_lemma=>kernel_rfl)
 refine zr ?_ (by as_aux_lemma=>kernel_rfl)
 refine zr ?_ (by as_aux_lemma=>kernel_rfl)
 refine zr ?_ (by as_aux_lemma=>kernel_rfl)
 refine zr ?_ (by as_aux_lemma=>kernel_rfl)
 refine zr ?_ (by as_aux_lemma=>kernel_rfl)
 refine zr ?_ (by as_aux_lemma=>kernel_rfl)
 refine zr ?_ (by as_aux_lemma=>kernel_rfl)
 refine zr ?_ (by as_aux_lemma=>kernel_rfl)
 refine zr ?_ (by as_aux_lemma=>kernel_rfl)
 refine zr ?_ (by as_aux_lemma=>kernel_rfl)
 refine zr ?_ (by as_aux_lemma=>kernel_rfl)
 refine zr ?_ (by as_aux_lemma=>kernel_rfl)
 refine zr ?_ (by as_aux_lemma=>kernel_rfl)
 refine zr ?_ (by as_aux_lemma=>kernel_rfl)
 refine zr ?_ (by as_aux_lemma=>kernel_rfl)
 refine zr ?_ (by as_aux_lemma=>kernel_rfl)
 refine zr ?_ (by as_aux_lemma=>kernel_rfl)
 refine zr ?_ (by as_aux_lemma=>kernel_rfl)
 refine zr ?_ (by as_aux_lemma=>kernel_rfl)
 refine zr ?_ (by as_aux_lemma=>kernel_rfl)
 refine zr ?_ (by as_aux_lemma=>kernel_rfl)
 as_aux_lemma=>kernel_rfl
theorem qKE:Tryz.f6.isInstance Tryz.pinned.checked.prog Rows.cacheRoomRow.origin Rows.cacheRoomRow.targs:=of_decide_eq_true kr
theorem qLi:Tryz.f6.isWrapper Tryz.pinned.checked.prog Rows.cacheRoomRow.wrapper Rows.cacheRoomRow.mainSum:=by unfold Func.isWrapper;first | (rw[if_pos (by decide +kernel)];kernel_rfl) | (rw[if_neg (by decide +kernel)];exact⟨rfl,rfl⟩)
theorem qGM:Tryz.pinned.checked.prog.funcNamed Rows.cacheRoomRow.func=some 6:=kr
end Go.Proofs.YtepbaneageipfaaGreatDoor
