/- A part of the proof. -/
import Derived.Test.YtepbaneageipfaaGreatDoorRows
import Derived.ProofKit
import Derived.JoinedOf
import Derived.Test.YtepbaneageipfaaGreatDoorKeKq
set_option linter.all false
namespace Go.Proofs.YtepbaneageipfaaGreatDoor
open Go
set_option maxRecDepth 100000
theorem and2 {a b:Bool} (h:a=true) (g:b=true):(a && b)=true:=by rw [h,g]; rfl
set_option maxHeartbeats 4000000 in
theorem closed11:joinedFacts Tryz.pinned.checked.prog 11 Tryz.f11 Rows.cacheNilSpec Rows.cacheNilRow=true:=by
 unfold joinedFacts
 refine and2 ?_ (by as_aux_lemma=>kernel_rfl)
 refine and2 ?_ (by as_aux_lemma=>kernel_rfl)
 refine and2 ?_ (by as_aux_lemma=>kernel_rfl)
 refine and2 ?_ (by as_aux_lemma=>kernel_rfl)
 refine and2 ?_ (by as_aux_lemma=>kernel_rfl)
 refine and2 ?_ (by as_aux_lemma=>kernel_rfl)
 refine and2 ?_ (by as_aux_lemma=>kernel_rfl)
 refine and2 ?_ (by as_aux_lemma=>kernel_rfl)
 refine and2 ?_ (by as_aux_lemma=>kernel_rfl)
 refine and2 ?_ (by as_aux_lemma=>kernel_rfl)
 refine and2 ?_ (by as_aux_lemma=>kernel_rfl)
 refine and2 ?_ (by as_aux_lemma=>kernel_rfl)
 refine and2 ?_ (by as_aux_lemma=>kernel_rfl)
 refine and2 ?_ (by as_aux_lemma=>kernel_rfl)
 refine and2 ?_ (by as_aux_lemma=>kernel_rfl)
 refine and2 ?_ (by as_aux_lemma=>kernel_rfl)
 refine and2 ?_ (by as_aux_lemma=>kernel_rfl)
 refine and2 ?_ (by as_aux_lemma=>kernel_rfl)
 refine and2 ?_ (by as_aux_lemma=>kernel_rfl)
 refine and2 ?_ (by as_aux_lemma=>kernel_rfl)
 refine and2 ?_ (by as_aux_lemma=>kernel_rfl)
 refine and2 ?_ (by as_aux_lemma=>kernel_rfl)
 refine and2 ?_ (by as_aux_lemma=>kernel_rfl)
 refine and2 ?_ (by as_aux_lemma=>kernel_rfl)
 refine and2 ?_ (by as_aux_lemma=>kernel_rfl)
 refine and2 ?_ (by as_aux_lemma=>kernel_rfl)
 refine and2 ?_ (by as_aux_lemma=>kernel_rfl)
 refine and2 ?_ (by as_aux_lemma=>kernel_rfl)
 refine and2 ?_ (by as_aux_lemma=>kernel_rfl)
 refine and2 ?_ (by as_aux_lemma=>kernel_rfl)
 refine and2 ?_ (by as_aux_lemma=>kernel_rfl)
 as_aux_lemma=>kernel_rfl
theorem inst11:Tryz.f11.isInstance Tryz.pinned.checked.prog Rows.cacheNilRow.origin Rows.cacheNilRow.targs:=of_decide_eq_true (by kernel_rfl)
theorem wrap11:Tryz.f11.isWrapper Tryz.pinned.checked.prog Rows.cacheNilRow.wrapper Rows.cacheNilRow.mainSum:=by unfold Func.isWrapper; first | (rw [if_pos (by decide +kernel)]; kernel_rfl) | (rw [if_neg (by decide +kernel)]; exact ⟨rfl,rfl⟩)
theorem named11:Tryz.pinned.checked.prog.funcNamed Rows.cacheNilRow.func=some 11:=by kernel_rfl
end Go.Proofs.YtepbaneageipfaaGreatDoor
