/- A part of the proof. -/
import Derived.Test.YtepbaneageipfaaGreatDoorKdKq
import Derived.Test.YtepbaneageipfaaGreatDoorKbKq
import Derived.Test.YtepbaneageipfaaGreatDoorKaKq
import Derived.KernelRfl
import Derived.Laws.BytesArg
import Derived.Test.YtepbaneageipfaaGreatDoorRows
import Derived.Deep.Slices
import Derived.ProofKit
import Derived.LaidMore
import Derived.OpenShut
import Derived.JoinedOf
import Derived.Carry
import Derived.Stop.Joined
set_option linter.all false
namespace Go.Fx.Ch
structure Fit (s:CState):Prop where
 rows:∀ r∈s.rows,r.length < 1000000
 ev0:0≤s.ev
 ev1:s.ev < 1099511627776
 items:s.items.length < 1000000
 table:∀ x∈s.table,isW x
def EvR (n:Nat):Nat→Nat→CState→Prop
 | 0,g,s=>Fit s∧g < 1000000∧fullS s n=false
 | m+1,g,s=>Fit s∧g < 1000000∧(fullS s n=true→∀ s2,Forgets (nextS s) (rowS (nextS s)) s2→EvR n m (g+(rowS (nextS s)).length) { s2 with ev:=s2.ev+(rowS (nextS s)).length })
theorem EvR.fit {n m g:Nat} {s:CState} (h:EvR n m g s):Fit s∧g < 1000000:=by
 cases m with
 | zero=>exact ⟨h.1,h.2.1⟩
 | succ m=>exact ⟨h.1,h.2.1⟩
theorem Forgets.conf {s s':CState} {l:List Int} (h:Forgets s l s'):s'.len=s.len∧s'.k=s.k∧s'.cur=s.cur∧s'.given=s.given∧s'.ev=s.ev∧s'.dr=s.dr∧s'.rows.length=s.rows.length:=by
 induction h with
 | nil=>exact ⟨rfl,rfl,rfl,rfl,rfl,rfl,rfl⟩
 | @cons s s' id l order ho _ ih=>
  have hf:∀ (l:List (Int × Int)) (s:CState),(freeS id l s).len=s.len∧(freeS id l s).k=s.k∧(freeS id l s).cur=s.cur∧(freeS id l s).given=s.given∧(freeS id l s).ev=s.ev∧(freeS id l s).dr=s.dr∧(freeS id l s).rows=s.rows:=by
   intro l
   induction l with
   | nil=>exact fun s=>⟨rfl,rfl,rfl,rfl,rfl,rfl,rfl⟩
   | cons p l ih=>exact fun s=>ih _
  have hd:∀ (l:List EX) (s:CState),(dropS id l s).len=s.len∧(dropS id l s).k=s.k∧(dropS id l s).cur=s.cur∧(dropS id l s).given=s.given∧(dropS id l s).ev=s.ev∧(dropS id l s).dr=s.dr∧(dropS id l s).rows=s.rows:=by
   intro l
   induction l with
   | nil=>exact fun s=>⟨rfl,rfl,rfl,rfl,rfl,rfl,rfl⟩
   | cons p l ih=>
    intro s
    unfold dropS
    split
    ·exact ih _
    ·exact ih _
  obtain ⟨a1,a2,a3,a4,a5,a6,a7⟩:=hf order s
  obtain ⟨b1,b2,b3,b4,b5,b6,b7⟩:=hd (exitsS (freeS id order s).items id) (freeS id order s)
  obtain ⟨c1,c2,c3,c4,c5,c6,c7⟩:=ih
  refine ⟨c1.trans (b1.trans a1),c2.trans (b2.trans a2),c3.trans (b3.trans a3),c4.trans (b4.trans a4),c5.trans (b5.trans a5),c6.trans (b6.trans a6),?_⟩
  rw [c7]
  show (List.map _ (dropS id _ _).rows).length=_
  rw [List.length_map,b7,a7]
end Go.Fx.Ch
namespace Go.Fx.Tryz
open Go Go.Fx Go.Fx.Ch
open Go.Proofs
set_option linter.all false
set_option maxRecDepth 20000
variable {w0 w:World} {H X:HBL} {K:KT} {s:CState} {L:Lay} {q:LB}
theorem Lay.Ok.setCur (hL:L.Ok w0 q s) {c:Nat} (hc:c < s.rows.length):L.Ok w0 q { s with cur:=c }:=
 ⟨hL.nc,hL.ni,hL.nh,hL.nr,hL.nt,hL.new,hL.its,hL.hm,hL.hs,hL.inn,hL.rows,hL.k4,hL.k16,hL.tl,hL.rl,hc⟩
theorem Lay.Ok.setEv (hL:L.Ok w0 q s) (e:Int):L.Ok w0 q { s with ev:=e }:=
 ⟨hL.nc,hL.ni,hL.nh,hL.nr,hL.nt,hL.new,hL.its,hL.hm,hL.hs,hL.inn,hL.rows,hL.k4,hL.k16,hL.tl,hL.rl,hL.cur⟩
theorem Lay.Ok.setDr (hL:L.Ok w0 q s) (e:Int):L.Ok w0 q { s with dr:=e }:=
 ⟨hL.nc,hL.ni,hL.nh,hL.nr,hL.nt,hL.new,hL.its,hL.hm,hL.hs,hL.inn,hL.rows,hL.k4,hL.k16,hL.tl,hL.rl,hL.cur⟩
theorem limit59 (h:St w0 w (L.bl q s++H)) (hL:L.Ok w0 q s) (hK:K (J (limitS s:Nat)) w):CallL P 59 [.pointer (some ⟨q.cb,0,none⟩)] w K:=by
 have hp:=pow_bounds hL.k4 hL.k16
 refine limit_ok (slots:=((2 ^ s.k:Nat):Int)) (by rw [add_lit']; exact h.cell (k:=1) rfl) (by omega) (by omega) ?_
 have e:((2 ^ s.k:Nat):Int) / 4 * 3=((limitS s:Nat):Int):=by unfold limitS; omega
 rw [e]; exact hK
theorem evict_s13 {n4:Nat} {t:List Value} {x1 x2:Int} {ga:Option Addr} {gc:Nat} {gone:List Int} {N:HBL} {Y:YT}
  (hg:Glob H) (hn4:w0.heap.size≤n4) (hL:L.Ok w0 q (nextS s)) (hrow:∀ r∈s.rows,r.length < 1000000) (hev0:0≤s.ev) (hev1:s.ev < 1099511627776) (hgl:gone.length < 1000000)
  (hS:SlO 1 24 (.slice ga gone.length gc) gone.length (gone.map U) N) (hN:New w0 N)
  (h:St w0 w (L.bl q (nextS s)++(N++((n4,Cs t 41)::H))))
  (hY:∀ (w':World) (L':Lay) (s2:CState) (ga':Option Addr) (gc':Nat) (N':HBL),Forgets (nextS s) (rowS (nextS s)) s2→L'.Ok w0 q { s2 with ev:=s2.ev+(rowS (nextS s)).length }→
   SlO 1 24 (.slice ga' (gone++rowS (nextS s)).length gc') (gone++rowS (nextS s)).length ((gone++rowS (nextS s)).map U) N'→New w0 N'→
   St w0 w' (L'.bl q { s2 with ev:=s2.ev+(rowS (nextS s)).length }++(N'++((n4,Cs t 41)::H)))→
   Y (Env.mk 173 [(5,.slice ga' (gone++rowS (nextS s)).length gc'),(0,.pointer (some ⟨q.cb,0,none⟩)),(4,U x1),(6,J x2),(3,.pointer (some (Addr.mk n4 0 none)))] []) w') :
  f18_s13 (some ⟨q.cb,0,none⟩) x1 x2 (Addr.mk n4 0 none) ga gone.length gc w K Y:=by
 rw [f18_s13_eq]
 have hc:(nextS s).cur < (nextS s).rows.length:=hL.cur
 obtain ⟨sa,sc,hrv,hrw⟩:=row_of (H:=N++((n4,Cs t 41)::H)) hL hc
 have hg2:Glob (N++((n4,Cs t 41)::H)):=hg.mono fun u hu=>List.mem_append_right _ (.tail _ hu)
 refine ⟨some ⟨q.rb,0,none⟩,(nextS s).rows.length,(nextS s).rows.length,by rw [add_lit']; exact h.cell (k:=1) rfl,(nextS s).cur,by rw [add_lit']; exact h.cell (k:=1) rfl,by omega,by omega,sa,(nextS s).rows[(nextS s).cur].length,sc,?_,?_⟩
 ·rw [add_lit',Int.toNat_natCast,Nat.mul_one,Nat.zero_add]
  rw [h.drew.cell (k:=4) rfl]; exact hrv
 have hrs:rowS (nextS s)=sortI (nextS s).rows[(nextS s).cur]:=by unfold rowS; rw [List.getElem?_eq_getElem hc]; rfl
 have hlr:(nextS s).rows[(nextS s).cur].length < 1000000:=hrow _ (List.getElem_mem hc)
 have hlr2:(rowS (nextS s)).length < 1000000:=by rw [hrs,sortI_length]; exact hlr
 refine forget_ok sort61 h.drew hL hg2 hrw hlr fun w127 L' s2 ov' M hF hL' hSl hMN h127=>?_
 rw [← hrs] at hF hSl
 obtain ⟨la,lc,e⟩:=hSl.form
 subst e
 refine ⟨_,_,_,rfl,?_⟩
 rw [f18_s14_eq]
 have h128:St w0 w127 (L'.bl q s2++(M++(N++((n4,Cs t 41)::H)))):=h127.perm (perm_by fun c=>by simp only [List.map_append,List.map_cons,List.sum_append,List.sum_cons]; omega)
 have hconf:=hF.conf
 have he2:s2.ev=s.ev:=hconf.2.2.2.2.1
 refine ⟨s2.ev,by rw [add_lit']; exact h128.cell (k:=1) rfl,?_⟩
 show St1 ((Addr.mk q.cb 0 none).add 9) _ _ _
 rw [add_lit',wrap_i64 (by omega) (by omega)]
 refine h128.st1 (k:=1) rfl (by simp [CCs]) rfl fun w138 h138=>?_
 have hL2:=hL'.setEv (s2.ev+(rowS (nextS s)).length)
 have h139:St w0 w138 (L'.bl q { s2 with ev:=s2.ev+(rowS (nextS s)).length }++(M++(N++((n4,Cs t 41)::H)))):=h138
 have h140:St w0 w138 ([]++(N++(M++(L'.bl q { s2 with ev:=s2.ev+(rowS (nextS s)).length }++((n4,Cs t 41)::H))))):=h139.perm (perm_by fun c=>by simp only [List.nil_append,List.map_append,List.map_cons,List.sum_append,List.sum_cons]; omega)
 obtain ⟨v',w',N',hr,hS2,h141,hN2⟩:=St.appendN (P:=P) 22 22 24 Tryz.t24 (U 0) 1 4 Tryz.underlying22 (by kernel_rfl) rfl rfl rfl rfl (by omega) h140 hS hN hSl (fun u hu=>h140.has _ _ (List.mem_append_right [] (List.mem_append_right N (List.mem_append_left _ hu)))) (one_U _) (by simp [maxLen]; omega) (by omega)
 have hle:(gone++rowS (nextS s)).length=gone.length+(rowS (nextS s)).length:=List.length_append
 rw [← hle,← List.map_append] at hS2
 obtain ⟨a',c',e⟩:=hS2.form
 subst e
 refine ⟨_,_,_,w',hr,?_⟩
 have h142:St w0 w' (M++(L'.bl q { s2 with ev:=s2.ev+(rowS (nextS s)).length }++(N'++((n4,Cs t 41)::H)))):=h141.perm (perm_by fun c=>by simp only [List.nil_append,List.map_append,List.map_cons,List.sum_append,List.sum_cons]; omega)
 exact hY w' L' s2 a' c' N' hF hL2 hS2 hN2 (h142.sub hMN)
end Go.Fx.Tryz
namespace Go.Fx.Ch
open Go.Fx.Tryz
def putErr (s:CState) (t:TR):Int:=match exitsF t.code with
 | none=>170
 | some l=>if areSpansF t.sp=false∨(l.any fun e=>e.chain != 0)=true then 1 else if (lookS s t.at_).1≠0 then 5 else if (t.code.length:Int) > s.len∨s.given=2147483647 then 2 else 0
theorem Evicts.conf {n:Nat} {s s':CState} {g:List Int} (h:Evicts n s g s'):s'.len=s.len∧s'.k=s.k∧s'.given=s.given∧s'.dr=s.dr∧s'.rows.length=s.rows.length:=by
 induction h with
 | done=>exact ⟨rfl,rfl,rfl,rfl,rfl⟩
 | step _ hF _ ih=>
  obtain ⟨a1,a2,a3,a4,a5⟩:=ih
  obtain ⟨b1,b2,b3,b4,b5,b6,b7⟩:=hF.conf
  exact ⟨a1.trans b1,a2.trans b2,a3.trans b4,a4.trans b6,a5.trans b7⟩
end Go.Fx.Ch
namespace Go.Fx.Tryz
open Go Go.Fx Go.Fx.Ch
open Go.Proofs
set_option linter.all false
set_option maxRecDepth 20000
variable {w0 w:World} {H X:HBL} {K:KT} {s:CState} {L:Lay} {q:LB}
theorem Lay.Ok.setGiven (hL:L.Ok w0 q s) (e:Int):L.Ok w0 q { s with given:=e }:=
 ⟨hL.nc,hL.ni,hL.nh,hL.nr,hL.nt,hL.new,hL.its,hL.hm,hL.hs,hL.inn,hL.rows,hL.k4,hL.k16,hL.tl,hL.rl,hL.cur⟩
theorem put_s17 {ga:Option Addr} {gn gc:Nat} (hg:Glob H) (hL:L.Ok w0 q s) (h:St w0 w (L.bl q s++H))
  (hK:∀ (w':World) (L':Lay),L'.Ok w0 q { s with table:=insertT s s.given }→St w0 w' (L'.bl q { s with table:=insertT s s.given }++H)→K (.tuple [U s.given,.slice ga gn gc,J 0].toArray) w') :
  f18_s17 ga gn gc (some ⟨q.cb,0,none⟩) w K:=by
 rw [f18_s17_eq]
 refine ⟨s.given,by rw [add_lit']; exact h.cell (k:=1) rfl,?_⟩
 have h1:St w0 w ((q.tb,Cs (s.table.map U) 24)::(L.b4 q s++H)):=h
 refine insert_ok (G:=L.G) h1 (hL.knownC hg) (fun u hu=>List.mem_append_left _ (.tail _ (.tail _ (.tail _ (.tail _ (List.mem_append_right _ (List.mem_append_right _ hu))))))) fun w' h'=>⟨rfl,?_⟩
 have h2:St w0 w' (L.bl q { s with table:=insertT s s.given }++H):=h'
 refine ⟨s.given,by rw [add_lit']; exact h2.cell (k:=1) rfl,?_⟩
 have hlen:(insertT s s.given).length=2 ^ s.k:=by unfold insertT; rw [insGo_length]; exact hL.tl
 exact hK w' L ⟨hL.nc,hL.ni,hL.nh,hL.nr,hL.nt,hL.new,hL.its,hL.hm,hL.hs,hL.inn,hL.rows,hL.k4,hL.k16,hlen,hL.rl,hL.cur⟩ h2
theorem put_s16 {ga:Option Addr} {gn gc:Nat} (hg:Glob H) (hL:L.Ok w0 q s) (hr:(s.rows[s.cur]'hL.cur).length < 1000000) (h:St w0 w (L.bl q s++H))
  (hK:∀ (w':World) (L':Lay),L'.Ok w0 q { s with rows:=s.rows.modify s.cur fun r=>r++[s.given] }→St w0 w' (L'.bl q { s with rows:=s.rows.modify s.cur fun r=>r++[s.given] }++H)→f18_s17 ga gn gc (some ⟨q.cb,0,none⟩) w' K) :
  f18_s16 ga gn gc (some ⟨q.cb,0,none⟩) w K:=by
 rw [f18_s16_eq]
 have hc:=hL.cur
 obtain ⟨a,v,b,e0,hal,hv,hset⟩:=hL.rows.split (List.getElem?_eq_getElem hc)
 generalize hrr:s.rows[s.cur]=r at *
 obtain ⟨sa,sc,hsv⟩:=hv.form
 have hrv:(L.rv.map (·.1))[s.cur]?=some (.slice sa r.length sc):=by
  rw [e0,List.map_append,List.getElem?_append_right (by simp; omega)]
  simp [hal,hsv]
 have h1:=h.drew
 have cR:∀ {w2:World} {Z:HBL},St w0 w2 (L.bl q s++Z)→w2.cell? ((Addr.mk q.rb 0 none).add (Int.toNat (s.cur:Int) * 1))=some (.slice sa r.length sc):=fun {w2 Z} h2=>by
  rw [add_lit',Int.toNat_natCast,Nat.mul_one,Nat.zero_add,h2.cell (k:=4) rfl]; exact hrv
 refine ⟨some ⟨q.rb,0,none⟩,s.rows.length,s.rows.length,by rw [add_lit']; exact h1.cell (k:=1) rfl,s.cur,by rw [add_lit']; exact h1.cell (k:=1) rfl,some ⟨q.rb,0,none⟩,s.rows.length,s.rows.length,by rw [add_lit']; exact h1.cell (k:=1) rfl,s.cur,by rw [add_lit']; exact h1.cell (k:=1) rfl,by omega,by omega,sa,r.length,sc,cR h1,s.given,by rw [add_lit']; exact h1.cell (k:=1) rfl,⟨rfl,trivial⟩,?_⟩
 refine h1.newC fun n176 w174 hn176 h174=>?_
 have h174:St w0 w174 ((n176,Cs [U s.given] 24)::(L.bl q s++H)):=h174
 have h175:St w0 w174 (L.bl q s++((n176,Cs [U s.given] 24)::H)):=h174.perm (perm_by fun c=>by simp only [List.map_append,List.map_cons,List.sum_append,List.sum_cons]; omega)
 refine ⟨cR h175,by rw [add_lit']; exact h175.cell (k:=1) rfl,by rw [add_lit']; exact h175.cell (k:=1) rfl,by rw [add_lit']; exact h175.cell (k:=1) rfl,by rw [add_lit']; exact h175.cell (k:=1) rfl,?_⟩
 have hnew:New w0 (L.rv.map (·.2)).flatten:=New.left hL.new
 rw [e0] at hnew
 simp only [List.map_append,List.map_cons,List.flatten_append,List.flatten_cons] at hnew
 have h176:St w0 w174 ([(n176,Cs [U s.given] 24)]++(v.2++(({ L with rv:=a++(v.1,[])::b }:Lay).bl q s++H))):=by
  have:=h174.perm (Lay.takeR (A:=[(n176,Cs [U s.given] 24)]) e0)
  exact this.perm (perm_by fun c=>by simp only [List.nil_append,List.map_append,List.map_cons,List.map_nil,List.sum_append,List.sum_cons,List.sum_nil]; omega)
 obtain ⟨g,cap,w178,X,hrun,hX,h178,hXN⟩:=St.append (P:=P) 22 22 24 Tryz.t24 (U 0) 1 4 Tryz.underlying22 (by kernel_rfl) rfl rfl rfl rfl (by omega) (A:=[(n176,Cs [U s.given] 24)]) (news:=[U s.given]) h176 hv (New.left (New.right hnew)) (j:=0) rfl rfl (fun u hu=>by rw [List.mem_singleton.1 hu]; rfl) (by simp [maxLen]; omega) (by omega)
 rw [hsv] at hrun
 have h179:St w0 w178 (({ L with rv:=a++(v.1,[])::b }:Lay).bl q s++(X++((n176,Cs [U s.given] 24)::H))):=h178.perm (perm_by fun c=>by simp only [List.nil_append,List.map_append,List.map_cons,List.map_nil,List.sum_append,List.sum_cons,List.sum_nil]; omega)
 refine ⟨_,_,_,w178,hrun,by rw [add_lit']; exact h179.cell (k:=1) rfl,by rw [add_lit']; exact h179.cell (k:=1) rfl,by omega,by omega,?_⟩
 show St1 ((Addr.mk q.rb 0 none).add _) _ _ _
 rw [add_lit',Int.toNat_natCast,Nat.mul_one,Nat.zero_add]
 refine h179.st1 (k:=4) rfl (by simp; omega) rfl fun w180 h180=>?_
 have hse:((a++(v.1,([]:HBL))::b).map (·.1)).set s.cur (.slice (some ⟨g,0,none⟩) (r.length+1) cap)=(a++(.slice (some ⟨g,0,none⟩) (r.length+1) cap,([]:HBL))::b).map (·.1):=by
  rw [List.map_append,List.set_append_right _ _ (by simp; omega)]
  simp [hal]
 have h258:St w0 w180 (({ L with rv:=a++(.slice (some ⟨g,0,none⟩) (r.length+1) cap,[])::b }:Lay).bl q s++(X++((n176,Cs [U s.given] 24)::H))):=by
  have h257:St w0 w180 (((q.tb,Cs (s.table.map U) 24)::(q.cb,Cs (CCs s q.ib q.hb q.rb q.tb) 109)::(q.ib,.map L.ies L.iclk)::(q.hb,.map L.hes L.hclk)::(q.rb,Cs (((a++(v.1,([]:HBL))::b).map (·.1)).set s.cur (.slice (some ⟨g,0,none⟩) (r.length+1) cap)) 22)::({ L with rv:=a++(v.1,[])::b }:Lay).rest)++(X++((n176,Cs [U s.given] 24)::H))):=h180
  rw [hse] at h257
  refine h257.perm (perm_by fun c=>?_)
  simp only [Lay.bl,Lay.b4,Lay.rest,List.cons_append,List.nil_append,List.map_append,List.map_cons,List.flatten_append,List.flatten_cons,List.sum_append,List.sum_cons]
 have h259:St w0 w180 (X++([(n176,Cs [U s.given] 24)]++(({ L with rv:=a++(.slice (some ⟨g,0,none⟩) (r.length+1) cap,[])::b }:Lay).bl q s++H))):=h258.perm (perm_by fun c=>by simp only [List.nil_append,List.map_append,List.map_cons,List.map_nil,List.sum_append,List.sum_cons,List.sum_nil]; omega)
 have h260:=(h259.perm Lay.giveR).tail hn176
 have hrows:=hset (r++[s.given]) (.slice (some ⟨g,0,none⟩) (r.length+1) cap,X) (by simpa using hX)
 have hmod:s.rows.set s.cur (r++[s.given])=s.rows.modify s.cur fun r=>r++[s.given]:=by
  apply List.ext_getElem?
  intro j
  rw [List.getElem?_set,List.getElem?_modify]
  by_cases hj:s.cur=j
  ·subst hj
   rw [if_pos rfl,if_pos hc,List.getElem?_eq_getElem hc,hrr]
   simp
  ·rw [if_neg hj]
   simp [hj]
 rw [hmod] at hrows
 have hml:(s.rows.modify s.cur fun r=>r++[s.given]).length=s.rows.length:=List.length_modify ..
 have hok:=hL.setR hrows hml (by
  simp only [List.map_append,List.map_cons,List.flatten_append,List.flatten_cons]
  exact New.append (New.left hnew) (New.append hXN (New.right (New.right hnew))))
 refine hK w180 _ hok ?_
 rw [Lay.bl_rows hml]
 exact h260
theorem put_s15 {n4:Nat} {t:TR} {sv cv:Value} {ga:Option Addr} {gc:Nat} {gone:List Int} {N:HBL} (hg:Glob H) (hn4:w0.heap.size≤n4) (hS:Spans w0 H sv t.sp) (hB:Bytes w0 H cv t.code) (ha0:0≤t.at_) (ha1:t.at_ < 4294967296)
  (hL:L.Ok w0 q s) (hfit:Fit s) (hgl:gone.length < 1000000) (hgv0:0≤s.given) (hgv1:s.given < 2147483647) (hSl:SlO 1 24 (.slice ga gone.length gc) gone.length (gone.map U) N) (hN:New w0 N)
  (h:St w0 w (L.bl q s++(N++((n4,Cs (Tcs t.at_ sv cv) 41)::H))))
  (hK:∀ (w':World) (L':Lay) (N':HBL),L'.Ok w0 q (addS s t)→SlO 1 24 (.slice ga gone.length gc) gone.length ((sortI gone).map U) N'→New w0 N'→St w0 w' (N'++(L'.bl q (addS s t)++H))→K (.tuple [U (s.given+1),.slice ga gone.length gc,J 0].toArray) w') :
  f18_s15 ga gone.length gc (some ⟨q.cb,0,none⟩) (Addr.mk n4 0 none) w K:=by
 rw [f18_s15_eq]
 have h1:St w0 w (N++(L.bl q s++((n4,Cs (Tcs t.at_ sv cv) 41)::H))):=h.perm (perm_by fun c=>by simp only [List.map_append,List.map_cons,List.sum_append,List.sum_cons]; omega)
 refine sort61 _ _ _ _ _ gone hgl hSl hN h1 fun w145 N' hS' hN' h145=>⟨rfl,?_⟩
 have h146:St w0 w145 (L.bl q s++(N'++((n4,Cs (Tcs t.at_ sv cv) 41)::H))):=h145.perm (perm_by fun c=>by simp only [List.map_append,List.map_cons,List.sum_append,List.sum_cons]; omega)
 refine ⟨s.given,by rw [add_lit']; exact h146.cell (k:=1) rfl,?_⟩
 show St1 ((Addr.mk q.cb 0 none).add 8) _ _ _
 rw [add_lit',wrap_u32 (by omega) (by omega)]
 refine h146.st1 (k:=1) rfl (by simp [CCs]) rfl fun w149 h149=>?_
 have hL1:=hL.setGiven (s.given+1)
 have h150:St w0 w149 (L.bl q { s with given:=s.given+1 }++(N'++((n4,Cs (Tcs t.at_ sv cv) 41)::H))):=h149
 have h151:=h150.drew
 have hm4:(n4,Cs (Tcs t.at_ sv cv) 41)∈(L.bl q { s with given:=s.given+1 }++(N'++((n4,Cs (Tcs t.at_ sv cv) 41)::H))):=List.mem_append_right _ (List.mem_append_right _ (.head _))
 refine ⟨some q.ib,by rw [add_lit']; exact h151.cell (k:=1) rfl,s.given+1,by rw [add_lit']; exact h151.cell (k:=1) rfl,LdA_of (h151.has _ _ hm4) (by simp [Tcs]) ?_⟩
 have hsub:∀ {w2:World},St w0 w2 (L.bl q { s with given:=s.given+1 }++(N'++((n4,Cs (Tcs t.at_ sv cv) 41)::H)))→St w0 w2 H:=fun h2=>(((h2.sub hL1.newB).sub hN').tail hn4)
 refine copied_ok (l:=t.sp) (bs:=t.code) h151 ⟨fun w' h'=>hS.row w' (hsub h'),hS.len⟩ ⟨fun w' h'=>hB.row w' (hsub h'),hB.byte,hB.len,hB.cap⟩ fun w156 sv' cv' A M hSA hAN hSM hMN h156=>⟨_,rfl,?_⟩
 have h157:=Lay.addG (N:=M) (A:=A) (L:=L) (q:=q) (s:={ s with given:=s.given+1 }) h156
 have h158:=Lay.addG (N:=A) (A:=[]) (L:={ L with G:=M++L.G }) (q:=q) (s:={ s with given:=s.given+1 }) h157
 have hL2:=(hL1.addG hMN).addG hAN
 have h159:St w0 w156 (({ L with G:=A++(M++L.G) }:Lay).bl q { s with given:=s.given+1 }++(N'++((n4,Cs (Tcs t.at_ sv cv) 41)::H))):=h158
 have hv:TrOk (A++(M++L.G)) (.agg (Tcs t.at_ sv' cv').toArray) t:=⟨⟨_,_,rfl,(SpansM.of hSA hS.len).mono fun u hu=>List.mem_append_left _ hu,(BytesM.of hSM hB.byte hB.len).mono fun u hu=>List.mem_append_right _ (List.mem_append_left _ hu)⟩,ha0,ha1⟩
 obtain ⟨es',clk',hr,hit⟩:=hL2.its.update hv (h159.get (k:=2) rfl) (s.given+1)
 refine ⟨by rw [add_lit']; exact h159.cell (k:=1) rfl,by rw [add_lit']; exact h159.cell (k:=1) rfl,_,hr,?_⟩
 have h160:=h159.put (k:=2) rfl (.map es' clk')
 have hL3:=hL2.items hit
 have hg2:Glob (N'++((n4,Cs (Tcs t.at_ sv cv) 41)::H)):=hg.mono fun u hu=>List.mem_append_right _ (.tail _ hu)
 refine put_s16 (s:={ s with given:=s.given+1,items:=pt s.items (s.given+1) t }) hg2 hL3 (hfit.rows _ (List.getElem_mem _)) h160 fun w180 L4 hL4 h180=>?_
 refine put_s17 hg2 hL4 h180 fun w186 L5 hL5 h186=>?_
 have h187:St w0 w186 ((n4,Cs (Tcs t.at_ sv cv) 41)::(N'++(L5.bl q (addS s t)++H))):=St.perm (H:=L5.bl q (addS s t)++(N'++((n4,Cs (Tcs t.at_ sv cv) 41)::H))) h186 (perm_by fun c=>by simp only [List.map_append,List.map_cons,List.sum_append,List.sum_cons]; omega)
 exact hK w186 L5 N' hL5 hS' hN' (h187.tail hn4)
theorem put_s9 {n4:Nat} {t:TR} {sv cv:Value} (hg:Glob H) (hn4:w0.heap.size≤n4) (hS:Spans w0 H sv t.sp) (hB:Bytes w0 H cv t.code) (ha0:0≤t.at_) (ha1:t.at_ < 4294967296)
  (hL:L.Ok w0 q s) {m:Nat} (hE:EvR t.code.length m 0 s) (hgv0:0≤s.given) (hgv1:s.given < 2147483647)
  (h:St w0 w (L.bl q s++((n4,Cs (Tcs t.at_ sv cv) 41)::H)))
  (hK:∀ (w':World) (L':Lay) (gone:List Int) (s1:CState) (ov:Value) (N:HBL),Evicts t.code.length s gone s1→L'.Ok w0 q (addS s1 t)→SlO 1 24 ov gone.length ((sortI gone).map U) N→New w0 N→St w0 w' (N++(L'.bl q (addS s1 t)++H))→K (.tuple [U (s1.given+1),ov,J 0].toArray) w') :
  f18_s9 none 0 0 (some ⟨q.cb,0,none⟩) 0 0 (Addr.mk n4 0 none) w K:=by
 obtain ⟨ca,cc,e⟩:=(hB.row w ((h.sub hL.newB).tail hn4)).form
 subst e
 rw [f18_s9_eq]
 refine ⟨fun m e w=>∃ (L':Lay) (s':CState) (gone:List Int) (ga:Option Addr) (gc:Nat) (N:HBL),e=Env.mk 173 [(5,.slice ga gone.length gc),(0,.pointer (some ⟨q.cb,0,none⟩)),(4,U 0),(6,J 0),(3,.pointer (some (Addr.mk n4 0 none)))] []∧
  EvR t.code.length m gone.length s'∧SlO 1 24 (.slice ga gone.length gc) gone.length (gone.map U) N∧New w0 N∧L'.Ok w0 q s'∧St w0 w (L'.bl q s'++(N++((n4,Cs (Tcs t.at_ sv (.slice ca t.code.length cc)) 41)::H)))∧∀ g s1,Evicts t.code.length s' g s1→Evicts t.code.length s (gone++g) s1,
  ⟨m,L,s,[],none,0,[],rfl,hE,SlO.nil 1 24,New.nil _,hL,h,fun g s1 h=>h⟩,?_⟩
 rintro m e w1 ⟨L',s',gone,ga,gc,N,rfl,hE,hSl,hN,hL',hs,hev⟩
 show f18_lb10 ..
 rw [f18_lb10_eq]
 obtain ⟨hfit,hgl⟩:=hE.fit
 have hcl:=hB.len
 have hm4:∀ {w2:World},St w0 w2 (L'.bl q s'++(N++((n4,Cs (Tcs t.at_ sv (.slice ca t.code.length cc)) 41)::H)))→w2.cell? ((Addr.mk n4 0 none).add 2)=some (.slice ca t.code.length cc):=fun {w2} h2=>by
  have:(n4,Cs (Tcs t.at_ sv (.slice ca t.code.length cc)) 41)∈(L'.bl q s'++(N++((n4,Cs (Tcs t.at_ sv (.slice ca t.code.length cc)) 41)::H))):=List.mem_append_right _ (List.mem_append_right _ (.head _))
  rw [add_lit',cell_of (h2.has _ _ this)]; rfl
 have h1:=hs.drew
 have hc:=hL'.cur
 refine ⟨s'.cur,by rw [add_lit']; exact h1.cell (k:=1) rfl,ca,t.code.length,cc,hm4 h1,s'.len,by rw [add_lit']; exact h1.cell (k:=1) rfl,?_⟩
 refine filled_ok h1 hL' hc (by have:=hfit.rows _ (List.getElem_mem hc); omega) fun w96 h96=>⟨_,rfl,by rw [add_lit']; exact h96.cell (k:=1) rfl,hm4 h96,?_⟩
 have hfb:=filledL_bound (hL'.codeLen h96) s'.rows[s'.cur]
 have hfs:filledS s' s'.cur=filledL s'.items s'.rows[s'.cur]:=by unfold filledS filledL; rw [List.getElem?_eq_getElem hc]; rfl
 have hrl:=hfit.rows _ (List.getElem_mem hc)
 rw [wrap_i64 (by omega) (by omega)]
 have hlast:∀ s1:CState,Evicts t.code.length s gone s1→s1.given=s.given:=fun s1 h=>h.conf.2.2.1
 have yes:∀ w2,fullS s' t.code.length=true→St w0 w2 (L'.bl q s'++(N++((n4,Cs (Tcs t.at_ sv (.slice ca t.code.length cc)) 41)::H)))→
   f18_s11 true (some ⟨q.cb,0,none⟩) 0 0 (Addr.mk n4 0 none) ga gone.length gc w2 K (fun e' w'=>∃ m',m' < m∧∃ (L':Lay) (s':CState) (gone:List Int) (ga:Option Addr) (gc:Nat) (N:HBL),e'=Env.mk 173 [(5,.slice ga gone.length gc),(0,.pointer (some ⟨q.cb,0,none⟩)),(4,U 0),(6,J 0),(3,.pointer (some (Addr.mk n4 0 none)))] []∧
    EvR t.code.length m' gone.length s'∧SlO 1 24 (.slice ga gone.length gc) gone.length (gone.map U) N∧New w0 N∧L'.Ok w0 q s'∧St w0 w' (L'.bl q s'++(N++((n4,Cs (Tcs t.at_ sv (.slice ca t.code.length cc)) 41)::H)))∧∀ g s1,Evicts t.code.length s' g s1→Evicts t.code.length s (gone++g) s1):=by
  intro w2 hfull h2
  rw [f18_s11_eq,BIf_true,f18_s12_eq]
  have h3:=h2.drew
  have hmod:(s'.cur+1) % s'.rows.length < s'.rows.length:=Nat.mod_lt _ (by omega)
  have hrlen:=hL'.rl
  refine ⟨s'.cur,by rw [add_lit']; exact h3.cell (k:=1) rfl,s'.rows.length,h3.cell (k:=1) rfl,by omega,?_⟩
  show St1 ((Addr.mk q.cb 0 none).add 7) _ _ _
  rw [add_lit',wrap_i64 (by omega) (by omega)]
  have htm:((s'.cur:Int)+1).tmod (s'.rows.length:Int)=(((s'.cur+1) % s'.rows.length:Nat):Int):=by
   rw [Int.tmod_eq_emod_of_nonneg (by omega),Int.natCast_emod]; rfl
  rw [htm]
  refine h3.st1 (k:=1) rfl (by simp [CCs]) rfl fun w114 h114=>?_
  have h115:St w0 w114 (L'.bl q (nextS s')++(N++((n4,Cs (Tcs t.at_ sv (.slice ca t.code.length cc)) 41)::H))):=h114
  cases m with
  | zero=>
   have:=hE.2.2
   rw [this] at hfull; cases hfull
  | succ m=>
   refine evict_s13 hg hn4 (hL'.setCur hmod) hfit.rows hfit.ev0 hfit.ev1 hgl hSl hN h115 fun w' L2 s2 ga' gc' N' hF hL2 hS2 hN2 hs2=>?_
   refine ⟨m,Nat.lt_succ_self m,L2,_,gone++rowS (nextS s'),ga',gc',N',rfl,?_,hS2,hN2,hL2,hs2,fun g s1 hg=>?_⟩
   ·rw [List.length_append]; exact hE.2.2 hfull s2 hF
   ·rw [List.append_assoc]
    exact hev _ _ (.step hfull hF hg)
 have no:∀ w2,fullS s' t.code.length=false→St w0 w2 (L'.bl q s'++(N++((n4,Cs (Tcs t.at_ sv (.slice ca t.code.length cc)) 41)::H)))→f18_s15 ga gone.length gc (some ⟨q.cb,0,none⟩) (Addr.mk n4 0 none) w2 K:=by
  intro w2 hfull h2
  have hEv:=hev [] s' (.done hfull)
  rw [List.append_nil] at hEv
  have hgv:=hlast s' hEv
  refine put_s15 hg hn4 hS hB ha0 ha1 hL' hfit hgl (by omega) (by omega) hSl hN h2 fun w' L2 N' hok hS' hN' hs'=>?_
  exact hK w' L2 gone s' _ N' hEv hok hS' hN' hs'
 rw [BIf_iff]
 refine ⟨fun hb=>?_,fun hb=>?_⟩
 ·refine yes w96 ?_ h96
  unfold fullS
  rw [hb]; rfl
 ·refine ⟨some q.ib,by rw [add_lit']; exact h96.cell (k:=1) rfl,s'.items.length,fun wq hx=>hL'.its.len (extGet hx (h96.get (k:=2) rfl)),?_⟩
  refine limit59 h96 hL' ⟨_,rfl,?_⟩
  have hdd:decide ((s'.items.length:Int)≥(limitS s':Nat))=decide (limitS s'≤s'.items.length):=by
   by_cases hx:limitS s'≤s'.items.length
   ·rw [decide_eq_true hx,decide_eq_true (by omega)]
   ·rw [decide_eq_false hx,decide_eq_false (by omega)]
  rw [hdd]
  have hfe:fullS s' t.code.length=decide (limitS s'≤s'.items.length):=by
   unfold fullS
   rw [hb]; rfl
  cases hd:decide (limitS s'≤s'.items.length) with
  | true=>rw [hd] at hfe; exact yes w96 hfe h96
  | false=>
   rw [hd] at hfe
   rw [f18_s11_eq,BIf_false]
   exact no w96 hfe h96
theorem put_ok {t:TR} {sv cv:Value} (h:St w0 w (L.bl q s++H)) (hL:L.Ok w0 q s) (hg:Glob H) (hS:Spans w0 H sv t.sp) (hB:Bytes w0 H cv t.code) (ha:isW t.at_) (hgv0:0≤s.given) (hgv1:s.given≤2147483647)
  (hE:putErr s t=0→∃ m,EvR t.code.length m 0 s)
  (hF:putErr s t≠0→∀ w',St w0 w' (L.bl q s++H)→K (.tuple [U 0,.slice none 0 0,J (putErr s t)].toArray) w')
  (hK:putErr s t=0→∀ (w':World) (L':Lay) (gone:List Int) (s1:CState) (ov:Value) (N:HBL),Evicts t.code.length s gone s1→L'.Ok w0 q (addS s1 t)→SlO 1 24 ov gone.length ((sortI gone).map U) N→New w0 N→St w0 w' (N++(L'.bl q (addS s1 t)++H))→K (.tuple [U (s1.given+1),ov,J 0].toArray) w') :
  CallL P 18 [.pointer (some ⟨q.cb,0,none⟩),.agg (Tcs t.at_ sv cv).toArray] w K:=by
 refine f18_ok _ _ _ _ ?_
 obtain ⟨sa,sc,e1⟩:=(hS.row w (h.sub hL.newB)).form
 obtain ⟨ca,cc,e2⟩:=(hB.row w (h.sub hL.newB)).form
 subst e1; subst e2
 rw [f18_eq,f18_s0_eq]
 refine h.newC fun n4 w5 hn4 h5=>?_
 have h5:St w0 w5 ((n4,Cs (Tcs t.at_ (.slice sa t.sp.length sc) (.slice ca t.code.length cc)) 41)::(L.bl q s++H)):=h5
 have h6:St w0 w5 (L.bl q s++((n4,Cs (Tcs t.at_ (.slice sa t.sp.length sc) (.slice ca t.code.length cc)) 41)::H)):=h5.perm (perm_by fun c=>by simp only [List.map_append,List.map_cons,List.sum_append,List.sum_cons]; omega)
 have back:∀ {w2:World},St w0 w2 (L.bl q s++((n4,Cs (Tcs t.at_ (.slice sa t.sp.length sc) (.slice ca t.code.length cc)) 41)::H))→St w0 w2 ((n4,Cs (Tcs t.at_ (.slice sa t.sp.length sc) (.slice ca t.code.length cc)) 41)::(L.bl q s++H)):=fun {w2} h2=>h2.perm (perm_by fun c=>by simp only [List.map_append,List.map_cons,List.sum_append,List.sum_cons]; omega)
 have hg2:Glob ((n4,Cs (Tcs t.at_ (.slice sa t.sp.length sc) (.slice ca t.code.length cc)) 41)::H):=hg.mono fun u hu=>.tail _ hu
 have hS2:Spans w0 (L.bl q s++((n4,Cs (Tcs t.at_ (.slice sa t.sp.length sc) (.slice ca t.code.length cc)) 41)::H)) (.slice sa t.sp.length sc) t.sp:=⟨fun w' h'=>hS.row w' ((h'.sub hL.newB).tail hn4),hS.len⟩
 have hB2:Bytes w0 (L.bl q s++((n4,Cs (Tcs t.at_ (.slice sa t.sp.length sc) (.slice ca t.code.length cc)) 41)::H)) (.slice ca t.code.length cc) t.code:=⟨fun w' h'=>hB.row w' ((h'.sub hL.newB).tail hn4),hB.byte,hB.len,hB.cap⟩
 have fail:∀ {e:Int} {w2:World},putErr s t=e→e≠0→St w0 w2 (L.bl q s++((n4,Cs (Tcs t.at_ (.slice sa t.sp.length sc) (.slice ca t.code.length cc)) 41)::H))→K (.tuple [U 0,.slice none 0 0,J e].toArray) w2:=fun {e w2} he hne h2=>by
  subst he
  exact hF hne w2 ((back h2).tail hn4)
 rw [f18_s1_eq]
 refine none53 h6 ⟨_,rfl,?_⟩
 simp only [BIf_false]
 rw [f18_s2_eq]
 refine ⟨ca,t.code.length,cc,by rw [add_lit']; exact h5.cell (k:=0) rfl,?_⟩
 obtain ⟨⟨gcs,gt,hg1,hgt⟩,hbits⟩:=hg2
 refine exits_ok h6 hB2 (List.mem_append_right _ hg1) hgt (fun w22 h22 hn=>⟨_,_,_,_,rfl,?_⟩) fun w22 xa xc N l hl hll h22 hN hSl=>⟨_,_,_,_,rfl,?_⟩
 ·rw [f18_s3_eq]
  simp only [show ((170:Int) != 0)=true from rfl,BIf_true]
  exact fail (by unfold putErr; rw [hn]) (by decide) h22
 rw [f18_s3_eq]
 simp only [show ((0:Int) != 0)=false from rfl,BIf_false]
 rw [f18_s4_eq]
 have hpe:putErr s t=if areSpansF t.sp=false∨(l.any fun e=>e.chain != 0)=true then 1 else if (lookS s t.at_).1≠0 then 5 else if (t.code.length:Int) > s.len∨s.given=2147483647 then 2 else 0:=by unfold putErr; rw [hl]
 have hm4:∀ {w2:World} {Z:HBL},St w0 w2 (Z++(L.bl q s++((n4,Cs (Tcs t.at_ (.slice sa t.sp.length sc) (.slice ca t.code.length cc)) 41)::H)))→w2.heap[n4]?=some (Cs (Tcs t.at_ (.slice sa t.sp.length sc) (.slice ca t.code.length cc)) 41):=fun {w2 Z} h2=>
  h2.has _ _ (List.mem_append_right _ (List.mem_append_right _ (.head _)))
 refine ⟨sa,t.sp.length,sc,by rw [add_lit',cell_of (hm4 h22)]; rfl,?_⟩
 refine areSpans_ok (l:=t.sp) h22 ⟨fun w' h'=>hS2.row w' (h'.sub hN),hS.len⟩ fun w48 h48=>⟨_,rfl,?_⟩
 have s5t:∀ {w2:World},(areSpansF t.sp=false∨(l.any fun e=>e.chain != 0)=true)→St w0 w2 (N++(L.bl q s++((n4,Cs (Tcs t.at_ (.slice sa t.sp.length sc) (.slice ca t.code.length cc)) 41)::H)))→f18_s5 true none 0 0 (some ⟨q.cb,0,none⟩) 0 0 (Addr.mk n4 0 none) w2 K:=fun {w2} hc h2=>by
  rw [f18_s5_eq,BIf_true]
  exact fail (by rw [hpe,if_pos hc]) (by decide) (h2.sub hN)
 rw [BIf_iff]
 refine ⟨fun hb=>s5t (.inl (by simpa using hb)) h48,fun hb=>?_⟩
 have hsp:areSpansF t.sp=true:=by simpa using hb
 have hcl:=hB.len
 refine contains56_ok (l:=l) h48 (fun w' h'=>hSl.row fun u hu=>h'.has _ _ (List.mem_append_left _ hu)) (by omega) asks57 fun w198 h198=>⟨_,rfl,?_⟩
 cases hch:(l.any fun e=>e.chain != 0) with
 | true=>exact s5t (.inr hch) h198
 | false=>
  have hno:¬ (areSpansF t.sp=false∨(l.any fun e=>e.chain != 0)=true):=by rw [hsp,hch]; simp
  rw [if_neg hno] at hpe
  rw [f18_s5_eq,BIf_false,f18_s6_eq]
  have h199:=h198.sub hN
  refine ⟨t.at_,(back h199).cell (k:=0) rfl,?_⟩
  refine find_ok h199 hL (hg.mono fun u hu=>.tail _ hu) ha.1 ha.2 fun w63 h63=>⟨_,_,rfl,?_⟩
  rw [BIf_iff]
  refine ⟨fun hx=>?_,fun hx=>?_⟩
  ·have hx:(lookS s t.at_).1≠0:=by simpa using hx
   exact fail (by rw [hpe,if_pos hx]) (by decide) h63
  have hx:(lookS s t.at_).1=0:=by simpa using hx
  rw [if_neg (by simp [hx])] at hpe
  rw [f18_s7_eq]
  have h64:=h63.drew
  refine ⟨ca,t.code.length,cc,by rw [add_lit']; exact (back h64).cell (k:=0) rfl,s.len,by rw [add_lit']; exact h64.cell (k:=1) rfl,?_⟩
  have s8t:∀ {w2:World},((t.code.length:Int) > s.len∨s.given=2147483647)→St w0 w2 (L.bl q s++((n4,Cs (Tcs t.at_ (.slice sa t.sp.length sc) (.slice ca t.code.length cc)) 41)::H))→f18_s8 true none 0 0 (some ⟨q.cb,0,none⟩) 0 0 (Addr.mk n4 0 none) w2 K:=fun {w2} hc h2=>by
   rw [f18_s8_eq,BIf_true]
   exact fail (by rw [hpe,if_pos hc]) (by decide) h2
  rw [BIf_iff]
  refine ⟨fun hlt=>s8t (.inl (by simpa using hlt)) h64,fun hlt=>?_⟩
  have hlt:¬ (t.code.length:Int) > s.len:=by simpa using hlt
  refine ⟨s.given,by rw [add_lit']; exact h64.cell (k:=1) rfl,?_⟩
  cases hgv:(s.given == 2147483647) with
  | true=>exact s8t (.inr (by simpa using hgv)) h64
  | false=>
   have hgv:s.given≠2147483647:=by simpa using hgv
   have hp0:putErr s t=0:=by rw [hpe,if_neg (fun hc=>hc.elim hlt hgv)]
   rw [f18_s8_eq,BIf_false]
   obtain ⟨m,hE⟩:=hE hp0
   exact put_s9 hg hn4 hS hB ha.1 ha.2 hL hE hgv0 (by omega) h64 (hK hp0)
end Go.Fx.Tryz
namespace Go.Fx.Ch
open Go.Fx.Tryz
set_option linter.all false
def ins (x:Int):List Int→List Int
 | []=>[x]
 | y::l=>if x≤y then x::y::l else y::ins x l
def isort:List Int→List Int
 | []=>[]
 | x::l=>ins x (isort l)
theorem ins_perm (x:Int):∀ l,(ins x l).Perm (x::l)
 | []=>.refl _
 | y::l=>by
  unfold ins
  split
  ·exact .refl _
  ·exact ((ins_perm x l).cons y).trans (List.Perm.swap _ _ _)
theorem isort_perm:∀ l,(isort l).Perm l
 | []=>.refl _
 | x::l=>(ins_perm x _).trans ((isort_perm l).cons x)
theorem ins_sorted (x:Int):∀ l:List Int,l.Pairwise (·≤·)→(ins x l).Pairwise (·≤·)
 | [],_=>by simp [ins]
 | y::l,h=>by
  unfold ins
  have h1:=List.pairwise_cons.1 h
  split
  ·rename_i hxy
   refine List.pairwise_cons.2 ⟨fun z hz=>?_,h⟩
   rcases List.mem_cons.1 hz with rfl | hz
   ·exact hxy
   ·have:=h1.1 z hz; omega
  ·rename_i hxy
   refine List.pairwise_cons.2 ⟨fun z hz=>?_,ins_sorted x l h1.2⟩
   rcases List.mem_cons.1 ((ins_perm x l).mem_iff.1 hz) with rfl | hz
   ·omega
   ·exact h1.1 z hz
theorem isort_sorted:∀ l:List Int,(isort l).Pairwise (·≤·)
 | []=>List.Pairwise.nil
 | x::l=>ins_sorted x _ (isort_sorted l)
theorem sortI_isort (l:List Int):sortI l=isort l:=by
 have h1:(sortI l).Perm (isort l):=(List.mergeSort_perm l _).trans (isort_perm l).symm
 have hp:(sortI l).Pairwise fun x y=>decide (x≤y)=true:=List.pairwise_mergeSort (fun x y z hx hy=>by simp at *; omega) (fun x y=>by simp; omega) l
 exact h1.eq_of_pairwise (fun x y _ _ hx hy=>by simp at hx hy; omega) hp ((isort_sorted l).imp fun h=>by simpa using h)
def forgetD:CState→List Int→CState
 | s,[]=>s
 | s,id::l=>forgetD (forget1 ((lk s.hold id).getD []) s id) l
def detF:CState→List Int→Bool
 | _,[]=>true
 | s,id::l=>decide (((lk s.hold id).getD []).length≤1) && detF (forget1 ((lk s.hold id).getD []) s id) l
theorem Forgets.det {s s':CState} {l:List Int} (h:Forgets s l s'):detF s l=true→s'=forgetD s l:=by
 induction h with
 | nil=>exact fun _=>rfl
 | @cons s s' id l order ho _ ih=>
  intro hd
  simp only [detF,Bool.and_eq_true,decide_eq_true_eq] at hd
  have ho':order=(lk s.hold id).getD []:=by
   generalize (lk s.hold id).getD []=m at *
   match m,ho,hd.1 with
   | [],ho,_=>exact List.Perm.eq_nil ho
   | [x],ho,_=>exact List.perm_singleton.1 ho
  subst ho'
  exact ih hd.2
def rowD (s:CState):List Int:=isort ((s.rows[s.cur]?).getD [])
theorem rowS_eq (s:CState):rowS s=rowD s:=sortI_isort _
def fitB (s:CState):Bool:=(s.rows.all fun r=>decide (r.length < 1000000)) && decide (0≤s.ev) && decide (s.ev < 1099511627776) && decide (s.items.length < 1000000) && s.table.all fun x=>decide (0≤x) && decide (x < 4294967296)
theorem fitB_fit {s:CState} (h:fitB s=true):Fit s:=by
 simp only [fitB,Bool.and_eq_true,List.all_eq_true,decide_eq_true_eq] at h
 exact ⟨h.1.1.1.1,h.1.1.1.2,h.1.1.2,h.1.2,h.2⟩
def evD (n:Nat):Nat→CState→Option (List Int × CState)
 | 0,s=>if fitB s && !(fullS s n) then some ([],s) else none
 | m+1,s=>if fitB s then if fullS s n then (if detF (nextS s) (rowD (nextS s)) then
   (evD n m { forgetD (nextS s) (rowD (nextS s)) with ev:=(forgetD (nextS s) (rowD (nextS s))).ev+(rowD (nextS s)).length }).map fun r=>(rowD (nextS s)++r.1,r.2) else none) else some ([],s) else none
theorem evD_spec {n:Nat}:∀ (m:Nat) (s:CState) (r:List Int × CState),evD n m s=some r→(∀ g,g+r.1.length < 1000000→EvR n m g s)∧∀ g s1,Evicts n s g s1→g=r.1∧s1=r.2
 | 0,s,r,h=>by
  unfold evD at h
  split at h
  ·rename_i hc
   simp only [Bool.and_eq_true,Bool.not_eq_true'] at hc
   cases h
   refine ⟨fun g hg=>⟨fitB_fit hc.1,by simpa using hg,hc.2⟩,fun g s1 he=>?_⟩
   cases he with
   | done=>exact ⟨rfl,rfl⟩
   | step hf=>rw [hc.2] at hf; cases hf
  ·cases h
 | m+1,s,r,h=>by
  unfold evD at h
  split at h
  ·rename_i hfit
   split at h
   ·rename_i hfull
    split at h
    ·rename_i hdet
     cases hv:evD n m { forgetD (nextS s) (rowD (nextS s)) with ev:=(forgetD (nextS s) (rowD (nextS s))).ev+(rowD (nextS s)).length } with
     | none=>rw [hv] at h; cases h
     | some r'=>
      rw [hv] at h
      simp only [Option.map_some,Option.some.injEq] at h
      subst h
      obtain ⟨i1,i2⟩:=evD_spec m _ _ hv
      refine ⟨fun g hg=>⟨fitB_fit hfit,by simp only [List.length_append] at hg; omega,fun _ s2 hF=>?_⟩,fun g s1 he=>?_⟩
      ·rw [rowS_eq] at hF ⊢
       rw [hF.det hdet]
       exact i1 _ (by simp only [List.length_append] at hg; omega)
      ·cases he with
       | done hf=>rw [hfull] at hf; cases hf
       | step _ hF he2=>
        rw [rowS_eq] at hF he2 ⊢
        rw [hF.det hdet] at he2
        obtain ⟨e1,e2⟩:=i2 _ _ he2
        exact ⟨by rw [e1],e2⟩
    ·cases h
   ·rename_i hfull
    have hfull:fullS s n=false:=by simpa using hfull
    cases h
    refine ⟨fun g hg=>⟨fitB_fit hfit,by simpa using hg,fun hf=>by rw [hfull] at hf; cases hf⟩,fun g s1 he=>?_⟩
    cases he with
    | done=>exact ⟨rfl,rfl⟩
    | step hf=>rw [hfull] at hf; cases hf
  ·cases h
end Go.Fx.Ch
namespace Go.Fx
open Go
variable {P:Program}
theorem LoopE_mapE {B:(YT)→YT} {e0:Env} {w1:World} {es:Array MapEntry} (J:List MapEntry→Array Nat→YT) (h0:J [] #[] e0 w1)
  (hover:∀ vis seen e w,Vis es vis [] seen→J vis seen e w→∀ Y,B Y e w)
  (hmore:∀ vis rem seen e w,rem≠[]→Vis es vis rem seen→J vis seen e w→∀ Y:YT,(∀ x e' w',x∈es.toList→x.born ∉ seen.toList→J (vis++[x]) (seen.push x.born) e' w'→Y e' w')→B Y e w):LoopE B e0 w1:=by
 refine ⟨fun n e w=>∃ vis rem seen,n=rem.length∧Vis es vis rem seen∧J vis seen e w,⟨_,[],_,_,rfl,Vis.start es,h0⟩,?_⟩
 rintro n e w ⟨vis,rem,seen,rfl,hv,hj⟩
 by_cases hr:rem=[]
 ·subst hr; exact hover vis seen e w hv hj _
 ·refine hmore vis rem seen e w hr hv hj _ fun x e' w' hx hn hj'=>?_
  obtain ⟨rem',hl,hv'⟩:=hv.step hx hn
  exact ⟨rem'.length,by omega,_,rem',_,rfl,hv',hj'⟩
end Go.Fx
namespace Go.Fx.Tryz
open Go Go.Fx Go.Fx.Ch
open Go.Proofs
set_option linter.all false
set_option maxRecDepth 20000
variable {w0 w:World} {H X G:HBL} {K:KT} {s:CState} {L:Lay} {q:LB}
theorem vis_keys {K:Type} {enc:K→Value} (hinj:∀ a b,enc a=enc b→a=b) {es:Array MapEntry} {clk:Nat} {m:List (K × Value)} (h:MapIs enc es clk m) {vis:List MapEntry} {seen:Array Nat} (hv:Vis es vis [] seen) {ks:List K} (ho:vis.map (·.key)=ks.map enc):ks.Perm (m.map (·.1)):=by
 have h1:(vis.map (·.key)).Perm (es.toList.map (·.key)):=by
  have:=hv.perm
  rw [List.append_nil] at this
  exact (this.map _).symm
 rw [ho] at h1
 have h2:(es.toList.map (·.key)).Perm ((m.map (·.1)).map enc):=by
  have:=h.perm.map (·.1)
  rw [List.map_map,List.map_map] at this
  rw [List.map_map]
  exact this
 exact perm_of_map' hinj (h1.trans h2)
theorem vis_len {es:Array MapEntry} {vis rem:List MapEntry} {seen:Array Nat} (hv:Vis es vis rem seen):vis.length+rem.length=es.size:=by
 have:=hv.perm.length_eq
 rw [List.length_append] at this
 simpa using this.symm
theorem ItemsAt.entry {es:Array MapEntry} {clk:Nat} {items:List (Int × TR)} (h:ItemsAt G es clk items) {e:MapEntry} (he:e∈es.toList):∃ id:Int,e.key=U id∧TrOk G e.val (itemOf items id)∧(lk items id).isSome=true:=by
 obtain ⟨m,h1,h2⟩:=h
 obtain ⟨p,hp,hk,hv⟩:=h1.pair' he
 refine ⟨p.1,hk,?_⟩
 have hl:lookM m p.1=some p.2:=(lookM_some h1.nodup).2 hp
 rcases h2.lk p.1 with ⟨e1,_⟩ | ⟨v,t,e1,e2,e3⟩
 ·rw [lookM_lk,e1] at hl; cases hl
 ·rw [lookM_lk,e1] at hl
  cases hl
  rw [hv,e2]
  unfold itemOf
  rw [e2]
  exact ⟨e3,rfl⟩
def metBy (s:CState) (r:SP) (id:Int):Bool:=(itemOf s.items id).sp.any (meetsF r)
def dropL (s:CState) (r:SP):List Int:=sortI ((s.items.map (·.1)).filter (metBy s r))
theorem drop_ok {r:SP} (h:St w0 w (L.bl q s++H)) (hL:L.Ok w0 q s) (hg:Glob H) (hn:s.items.length < 1000000) (hd0:0≤s.dr) (hd1:s.dr < 1099511627776)
  (hK:∀ (w':World) (L':Lay) (s':CState) (ov:Value) (N:HBL),Forgets s (dropL s r) s'→L'.Ok w0 q { s' with dr:=s'.dr+(dropL s r).length }→SlO 1 24 ov (dropL s r).length ((dropL s r).map U) N→New w0 N→
   St w0 w' (N++(L'.bl q { s' with dr:=s'.dr+(dropL s r).length }++H))→K ov w') :
  CallL P 20 [.pointer (some ⟨q.cb,0,none⟩),.agg (Scs r).toArray] w K:=by
 refine f20_ok _ _ _ _ ?_
 rw [f20_eq]
 refine h.newC fun n2 w3 hn2 h3=>?_
 have h3:St w0 w3 ((n2,Cs (Scs r) 36)::(L.bl q s++H)):=h3
 have h4:St w0 w3 (L.bl q s++((n2,Cs (Scs r) 36)::H)):=h3.perm (perm_by fun c=>by simp only [List.map_append,List.map_cons,List.sum_append,List.sum_cons]; omega)
 refine none53 h4 ⟨_,rfl,?_⟩
 simp only [BIf_false]
 rw [f20_s0_eq]
 refine ⟨some q.ib,by rw [add_lit']; exact h4.cell (k:=1) rfl,_,_,run_range (by kernel_rfl:P.underlying 105=some (.map 24 41)) (h4.get (k:=2) rfl),?_⟩
 have hit:=h4.le
 have h5:=h4.alloc (.mapIter (some q.ib) L.iclk #[] L.iclk)
 generalize w3.heap.size=it at hit h5
 obtain ⟨m,hm,hlike⟩:=hL.its
 have hsz:L.ies.size=s.items.length:=by rw [hm.size,hlike.length]
 have hkeys:m.map (·.1)=s.items.map (·.1):=Like.keys hlike
 refine LoopE_mapE (es:=L.ies) (fun vis seen e w'=>∃ (ks:List Int) (ga:Option Addr) (gc:Nat) (N:HBL),vis.map (·.key)=ks.map encN∧e=Env.mk 41 [(5,.slice ga (ks.filter (metBy s r)).length gc),(3,.pointer (some (Addr.mk n2 0 none))),(14,.pointer (some (Addr.mk it 0 none))),(4,.slice none 0 0),(0,.pointer (some ⟨q.cb,0,none⟩))] []∧
  SlO 1 24 (.slice ga (ks.filter (metBy s r)).length gc) (ks.filter (metBy s r)).length ((ks.filter (metBy s r)).map U) N∧New w0 N∧St w0 w' ((it,.mapIter (some q.ib) L.iclk seen L.iclk)::(L.bl q s++(N++((n2,Cs (Scs r) 36)::H)))))
  ⟨[],none,0,[],rfl,rfl,SlO.nil 1 24,New.nil _,h5⟩ ?_ ?_
 ·rintro vis seen e w1 hv ⟨ks,ga,gc,N,hks,rfl,hS,hN,hs⟩ Y
  show f20_lb1 ..
  rw [f20_lb1_eq]
  refine .inl ⟨w1,run_next_over (hs.get (k:=0) rfl) (hs.get (k:=3) rfl) hm.st hv.over,?_⟩
  rw [f20_s2_eq]
  have hperm:ks.Perm (s.items.map (·.1)):=by rw [← hkeys]; exact vis_keys (fun a b h=>by injection h) hm hv hks
  have hso:sortI (ks.filter (metBy s r))=dropL s r:=sortI_perm (hperm.filter _)
  have hfl:(ks.filter (metBy s r)).length < 1000000:=by
   have h1:=List.length_filter_le (metBy s r) ks
   have h2:=hperm.length_eq
   rw [List.length_map] at h2
   omega
  have hs1:=hs.tail hit
  have hg2:Glob (N++((n2,Cs (Scs r) 36)::H)):=hg.mono fun u hu=>List.mem_append_right _ (.tail _ hu)
  refine forget_ok sort61 hs1 hL hg2 (fun w' h'=>hS.row fun u hu=>h'.has _ _ (List.mem_append_right _ (List.mem_append_left _ hu))) hfl fun w26 L' s' ov M hF hL' hSl hM h26=>?_
  rw [hso] at hF hSl
  obtain ⟨la,lc,e⟩:=hSl.form
  subst e
  have hdl:(dropL s r).length < 1000000:=by rw [← hso,sortI_length]; exact hfl
  have hdr:s'.dr=s.dr:=hF.conf.2.2.2.2.2.1
  have h27:St w0 w26 (L'.bl q s'++(M++(N++((n2,Cs (Scs r) 36)::H)))):=h26.perm (perm_by fun c=>by simp only [List.map_append,List.map_cons,List.sum_append,List.sum_cons]; omega)
  refine ⟨_,_,_,rfl,s'.dr,by rw [add_lit']; exact h27.cell (k:=1) rfl,?_⟩
  show St1 ((Addr.mk q.cb 0 none).add 10) _ _ _
  rw [add_lit',wrap_i64 (by omega) (by omega)]
  refine h27.st1 (k:=1) rfl (by simp [CCs]) rfl fun w31 h31=>?_
  have h32:St w0 w31 (L'.bl q { s' with dr:=s'.dr+(dropL s r).length }++(M++(N++((n2,Cs (Scs r) 36)::H)))):=h31
  have h33:St w0 w31 (N++((n2,Cs (Scs r) 36)::(M++(L'.bl q { s' with dr:=s'.dr+(dropL s r).length }++H)))):=h32.perm (perm_by fun c=>by simp only [List.map_append,List.map_cons,List.sum_append,List.sum_cons]; omega)
  exact hK w31 L' s' _ M hF (hL'.setDr _) hSl hM ((h33.sub hN).tail hn2)
 ·rintro vis rem seen e w1 hr hv ⟨ks,ga,gc,N,hks,rfl,hS,hN,hs⟩ Y hY
  show f20_lb1 ..
  rw [f20_lb1_eq]
  obtain ⟨x,w2,he,hnb,hw2,hk2,hrun⟩:=run_next_some (P:=P) (hs.get (k:=0) rfl) (hs.get (k:=3) rfl) hm.st (hv.more hm.st hr)
  have h3:St w0 (w2.putObj it (.mapIter (some q.ib) L.iclk (seen.push x.born) L.iclk)) ((it,.mapIter (some q.ib) L.iclk (seen.push x.born) L.iclk)::(L.bl q s++(N++((n2,Cs (Scs r) 36)::H)))):=(hs.same hw2 hk2).put (k:=0) rfl _
  obtain ⟨id,hek,hv',_⟩:=hL.its.entry he
  obtain ⟨⟨sv,cv,hva,hSp,hBp⟩,_,_⟩:=hv'
  refine .inr ⟨_,_,_,hrun,?_⟩
  rw [f20_s3_eq]
  refine ⟨x.key,x.val,_,run_entry (h3.get (k:=0) rfl) (h3.get (k:=3) rfl) (by simp) (find_born hm.st he),id,hek,_,hva,?_⟩
  generalize hti:itemOf s.items id=t at *
  obtain ⟨sa,sc,e1⟩:=((hSp.spans (w0:=w0) (H:=L.bl q s++H) fun u hu=>List.mem_append_left _ (L.G_mem q s u hu)).row w h).form
  obtain ⟨ca,cc,e2⟩:=((hBp.bytes (w0:=w0) (H:=L.bl q s++H) fun u hu=>List.mem_append_left _ (L.G_mem q s u hu)).row w h).form
  subst e1; subst e2
  rw [zcells41]
  refine h3.newC fun n42 w43 hn42 h43=>h43.stA (k:=0) rfl rfl (by simp) (by simp [Tcs,Value.oneCell']) fun w44 h44=>?_
  have h44:St w0 w44 ((n42,Cs (Tcs t.at_ (.slice sa t.sp.length sc) (.slice ca t.code.length cc)) 41)::(it,.mapIter (some q.ib) L.iclk (seen.push x.born) L.iclk)::(L.bl q s++(N++((n2,Cs (Scs r) 36)::H)))):=h44
  refine ⟨sa,t.sp.length,sc,by rw [add_lit']; exact h44.cell (k:=0) rfl,?_⟩
  have hm2:(n2,Cs (Scs r) 36)∈((n42,Cs (Tcs t.at_ (.slice sa t.sp.length sc) (.slice ca t.code.length cc)) 41)::(it,.mapIter (some q.ib) L.iclk (seen.push x.born) L.iclk)::(L.bl q s++(N++((n2,Cs (Scs r) 36)::H)))):=.tail _ (.tail _ (List.mem_append_right _ (List.mem_append_right _ (.head _))))
  refine contains65_ok (l:=t.sp) h44 (hSp.spans fun u hu=>.tail _ (.tail _ (List.mem_append_left _ (L.G_mem q s u hu)))) (asks66 (t:=36) hm2) fun w47 h47=>⟨_,rfl,?_⟩
  have h48:=h47.tail hn42
  have hkl:ks.length+1≤s.items.length:=by
   have h1:=vis_len hv
   have h2:=congrArg List.length hks
   have h5:0 < rem.length:=List.length_pos_iff.2 hr
   rw [List.length_map,List.length_map] at h2
   omega
  have hfk:(ks.filter (metBy s r)).length≤ks.length:=List.length_filter_le _ _
  have hmb:t.sp.any (fun e=>meetsF r e)=metBy s r id:=by unfold metBy; rw [hti]
  rw [hmb,BIf_iff]
  refine ⟨fun hb=>?_,fun hb=>?_⟩
  ·refine ⟨⟨rfl,trivial⟩,h48.newC fun n52 w50 hn52 h50=>?_⟩
   have h51:St w0 w50 ([(n52,Cs [U id] 24)]++(N++((it,.mapIter (some q.ib) L.iclk (seen.push x.born) L.iclk)::(L.bl q s++((n2,Cs (Scs r) 36)::H))))):=by
    have h50:St w0 w50 ((n52,Cs [U id] 24)::(it,.mapIter (some q.ib) L.iclk (seen.push x.born) L.iclk)::(L.bl q s++(N++((n2,Cs (Scs r) 36)::H)))):=h50
    exact h50.perm (perm_by fun c=>by simp only [List.map_append,List.map_cons,List.map_nil,List.sum_append,List.sum_cons,List.sum_nil]; omega)
   obtain ⟨g,cap,w54,N',hrun2,hX,h54,hXN⟩:=St.append (P:=P) 22 22 24 Tryz.t24 (U 0) 1 4 Tryz.underlying22 (by kernel_rfl) rfl rfl rfl rfl (by omega) (A:=[(n52,Cs [U id] 24)]) (news:=[U id]) h51 hS hN (j:=0) rfl rfl (fun u hu=>by rw [List.mem_singleton.1 hu]; rfl) (by simp [maxLen]; omega) (by omega)
   refine ⟨_,_,_,w54,hrun2,?_⟩
   have hfe:(ks++[id]).filter (metBy s r)=ks.filter (metBy s r)++[id]:=by rw [List.filter_append,List.filter_cons,if_pos hb,List.filter_nil]
   have hfel:((ks++[id]).filter (metBy s r)).length=(ks.filter (metBy s r)).length+1:=by rw [hfe]; simp
   refine hY x _ w54 he hnb ⟨ks++[id],some ⟨g,0,none⟩,cap,N',by rw [List.map_append,hks]; simp [hek],by rw [hfel],by rw [hfel,hfe,List.map_append]; exact hX,hXN,?_⟩
   have h55:St w0 w54 ((n52,Cs [U id] 24)::(it,.mapIter (some q.ib) L.iclk (seen.push x.born) L.iclk)::(L.bl q s++(N'++((n2,Cs (Scs r) 36)::H)))):=h54.perm (perm_by fun c=>by simp only [List.map_append,List.map_cons,List.map_nil,List.sum_append,List.sum_cons,List.sum_nil]; omega)
   exact h55.tail hn52
  ·have hfe:(ks++[id]).filter (metBy s r)=ks.filter (metBy s r):=by rw [List.filter_append,List.filter_cons,if_neg (by rw [hb]; decide),List.filter_nil,List.append_nil]
   exact hY x _ w47 he hnb ⟨ks++[id],ga,gc,N,by rw [List.map_append,hks]; simp [hek],by rw [hfe],by rw [hfe]; exact hS,hN,h48⟩
end Go.Fx.Tryz
namespace Go.Fx.Ch
def heldN (s:CState) (c:Int):Int:=(((lk s.hold c).getD []).length:Int)
def chainedN (s:CState):Int:=((s.hold.map (·.1)).map (heldN s)).sum
def bytesN (s:CState):Int:=((List.range s.rows.length).map (filledS s)).sum
end Go.Fx.Ch
namespace Go.Fx.Tryz
open Go Go.Fx Go.Fx.Ch
open Go.Proofs
set_option linter.all false
set_option maxRecDepth 20000
variable {w0 w:World} {H X G:HBL} {K:KT} {s:CState} {L:Lay} {q:LB}
theorem sum_perm {a b:List Int} (h:a.Perm b):a.sum=b.sum:=by
 induction h with
 | nil=>rfl
 | cons x _ ih=>simp only [List.sum_cons,ih]
 | swap x y l=>simp only [List.sum_cons]; omega
 | trans _ _ h1 h2=>exact h1.trans h2
theorem sum_bound {f:Int→Int} {B:Int} (h0:∀ x,0≤f x) (h1:∀ x,f x≤B):∀ l:List Int,0≤(l.map f).sum∧(l.map f).sum≤l.length * B
 | []=>by simp
 | x::l=>by
  obtain ⟨a,b⟩:=sum_bound h0 h1 l
  have:=h0 x
  have:=h1 x
  simp only [List.map_cons,List.sum_cons,List.length_cons]
  have e:((l.length+1:Nat):Int) * B=l.length * B+B:=by rw [Int.natCast_add,Int.add_mul]; simp
  rw [e]
  omega
theorem sum_boundN {f:Nat→Int} {B:Int} (h0:∀ x,0≤f x) (h1:∀ x,f x≤B):∀ l:List Nat,0≤(l.map f).sum∧(l.map f).sum≤l.length * B
 | []=>by simp
 | x::l=>by
  obtain ⟨a,b⟩:=sum_boundN h0 h1 l
  have:=h0 x
  have:=h1 x
  simp only [List.map_cons,List.sum_cons,List.length_cons]
  have e:((l.length+1:Nat):Int) * B=l.length * B+B:=by rw [Int.natCast_add,Int.add_mul]; simp
  rw [e]
  omega
theorem zcells47:zcells P 47=#[J 0,J 0,J 0,J 0,J 0]:=by kernel_rfl
theorem build47 (a b c:Int) (wq:World):(Instr.build 47 [(0,J a),(3,J b),(4,J c)].toArray).run P wq=.ok (.agg #[J a,J 0,J 0,J b,J c]) wq:=by kernel_rfl
theorem Lay.Ok.entryH (hL:L.Ok w0 q s) {e:MapEntry} (he:e∈L.hes.toList):∃ h∈L.hl,e.key=U h.key∧e.val=.map (some h.b)∧(lk s.hold h.key).getD []=h.l:=by
 obtain ⟨p,hp,hk,hv⟩:=hL.hm.pair' he
 obtain ⟨h,hh,rfl⟩:=List.mem_map.1 hp
 refine ⟨h,hh,hk,hv,?_⟩
 obtain ⟨a,b,e0⟩:=List.append_of_mem hh
 obtain ⟨ha,hb⟩:=hL.keys e0
 rw [hL.hs,e0]
 simp only [List.map_append,List.map_cons]
 rw [lk_mid (fun p hp=>by
  obtain ⟨x,hx,rfl⟩:=List.mem_map.1 hp
  exact ha x hx)]
 rfl
theorem stat_ok (h:St w0 w (L.bl q s++H)) (hL:L.Ok w0 q s) (hr:∀ r∈s.rows,r.length < 1000000) (hh1:s.hold.length < 1000000) (hh2:∀ c,heldN s c≤1000000)
  (hK:∀ w',St w0 w' (L.bl q s++H)→K (.agg #[J s.items.length,J (bytesN s),J (chainedN s),J s.ev,J s.dr]) w'):CallL P 23 [.pointer (some ⟨q.cb,0,none⟩)] w K:=by
 refine f23_ok _ _ _ ?_
 rw [f23_eq,zcells47]
 refine h.newC fun n1 w2 hn1 h2=>?_
 have h2:St w0 w2 ((n1,Cs [J 0,J 0,J 0,J 0,J 0] 47)::(L.bl q s++H)):=h2
 have h3:St w0 w2 (L.bl q s++((n1,Cs [J 0,J 0,J 0,J 0,J 0] 47)::H)):=h2.perm (perm_by fun c=>by simp only [List.map_append,List.map_cons,List.sum_append,List.sum_cons]; omega)
 refine none53 h3 ⟨_,rfl,?_⟩
 simp only [BIf_false]
 rw [f23_s0_eq]
 have h4:=h3.drew
 refine ⟨some q.ib,by rw [add_lit']; exact h4.cell (k:=1) rfl,s.items.length,fun wq hx=>hL.its.len (extGet hx (h4.get (k:=2) rfl)),s.ev,by rw [add_lit']; exact h4.cell (k:=1) rfl,s.dr,by rw [add_lit']; exact h4.cell (k:=1) rfl,_,build47 _ _ _,?_⟩
 rw [zcells47]
 refine h2.drew.newC fun n19 w20 hn19 h20=>h20.stA (k:=0) rfl rfl (by simp) (by simp [Value.oneCell']) fun w21 h21=>?_
 have h21:St w0 w21 ((n19,Cs [J s.items.length,J 0,J 0,J s.ev,J s.dr] 47)::(n1,Cs [J 0,J 0,J 0,J 0,J 0] 47)::(L.bl q s++H)):=h21
 rw [f23_s1_eq]
 refine ⟨some ⟨q.rb,0,none⟩,s.rows.length,s.rows.length,by rw [add_lit']; exact h21.cell (k:=3) rfl,?_⟩
 have hcode:=hL.codeLen h
 have hfill:∀ i,0≤filledS s i∧filledS s i≤1000000000000:=fun i=>by
  unfold filledS
  have hb:=filledL_bound hcode ((s.rows[i]?).getD [])
  have hl:((s.rows[i]?).getD []).length < 1000000:=by
   cases hi:s.rows[i]? with
   | none=>decide
   | some r=>exact hr r (List.mem_of_getElem? hi)
  unfold filledL at hb
  omega
 have hrl:=hL.rl
 have hps:∀ j,j≤s.rows.length→0≤((List.range j).map (filledS s)).sum∧((List.range j).map (filledS s)).sum≤1000000000000000000:=fun j hj=>by
  have:=sum_boundN (f:=filledS s) (B:=1000000000000) (fun x=>(hfill x).1) (fun x=>(hfill x).2) (List.range j)
  rw [List.length_range] at this
  omega
 refine ⟨fun m e' w'=>∃ j:Nat,j≤s.rows.length∧m=s.rows.length - j∧e'=Env.mk 56 [(29,J j),(3,.pointer (some (Addr.mk n19 0 none))),(0,.pointer (some ⟨q.cb,0,none⟩)),(2,.pointer (some (Addr.mk n1 0 none))),(28,J s.rows.length)] []∧
  St w0 w' ((n19,Cs [J s.items.length,J ((List.range j).map (filledS s)).sum,J 0,J s.ev,J s.dr] 47)::(n1,Cs [J 0,J 0,J 0,J 0,J 0] 47)::(L.bl q s++H)),⟨_,0,by omega,rfl,rfl,h21⟩,?_⟩
 rintro m e' w' ⟨j,hj,rfl,rfl,hs⟩
 show f23_lb2 ..
 rw [f23_lb2_eq,BIf_iff]
 refine ⟨fun hlt=>?_,fun hge=>?_⟩
 ·have hlt:j < s.rows.length:=by have:=of_decide_eq_true hlt; omega
  rw [f23_s3_eq]
  have h1:=hs.drew
  refine ⟨_,by rw [add_lit']; exact h1.cell (k:=0) rfl,?_⟩
  have h1':St w0 w'.drew (L.bl q s++((n19,Cs [J s.items.length,J ((List.range j).map (filledS s)).sum,J 0,J s.ev,J s.dr] 47)::(n1,Cs [J 0,J 0,J 0,J 0,J 0] 47)::H)):=h1.perm (perm_by fun c=>by simp only [List.map_append,List.map_cons,List.sum_append,List.sum_cons]; omega)
  refine filled_ok h1' hL hlt (by have:=hr _ (List.getElem_mem hlt); omega) fun w39 h39=>⟨_,rfl,?_⟩
  have h40:St w0 w39 ((n19,Cs [J s.items.length,J ((List.range j).map (filledS s)).sum,J 0,J s.ev,J s.dr] 47)::(n1,Cs [J 0,J 0,J 0,J 0,J 0] 47)::(L.bl q s++H)):=h39.perm (perm_by fun c=>by simp only [List.map_append,List.map_cons,List.sum_append,List.sum_cons]; omega)
  refine ⟨by rw [add_lit']; exact h40.cell (k:=0) rfl,?_⟩
  have hst:((List.range (j+1)).map (filledS s)).sum=((List.range j).map (filledS s)).sum+filledS s j:=by
   rw [List.range_succ,List.map_append,List.sum_append]
   show _+(_+0)=_
   rw [Int.add_zero]
  have b1:=hps j hj
  have b2:=hps (j+1) hlt
  rw [add_lit',wrap_i64 (by omega) (by omega),← hst]
  refine h40.st1 (k:=0) rfl (by simp) rfl fun w41 h41=>?_
  rw [f23_s4_eq]
  exact ⟨s.rows.length - (j+1),by omega,j+1,by omega,rfl,by rw [wrap_i64 (by omega) (by omega)]; rfl,h41⟩
 ·have:j=s.rows.length:=by have:=of_decide_eq_false hge; omega
  subst this
  rw [f23_s5_eq]
  have hb:((List.range s.rows.length).map (filledS s)).sum=bytesN s:=rfl
  rw [hb] at hs
  refine ⟨some q.hb,by rw [add_lit']; exact hs.cell (k:=3) rfl,_,_,run_range u107 (hs.get (k:=5) rfl),?_⟩
  have hit:=hs.le
  have h5:=hs.alloc (.mapIter (some q.hb) L.hclk #[] L.hclk)
  generalize w'.heap.size=it at hit h5
  refine LoopE_map' (es:=L.hes) (fun vis seen w1=>∃ ks:List Int,vis.map (·.key)=ks.map encN∧St w0 w1 ((it,.mapIter (some q.hb) L.hclk seen L.hclk)::(n19,Cs [J s.items.length,J (bytesN s),J (ks.map (heldN s)).sum,J s.ev,J s.dr] 47)::(n1,Cs [J 0,J 0,J 0,J 0,J 0] 47)::(L.bl q s++H)))
   ⟨[],rfl,h5⟩ ?_ ?_
  ·rintro vis seen w1 hv ⟨ks,hks,hs1⟩ Y
   show f23_lb6 ..
   rw [f23_lb6_eq]
   refine .inl ⟨w1,run_next_over (hs1.get (k:=0) rfl) (hs1.get (k:=6) rfl) hL.hm.st hv.over,?_⟩
   rw [f23_s7_eq]
   have hperm:ks.Perm (s.hold.map (·.1)):=by
    have:=vis_keys (fun a b h=>by injection h) hL.hm hv hks
    rw [List.map_map] at this
    rw [hL.hs,List.map_map]
    exact this
   have hsum:(ks.map (heldN s)).sum=chainedN s:=sum_perm (hperm.map _)
   rw [hsum] at hs1
   refine hs1.ldA (k:=1) rfl (by simp) ?_
   refine hs1.stA (k:=2) rfl rfl (by simp) (by simp [Value.oneCell']) fun w64 h64=>h64.ldA (k:=2) rfl (by simp [splice_length]) ?_
   exact hK w64 (((h64.tail hit).tail hn19).tail hn1)
  ·rintro vis rem seen w1 hrr hv ⟨ks,hks,hs1⟩ Y hY
   show f23_lb6 ..
   rw [f23_lb6_eq]
   obtain ⟨x,w2,he,hnb,hw2,hk2,hrun⟩:=run_next_some (P:=P) (hs1.get (k:=0) rfl) (hs1.get (k:=6) rfl) hL.hm.st (hv.more hL.hm.st hrr)
   have h3:=(hs1.same hw2 hk2).put (k:=0) rfl (.mapIter (some q.hb) L.hclk (seen.push x.born) L.hclk)
   obtain ⟨hh,hmem,hek,hev,hll⟩:=hL.entryH he
   refine .inr ⟨_,_,_,hrun,?_⟩
   rw [f23_s8_eq]
   have hbm:hh.blk∈((it,Obj.mapIter (some q.hb) L.hclk (seen.push x.born) L.hclk)::(n19,Cs [J s.items.length,J (bytesN s),J (ks.map (heldN s)).sum,J s.ev,J s.dr] 47)::(n1,Cs [J 0,J 0,J 0,J 0,J 0] 47)::(L.bl q s++H)):=
    .tail _ (.tail _ (.tail _ (List.mem_append_left _ (.tail _ (.tail _ (.tail _ (.tail _ (.tail _ (List.mem_append_right _ (List.mem_append_left _ (List.mem_map.2 ⟨hh,hmem,rfl⟩)))))))))))
   have hlen:((trues hh.l).length:Int)=heldN s hh.key:=by unfold heldN; rw [hll]; simp [trues]
   refine ⟨x.key,x.val,_,run_entry (h3.get (k:=0) rfl) (h3.get (k:=6) rfl) (by simp) (find_born hL.hm.st he),some hh.b,hev,_,by rw [add_lit']; exact h3.cell (k:=1) rfl,heldN s hh.key,fun wq hx=>by rw [← hlen]; exact (hL.inn hh hmem).len (extGet hx (h3.has _ _ hbm)) u124 _,?_⟩
   have hkl:ks.length+1≤s.hold.length:=by
    have h1:=vis_len hv
    have h2:=congrArg List.length hks
    have h5:0 < rem.length:=List.length_pos_iff.2 hrr
    rw [List.length_map,List.length_map] at h2
    have h6:=hL.hm.size
    rw [List.length_map] at h6
    rw [hL.hs,List.length_map]
    omega
   have h0:∀ c,0≤heldN s c:=fun c=>by unfold heldN; omega
   have b1:=sum_bound h0 hh2 ks
   have b2:=hh2 hh.key
   have b3:=h0 hh.key
   have hst:((ks++[hh.key]).map (heldN s)).sum=(ks.map (heldN s)).sum+heldN s hh.key:=by
    rw [List.map_append,List.sum_append]
    show _+(_+0)=_
    rw [Int.add_zero]
   rw [add_lit',wrap_i64 (by omega) (by omega),← hst]
   refine h3.st1 (k:=1) rfl (by simp) rfl fun w75 h75=>?_
   exact hY x w75 he hnb ⟨ks++[hh.key],by rw [List.map_append,hks]; simp [hek],h75⟩
end Go.Fx.Tryz
namespace Go.Fx.Tryz
set_option maxRecDepth 100000
open Go Go.Fx Go.Proofs
noncomputable def c117:Code:=bodyOf Tryz.f117
noncomputable def rs117:List ResultVar:=Tryz.f117.results.toList
abbrev f117_kb (K:KT):Exit→YT:=bodyK P rs117 K
def f117 (a:Int) (w:World) (K:KT):Prop:=CS P c117 none [2] [2] (f117_kb K) (env0 9 [(VI a)]) w
def f117_s0 (a:Bool) (w:World) (K:KT):Prop:=SG P (cA c117 7) none [2] [2] (f117_kb K) (Env.mk 9 [(2,(VB a))] []) w
theorem f117_s0_eq (a:Bool) (w:World) (K:KT):f117_s0 a w K=(K (Value.bool a) w):=by kernel_rfl
theorem f117_eq (a:Int) (w:World) (K:KT):f117 a w K=(BIf ((a:Int) == 40) (f117_s0 true w K) (f117_s0 ((a:Int) == 41) w K)):=by kernel_rfl
theorem f117_ok (a:Int) (w:World) (K:KT) (h:f117 a w K):CallL P 117 [(Value.int .i64 a)] w K:=okCS c117 Tryz.func117 (by kernel_rfl) (by kernel_rfl) h
noncomputable def c118:Code:=bodyOf Tryz.f118
noncomputable def rs118:List ResultVar:=Tryz.f118.results.toList
abbrev f118_kb (K:KT):Exit→YT:=bodyK P rs118 K
def f118 (a:Array Value) (w:World) (K:KT):Prop:=CS P c118 none [2] [2] (f118_kb K) (env0 5 [(Value.agg a)]) w
theorem f118_eq (a:Array Value) (w:World) (K:KT):f118 a w K=(NewC a 119 w (fun d b=>LdA 15 (Addr.mk d 0 none) b (fun e=>CallL P 157 [(Value.agg e),(Value.int .i64 12),(Value.int .i64 6)] b (fun f g=>∃ c:Bool,f=(.bool c)∧K (Value.bool c) g)))):=by kernel_rfl
theorem f118_ok (a:Array Value) (w:World) (K:KT) (h:f118 a w K):CallL P 118 [(Value.agg a)] w K:=okCS c118 Tryz.func118 (by kernel_rfl) (by kernel_rfl) h
noncomputable def c119:Code:=bodyOf Tryz.f119
noncomputable def rs119:List ResultVar:=Tryz.f119.results.toList
abbrev f119_kb (K:KT):Exit→YT:=bodyK P rs119 K
def f119 (a:Int) (w:World) (K:KT):Prop:=CS P c119 none [2,3] [2,3] (f119_kb K) (env0 121 [(VI a)]) w
def f119_s0 (a:Int) (w:World) (K:KT):Prop:=CS P (cA c119 1) none [2,3] [2,3] (f119_kb K) (Env.mk 121 [(0,(VI a))] []) w
abbrev f119_k0 (K:KT):Exit→YT:=kseq P (cA c119 2) (cA c119 3) none [2,3] [2,3] (f119_kb K)
def f119_s1 (a:Addr) (b:Int) (w:World) (K:KT):Prop:=CS P (cA c119 3) none [2,3] [2,3] (f119_kb K) (Env.mk 121 [(3,(VB false)),(2,(VP (some a))),(0,(VI b))] []) w
abbrev f119_k1 (K:KT):Exit→YT:=kseq P (cA c119 6) (cA c119 7) none [2,3] [2,3] (f119_kb K)
abbrev f119_k2 (K:KT):Exit→YT:=kseq P (cA c119 12) (cA c119 13) none [2] [2,3] (f119_k1 K)
def f119_s2 (a:Int) (b:Addr) (c:Int) (w:World) (K:KT):Prop:=CS P (cA c119 13) none [2] [2,3] (f119_k1 K) (Env.mk 121 [(4,(VI a)),(3,(VB false)),(2,(VP (some b))),(0,(VI c))] []) w
abbrev f119_k3 (K:KT):Exit→YT:=kblock 0 (f119_k1 K)
abbrev f119_k4 (K:KT):Exit→YT:=kseq P (cA c119 52) (cA c119 53) none [2] [2,3] (f119_k3 K)
def f119_s3 (a:Bool) (b:Addr) (c:Int) (w:World) (K:KT):Prop:=SG P (cA c119 226492415) none [2] [2,3] (f119_k3 K) (Env.mk 121 [(38,(VB a)),(2,(VP (some b))),(4,(VI c))] []) w
def f119_s4 (a:Bool) (b:Addr) (c:Int) (w:World) (K:KT):Prop:=SG P (cA c119 905969663) none [2] [2,3] (f119_k3 K) (Env.mk 121 [(42,(VB a)),(2,(VP (some b))),(4,(VI c))] []) w
def f119_s5 (a:Bool) (b:Addr) (c:Int) (w:World) (K:KT):Prop:=SG P (cA c119 14843406974975) none [2] [2,3] (f119_k3 K) (Env.mk 121 [(64,(VB a)),(2,(VP (some b))),(4,(VI c))] []) w
def f119_s6 (a:Bool) (b:Addr) (c:Int) (w:World) (K:KT):Prop:=SG P (cA c119 59373627899903) none [2] [2,3] (f119_k3 K) (Env.mk 121 [(68,(VB a)),(2,(VP (some b))),(4,(VI c))] []) w
def f119_s7 (a:Bool) (b:Addr) (c:Int) (w:World) (K:KT):Prop:=SG P (cA c119 237494511599615) none [2] [2,3] (f119_k3 K) (Env.mk 121 [(72,(VB a)),(2,(VP (some b))),(4,(VI c))] []) w
def f119_s8 (a:Bool) (b:Addr) (c:Int) (w:World) (K:KT):Prop:=SG P (cA c119 949978046398463) none [2] [2,3] (f119_k3 K) (Env.mk 121 [(77,(VB a)),(2,(VP (some b))),(4,(VI c))] []) w
def f119_s9 (a:Bool) (b:Addr) (c:Int) (w:World) (K:KT):Prop:=SG P (cA c119 3799912185593855) none [2] [2,3] (f119_k3 K) (Env.mk 121 [(81,(VB a)),(2,(VP (some b))),(4,(VI c))] []) w
def f119_s10 (a:Bool) (b:Addr) (c:Int) (w:World) (K:KT):Prop:=SG P (cA c119 15199648742375423) none [2] [2,3] (f119_k3 K) (Env.mk 121 [(85,(VB a)),(2,(VP (some b))),(4,(VI c))] []) w
def f119_s11 (a:Bool) (b:Addr) (c:Int) (w:World) (K:KT):Prop:=SG P (cA c119 972777519512027135) none [2] [2,3] (f119_k3 K) (Env.mk 121 [(95,(VB a)),(2,(VP (some b))),(4,(VI c))] []) w
def f119_s12 (a:Addr) (w:World) (K:KT):Prop:=SG P (cA c119 7) none [2,3] [2,3] (f119_kb K) (Env.mk 121 [(2,(VP (some a)))] []) w
theorem f119_s11_eq (d:Bool) (a:Addr) (c:Int) (w:World) (K:KT):f119_s11 d a c w K=(BIf d (∃ e:Array Value,(∀ wq,(Instr.build 172 [(4,(Value.int .i64 1)),(7,(Value.bool true))].toArray).run P wq=.ok (.agg e) wq)∧StA 11 a e w (fun f=>LdA 11 a f (fun u=>K (Value.tuple [(Value.agg u),(Value.bool true)].toArray) f))) (BIf ((c:Int) == 36) (∃ g:Array Value,(∀ wq,(Instr.build 172 [(0,(Value.bool true)),(3,(Value.int .i64 1))].toArray).run P wq=.ok (.agg g) wq)∧StA 11 a g w (fun h=>LdA 11 a h (fun v=>K (Value.tuple [(Value.agg v),(Value.bool true)].toArray) h))) (BIf ((c:Int) == 37) (∃ i:Array Value,(∀ wq,(Instr.build 172 [(4,(Value.int .i64 1)),(7,(Value.bool true)),(8,(Value.bool true))].toArray).run P wq=.ok (.agg i) wq)∧StA 11 a i w (fun j=>LdA 11 a j (fun x=>K (Value.tuple [(Value.agg x),(Value.bool true)].toArray) j))) (BIf ((c:Int) == 38) (∃ k:Array Value,(∀ wq,(Instr.build 172 [(7,(Value.bool true)),(8,(Value.bool true))].toArray).run P wq=.ok (.agg k) wq)∧StA 11 a k w (fun l=>LdA 11 a l (fun y=>K (Value.tuple [(Value.agg y),(Value.bool true)].toArray) l))) (BIf ((c:Int) == 39) (∃ m:Array Value,(∀ wq,(Instr.build 172 [(4,(Value.int .i64 1)),(7,(Value.bool true)),(8,(Value.bool true)),(9,(Value.bool true))].toArray).run P wq=.ok (.agg m) wq)∧StA 11 a m w (fun n=>LdA 11 a n (fun z=>K (Value.tuple [(Value.agg z),(Value.bool true)].toArray) n))) (BIf ((c:Int) == 40) (∃ o:Array Value,(∀ wq,(Instr.build 172 [(7,(Value.bool true)),(8,(Value.bool true)),(9,(Value.bool true))].toArray).run P wq=.ok (.agg o) wq)∧StA 11 a o w (fun p=>LdA 11 a p (fun a0=>K (Value.tuple [(Value.agg a0),(Value.bool true)].toArray) p))) (BIf ((c:Int) == 41) (∃ q:Array Value,(∀ wq,(Instr.build 172 [(4,(Value.int .i64 1)),(7,(Value.bool true))].toArray).run P wq=.ok (.agg q) wq)∧StA 11 a q w (fun r=>LdA 11 a r (fun b0=>K (Value.tuple [(Value.agg b0),(Value.bool true)].toArray) r))) (BIf ((c:Int) == 43) (∃ s:Array Value,(∀ wq,(Instr.build 172 [(3,(Value.int .i64 1)),(7,(Value.bool true))].toArray).run P wq=.ok (.agg s) wq)∧StA 11 a s w (fun t=>LdA 11 a t (fun c0=>K (Value.tuple [(Value.agg c0),(Value.bool true)].toArray) t))) (f119_s12 a w K))))))))):=Eq.trans SGe (by kernel_rfl)
theorem f119_s10_eq (d:Bool) (a:Addr) (c:Int) (w:World) (K:KT):f119_s10 d a c w K=(BIf d (∃ e:Array Value,(∀ wq,(Instr.build 172 [(4,(Value.int .i64 1)),(5,(Value.int .i64 2)),(8,(Value.bool true))].toArray).run P wq=.ok (.agg e) wq)∧StA 11 a e w (fun f=>LdA 11 a f (fun k=>K (Value.tuple [(Value.agg k),(Value.bool true)].toArray) f))) (BIf ((c:Int) == 33) (∃ g:Array Value,(∀ wq,(Instr.build 172 [(4,(Value.int .i64 1)),(5,(Value.int .i64 1)),(7,(Value.bool true)),(8,(Value.bool true))].toArray).run P wq=.ok (.agg g) wq)∧StA 11 a g w (fun h=>LdA 11 a h (fun l=>K (Value.tuple [(Value.agg l),(Value.bool true)].toArray) h))) (BIf ((c:Int) == 34) (∃ i:Array Value,(∀ wq,(Instr.build 172 [(0,(Value.bool true)),(3,(Value.int .i64 1)),(4,(Value.int .i64 1)),(5,(Value.int .i64 1)),(6,(Value.int .i64 1)),(8,(Value.bool true))].toArray).run P wq=.ok (.agg i) wq)∧StA 11 a i w (fun j=>LdA 11 a j (fun m=>K (Value.tuple [(Value.agg m),(Value.bool true)].toArray) j))) (BIf ((c:Int) == 35) (f119_s11 true a c w K) (f119_s11 ((c:Int) == 42) a c w K))))):=Eq.trans SGe (by kernel_rfl)
theorem f119_s9_eq (d:Bool) (a:Addr) (c:Int) (w:World) (K:KT):f119_s9 d a c w K=(BIf d (∃ e:Array Value,(∀ wq,(Instr.build 172 [(3,(Value.int .i64 2)),(4,(Value.int .i64 1)),(8,(Value.bool true))].toArray).run P wq=.ok (.agg e) wq)∧StA 11 a e w (fun f=>LdA 11 a f (fun g=>K (Value.tuple [(Value.agg g),(Value.bool true)].toArray) f))) (BIf ((c:Int) == 27) (f119_s10 true a c w K) (f119_s10 ((c:Int) == 31) a c w K))):=Eq.trans SGe (by kernel_rfl)
theorem f119_s8_eq (d:Bool) (a:Addr) (c:Int) (w:World) (K:KT):f119_s8 d a c w K=(BIf d (∃ e:Array Value,(∀ wq,(Instr.build 172 [(2,(Value.bool true)),(4,(Value.int .i64 1)),(5,(Value.int .i64 1)),(8,(Value.bool true))].toArray).run P wq=.ok (.agg e) wq)∧StA 11 a e w (fun f=>LdA 11 a f (fun g=>K (Value.tuple [(Value.agg g),(Value.bool true)].toArray) f))) (BIf ((c:Int) == 26) (f119_s9 true a c w K) (f119_s9 ((c:Int) == 30) a c w K))):=Eq.trans SGe (by kernel_rfl)
theorem f119_s7_eq (d:Bool) (a:Addr) (c:Int) (w:World) (K:KT):f119_s7 d a c w K=(BIf d (∃ e:Array Value,(∀ wq,(Instr.build 172 [(2,(Value.bool true)),(3,(Value.int .i64 1)),(4,(Value.int .i64 1)),(8,(Value.bool true))].toArray).run P wq=.ok (.agg e) wq)∧StA 11 a e w (fun f=>LdA 11 a f (fun g=>K (Value.tuple [(Value.agg g),(Value.bool true)].toArray) f))) (BIf ((c:Int) == 25) (f119_s8 true a c w K) (f119_s8 ((c:Int) == 29) a c w K))):=Eq.trans SGe (by kernel_rfl)
theorem f119_s6_eq (d:Bool) (c:Addr) (a:Int) (w:World) (K:KT):f119_s6 d c a w K=(BIf d (∃ e:Array Value,(∀ wq,(Instr.build 172 [(4,(Value.int .i64 2)),(7,(Value.bool true))].toArray).run P wq=.ok (.agg e) wq)∧StA 11 c e w (fun f=>LdA 11 c f (fun g=>K (Value.tuple [(Value.agg g),(Value.bool true)].toArray) f))) (BIf ((a:Int) == 24) (f119_s7 true c a w K) (BIf ((a:Int) == 28) (f119_s7 true c a w K) (f119_s7 ((a:Int) == 32) c a w K)))):=Eq.trans SGe (by kernel_rfl)
theorem f119_s5_eq (d:Bool) (a:Addr) (c:Int) (w:World) (K:KT):f119_s5 d a c w K=(BIf d (∃ e:Array Value,(∀ wq,(Instr.build 172 [(3,(Value.int .i64 2)),(7,(Value.bool true))].toArray).run P wq=.ok (.agg e) wq)∧StA 11 a e w (fun f=>LdA 11 a f (fun g=>K (Value.tuple [(Value.agg g),(Value.bool true)].toArray) f))) (BIf ((c:Int) == 23) (f119_s6 true a c w K) (f119_s6 ((c:Int) == 44) a c w K))):=Eq.trans SGe (by kernel_rfl)
theorem f119_s4_eq (d:Bool) (a:Addr) (c:Int) (w:World) (K:KT):f119_s4 d a c w K=(BIf d (∃ e:Array Value,(∀ wq,(Instr.build 172 [(3,(Value.int .i64 2)),(4,(Value.int .i64 1))].toArray).run P wq=.ok (.agg e) wq)∧StA 11 a e w (fun f=>LdA 11 a f (fun s=>K (Value.tuple [(Value.agg s),(Value.bool true)].toArray) f))) (BIf ((c:Int) == 15) (∃ g:Array Value,(∀ wq,(Instr.build 172 [(3,(Value.int .i64 1)),(4,(Value.int .i64 2)),(7,(Value.bool true))].toArray).run P wq=.ok (.agg g) wq)∧StA 11 a g w (fun h=>LdA 11 a h (fun t=>K (Value.tuple [(Value.agg t),(Value.bool true)].toArray) h))) (BIf ((c:Int) == 16) (∃ i:Array Value,(∀ wq,(Instr.build 172 [(3,(Value.int .i64 2)),(4,(Value.int .i64 2)),(5,(Value.int .i64 1)),(7,(Value.bool true))].toArray).run P wq=.ok (.agg i) wq)∧StA 11 a i w (fun j=>LdA 11 a j (fun u=>K (Value.tuple [(Value.agg u),(Value.bool true)].toArray) j))) (BIf ((c:Int) == 18) (∃ k:Array Value,(∀ wq,(Instr.build 172 [(3,(Value.int .i64 2)),(4,(Value.int .i64 1)),(5,(Value.int .i64 2)),(6,(Value.int .i64 2))].toArray).run P wq=.ok (.agg k) wq)∧StA 11 a k w (fun l=>LdA 11 a l (fun v=>K (Value.tuple [(Value.agg v),(Value.bool true)].toArray) l))) (BIf ((c:Int) == 19) (∃ m:Array Value,(∀ wq,(Instr.build 172 [(2,(Value.bool true)),(3,(Value.int .i64 1)),(7,(Value.bool true))].toArray).run P wq=.ok (.agg m) wq)∧StA 11 a m w (fun n=>LdA 11 a n (fun x=>K (Value.tuple [(Value.agg x),(Value.bool true)].toArray) n))) (BIf ((c:Int) == 20) (∃ o:Array Value,(∀ wq,(Instr.build 172 [(2,(Value.bool true)),(4,(Value.int .i64 1)),(7,(Value.bool true))].toArray).run P wq=.ok (.agg o) wq)∧StA 11 a o w (fun p=>LdA 11 a p (fun y=>K (Value.tuple [(Value.agg y),(Value.bool true)].toArray) p))) (BIf ((c:Int) == 21) (∃ q:Array Value,(∀ wq,(Instr.build 172 [(2,(Value.bool true)),(7,(Value.bool true)),(8,(Value.bool true))].toArray).run P wq=.ok (.agg q) wq)∧StA 11 a q w (fun r=>LdA 11 a r (fun z=>K (Value.tuple [(Value.agg z),(Value.bool true)].toArray) r))) (BIf ((c:Int) == 22) (f119_s5 true a c w K) (f119_s5 ((c:Int) == 45) a c w K))))))))):=Eq.trans SGe (by kernel_rfl)
theorem f119_s3_eq (d:Bool) (a:Addr) (c:Int) (w:World) (K:KT):f119_s3 d a c w K=(BIf d (∃ e:Array Value,(∀ wq,(Instr.build 172 [(3,(Value.int .i64 1)),(4,(Value.int .i64 2))].toArray).run P wq=.ok (.agg e) wq)∧StA 11 a e w (fun f=>LdA 11 a f (fun g=>K (Value.tuple [(Value.agg g),(Value.bool true)].toArray) f))) (BIf ((c:Int) == 13) (f119_s4 true a c w K) (f119_s4 ((c:Int) == 14) a c w K))):=Eq.trans SGe (by kernel_rfl)
theorem f119_s2_eq (d:Int) (c:Addr) (e:Int) (w:World) (K:KT):f119_s2 d c e w K=(BIf ((d:Int) == 1) (∃ f:Array Value,(∀ wq,(Instr.build 172 [(3,(Value.int .i64 1)),(8,(Value.bool true))].toArray).run P wq=.ok (.agg f) wq)∧StA 11 c f w (fun g=>LdA 11 c g (fun c0=>K (Value.tuple [(Value.agg c0),(Value.bool true)].toArray) g))) (BIf ((d:Int) == 2) (∃ h:Array Value,(∀ wq,(Instr.build 172 [(3,(Value.int .i64 1)),(4,(Value.int .i64 1))].toArray).run P wq=.ok (.agg h) wq)∧StA 11 c h w (fun i=>LdA 11 c i (fun d0=>K (Value.tuple [(Value.agg d0),(Value.bool true)].toArray) i))) (BIf ((d:Int) == 3) (∃ j:Array Value,(∀ wq,(Instr.build 172 [(0,(Value.bool true)),(3,(Value.int .i64 1)),(4,(Value.int .i64 1)),(5,(Value.int .i64 1))].toArray).run P wq=.ok (.agg j) wq)∧StA 11 c j w (fun k=>LdA 11 c k (fun e0=>K (Value.tuple [(Value.agg e0),(Value.bool true)].toArray) k))) (BIf ((d:Int) == 4) (∃ l:Array Value,(∀ wq,(Instr.build 172 [(0,(Value.bool true)),(3,(Value.int .i64 1)),(4,(Value.int .i64 1)),(8,(Value.bool true))].toArray).run P wq=.ok (.agg l) wq)∧StA 11 c l w (fun m=>LdA 11 c m (fun f0=>K (Value.tuple [(Value.agg f0),(Value.bool true)].toArray) m))) (BIf ((d:Int) == 5) (∃ n:Array Value,(∀ wq,(Instr.build 172 [(0,(Value.bool true)),(1,(Value.bool true)),(2,(Value.bool true)),(3,(Value.int .i64 1)),(4,(Value.int .i64 1))].toArray).run P wq=.ok (.agg n) wq)∧StA 11 c n w (fun o=>LdA 11 c o (fun g0=>K (Value.tuple [(Value.agg g0),(Value.bool true)].toArray) o))) (BIf ((d:Int) == 6) (∃ p:Array Value,(∀ wq,(Instr.build 172 [(3,(Value.int .i64 1)),(4,(Value.int .i64 1)),(5,(Value.int .i64 1)),(6,(Value.int .i64 1))].toArray).run P wq=.ok (.agg p) wq)∧StA 11 c p w (fun q=>LdA 11 c q (fun h0=>K (Value.tuple [(Value.agg h0),(Value.bool true)].toArray) q))) (BIf ((d:Int) == 7) (∃ r:Array Value,(∀ wq,(Instr.build 172 [(3,(Value.int .i64 2)),(10,(Value.bool true))].toArray).run P wq=.ok (.agg r) wq)∧StA 11 c r w (fun s=>LdA 11 c s (fun i0=>K (Value.tuple [(Value.agg i0),(Value.bool true)].toArray) s))) (BIf ((d:Int) == 8) (∃ t:Array Value,(∀ wq,(Instr.build 172 [(3,(Value.int .i64 2)),(4,(Value.int .i64 2))].toArray).run P wq=.ok (.agg t) wq)∧StA 11 c t w (fun u=>LdA 11 c u (fun j0=>K (Value.tuple [(Value.agg j0),(Value.bool true)].toArray) u))) (BIf ((d:Int) == 9) (∃ v:Array Value,(∀ wq,(Instr.build 172 [(0,(Value.bool true)),(3,(Value.int .i64 2)),(4,(Value.int .i64 2)),(5,(Value.int .i64 2))].toArray).run P wq=.ok (.agg v) wq)∧StA 11 c v w (fun x=>LdA 11 c x (fun l0=>K (Value.tuple [(Value.agg l0),(Value.bool true)].toArray) x))) (BIf ((d:Int) == 10) (∃ y:Array Value,(∀ wq,(Instr.build 172 [(0,(Value.bool true)),(3,(Value.int .i64 2)),(4,(Value.int .i64 2))].toArray).run P wq=.ok (.agg y) wq)∧StA 11 c y w (fun z=>LdA 11 c z (fun m0=>K (Value.tuple [(Value.agg m0),(Value.bool true)].toArray) z))) (BIf ((d:Int) == 11) (∃ a0:Array Value,(∀ wq,(Instr.build 172 [(0,(Value.bool true)),(3,(Value.int .i64 1)),(4,(Value.int .i64 2)),(5,(Value.int .i64 2))].toArray).run P wq=.ok (.agg a0) wq)∧StA 11 c a0 w (fun b0=>LdA 11 c b0 (fun n0=>K (Value.tuple [(Value.agg n0),(Value.bool true)].toArray) b0))) (BIf ((d:Int) == 12) (f119_s3 true c d w K) (f119_s3 ((d:Int) == 17) c d w K))))))))))))):=Eq.trans (b:=CS P (cA c119 13) none [2] [2,3] (f119_k1 K) (Env.mk 121 [(4,(VI d)),(3,(VB false)),(2,(VP (some c))),(0,(VI e))] []) w) (by kernel_rfl) (Eq.trans (CSb 0 [2,3] (f119_k3 K) (by kernel_rfl)) (Eq.trans (CSs [5,2,4] (f119_k4 K) (by kernel_rfl)) (by kernel_rfl)))
theorem f119_s1_eq (d:Addr) (c:Int) (w:World) (K:KT):f119_s1 d c w K=(f119_s2 c d c w K):=Eq.trans (b:=CS P (cA c119 3) none [2,3] [2,3] (f119_kb K) (Env.mk 121 [(3,(VB false)),(2,(VP (some d))),(0,(VI c))] []) w) (by kernel_rfl) (Eq.trans (CSs [2] (f119_k1 K) (by kernel_rfl)) (Eq.trans (CSs [2,4] (f119_k2 K) (by kernel_rfl)) (by kernel_rfl)))
theorem f119_s0_eq (c:Int) (w:World) (K:KT):f119_s0 c w K=(NewC (zcells P 172) 172 w (fun d e=>f119_s1 (Addr.mk d 0 none) c e K)):=Eq.trans (b:=CS P (cA c119 1) none [2,3] [2,3] (f119_kb K) (Env.mk 121 [(0,(VI c))] []) w) (by kernel_rfl) (Eq.trans (CSs [2,0] (f119_k0 K) (by kernel_rfl)) (by kernel_rfl))
theorem f119_eq (a:Int) (w:World) (K:KT):f119 a w K=(f119_s0 a w K):=by kernel_rfl
theorem f119_ok (a:Int) (w:World) (K:KT) (h:f119 a w K):CallL P 119 [(Value.int .i64 a)] w K:=okCS c119 Tryz.func119 (by kernel_rfl) (by kernel_rfl) h
noncomputable def c120:Code:=bodyOf Tryz.f120
noncomputable def rs120:List ResultVar:=Tryz.f120.results.toList
abbrev f120_kb (K:KT):Exit→YT:=bodyK P rs120 K
def f120 (a b:Int) (w:World) (K:KT):Prop:=CS P c120 none [4] [4] (f120_kb K) (env0 22 [(Value.int .u32 a),(VI b)]) w
abbrev f120_k2 (K:KT):Exit→YT:=kseq P (cA c120 14) (cA c120 15) none [4] [4] (f120_kb K)
abbrev f120_k4 (K:KT):Exit→YT:=kblock 0 (f120_k2 K)
def f120_lp0 (K:KT) (Y0:YT) (e:Env) (w:World):Prop:=Join (fun e w=>CS P (cA c120 116) none [6,0,5,4,1] [4,5] (kloop [6,0,5,4,1] Y0 (f120_k4 K)) e w) e w
abbrev f120_kl0 (K:KT) (Y0:YT):Exit→YT:=kloop [6,0,5,4,1] Y0 (f120_k4 K)
def f120_lb0 (a b:Int) (c:OA) (d f:Nat) (g:OA) (h i:Nat) (j:Int) (w:World) (K:KT) (Y0:YT):Prop:=SG P (cA c120 116) none [6,0,5,4,1] [4,5] (f120_kl0 K Y0) (Env.mk 22 [(6,(VI a)),(0,(Value.int .u32 b)),(5,(VS c d f)),(4,(VS g h i)),(1,(VI j))] []) w
def f120_s1 (a:Int) (b:OA) (c d:Nat) (f g:Int) (h:OA) (i j:Nat) (w:World) (K:KT) (Y0:YT):Prop:=SG P (cA c120 233) none [6,0,5,4,1] [4,5] (f120_kl0 K Y0) (Env.mk 22 [(0,(Value.int .u32 a)),(4,(VS b c d)),(1,(VI f)),(6,(VI g)),(5,(VS h i j))] []) w
def f120_s2 (a:Int) (b:OA) (c d:Nat) (f:OA) (g h:Nat) (i j:Int) (w:World) (K:KT) (Y0:YT):Prop:=SG P (cA c120 467) none [6,0,5,4,1] [4,5] (f120_kl0 K Y0) (Env.mk 22 [(0,(Value.int .u32 a)),(5,(VS b c d)),(4,(VS f g h)),(1,(VI i)),(6,(VI j))] []) w
theorem f120_s2_eq (a:Int) (b:OA) (c d:Nat) (e:OA) (f g:Nat) (h i:Int) (w:World) (K:KT) (Y0:YT):f120_s2 a b c d e f g h i w K Y0=(Y0 (Env.mk 22 [(6,(Value.int .i64 (IntKind.wrap .i64 ((i:Int)+1)))),(0,(Value.int .u32 a)),(5,(Value.slice b c d)),(4,(Value.slice e f g)),(1,(Value.int .i64 h))] []) w):=by kernel_rfl
theorem f120_s1_eq (b:Int) (c:OA) (d e:Nat) (f a:Int) (g:OA) (h i:Nat) (w:World) (K:KT) (Y0:YT):f120_s1 b c d e f a g h i w K Y0=(0≤((IntKind.wrap .u64 (IntKind.wrap .i64 ((8:Int) * a))):Int)∧sizesAre 1 [(Value.int .u8 (IntKind.wrap .u8 ((b:Int).fdiv (2 ^ (min (Int.toNat (IntKind.wrap .u64 (IntKind.wrap .i64 ((8:Int) * a)))) (IntKind.bits .u32))))))]∧NewC (([(Value.int .u8 (IntKind.wrap .u8 ((b:Int).fdiv (2 ^ (min (Int.toNat (IntKind.wrap .u64 (IntKind.wrap .i64 ((8:Int) * a)))) (IntKind.bits .u32))))))].map fun (v:Value)=>v.cells.toList).flatten.toArray) 5 w (fun n o=>∃ (j:OA) (k l:Nat),∃ m:World,(Builtin.append_ #[38,38] 38 [(Value.slice g h i),(Value.slice (some (Addr.mk n 0 none)) 1 1)].toArray).run P o=.ok (.slice j k l) m∧f120_s2 b j k l c d e f a m K Y0)):=by kernel_rfl
def f120_s3 (a:OA) (b c:Nat) (w:World) (K:KT):Prop:=SG P (cA c120 15) none [4] [4] (f120_kb K) (Env.mk 22 [(5,(VS a b c))] []) w
theorem f120_s3_eq (a:OA) (b c:Nat) (w:World) (K:KT):f120_s3 a b c w K=(K (Value.slice a b c) w):=by kernel_rfl
theorem f120_lb0_eq (a f:Int) (b:OA) (c d:Nat) (g:OA) (h i:Nat) (e:Int) (w:World) (K:KT) (Y0:YT):f120_lb0 a f b c d g h i e w K Y0=(BIf (decide ((a:Int) < e)) (f120_s1 f g h i e a b c d w K Y0) (f120_s3 b c d w K)):=by kernel_rfl
theorem f120_eq (a b:Int) (w:World) (K:KT):f120 a b w K=(LoopE (f120_lp0 K) (Env.mk 22 [(6,(Value.int .i64 0)),(0,(Value.int .u32 a)),(5,(Value.slice none 0 0)),(4,(Value.slice none 0 0)),(1,(Value.int .i64 b))] []) w):=by kernel_rfl
theorem f120_ok (a b:Int) (w:World) (K:KT) (h:f120 a b w K):CallL P 120 [(Value.int .u32 a),(Value.int .i64 b)] w K:=okCS c120 Tryz.func120 (by kernel_rfl) (by kernel_rfl) h
noncomputable def c180:Code:=bodyOf Tryz.f180
noncomputable def rs180:List ResultVar:=Tryz.f180.results.toList
abbrev f180_kb (K:KT):Exit→YT:=bodyK P rs180 K
def f180 (a:Array Value) (w:World) (K:KT):Prop:=CS P c180 none [2,3] [2,3] (f180_kb K) (env0 23 [(Value.agg a)]) w
abbrev f180_k2 (K:KT):Exit→YT:=kseq P (cA c180 14) (cA c180 15) none [2,3] [2,3] (f180_kb K)
def f180_s0 (a:Bool) (b:Addr) (c:Bool) (d:Addr) (w:World) (K:KT):Prop:=SG P (cA c180 29) none [2,5,4] [2,3] (f180_k2 K) (Env.mk 23 [(19,(VB a)),(2,(VP (some b))),(5,(VB c)),(4,(VP (some d)))] []) w
def f180_s1 (a:Addr) (b:Bool) (c:Addr) (w:World) (K:KT):Prop:=SG P (cA c180 15) none [2,3] [2,3] (f180_kb K) (Env.mk 23 [(2,(VP (some a))),(5,(VB b)),(4,(VP (some c)))] []) w
theorem f180_s1_eq (a:Addr) (b:Bool) (c:Addr) (w:World) (K:KT):f180_s1 a b c w K=(LdA 11 c w (fun e=>StA 11 a e w (fun d=>LdA 11 a d (fun f=>K (Value.tuple [(Value.agg f),(Value.bool b)].toArray) d)))):=by kernel_rfl
theorem f180_s0_eq (d:Bool) (b:Addr) (c:Bool) (a:Addr) (w:World) (K:KT):f180_s0 d b c a w K=(BIf d (St1 (a.add 6) (Value.int .i64 0) w (fun e=>f180_s1 b c a e K)) (f180_s1 b c a w K)):=by kernel_rfl
theorem f180_eq (e:Array Value) (w:World) (K:KT):f180 e w K=(NewC e 119 w (fun b l=>NewC (zcells P 172) 172 l (fun f g=>∃ h:Int,g.cell? (Addr.mk b 0 none)=some (.int .i64 h)∧CallL P 119 [(Value.int .i64 h)] g (fun m n=>∃ i:Array Value,∃ c:Bool,m=(.tuple [(Value.agg i),(Value.bool c)].toArray)∧NewC (zcells P 172) 172 n (fun d o=>StA 11 (Addr.mk d 0 none) i o (fun a=>∃ j:Int,a.cell? (Addr.mk b 0 none)=some (.int .i64 j)∧BIf ((j:Int) == 34) (∃ k:Int,a.cell? ((Addr.mk b 0 none).add 1)=some (.int .i64 k)∧f180_s0 ((k:Int) != 0) (Addr.mk f 0 none) c (Addr.mk d 0 none) a K) (f180_s0 false (Addr.mk f 0 none) c (Addr.mk d 0 none) a K))))))):=by kernel_rfl
theorem f180_ok (a:Array Value) (w:World) (K:KT) (h:f180 a w K):CallL P 180 [(Value.agg a)] w K:=okCS c180 Tryz.func180 (by kernel_rfl) (by kernel_rfl) h
noncomputable def c181:Code:=bodyOf Tryz.f181
noncomputable def rs181:List ResultVar:=Tryz.f181.results.toList
abbrev f181_kb (K:KT):Exit→YT:=bodyK P rs181 K
def f181 (a:Array Value) (w:World) (K:KT):Prop:=CS P c181 none [2] [2] (f181_kb K) (env0 83 [(Value.agg a)]) w
def f181_s0 (a:Array Value) (w:World) (K:KT):Prop:=CS P (cA c181 1) none [2] [2] (f181_kb K) (Env.mk 83 [(0,(Value.agg a))] []) w
abbrev f181_k0 (K:KT):Exit→YT:=kseq P (cA c181 2) (cA c181 3) none [2] [2] (f181_kb K)
def f181_s1 (a:Addr) (b:Array Value) (w:World) (K:KT):Prop:=CS P (cA c181 3) none [2] [2] (f181_kb K) (Env.mk 83 [(2,(VB false)),(1,(VP (some a))),(0,(Value.agg b))] []) w
abbrev f181_k1 (K:KT):Exit→YT:=kseq P (cA c181 6) (cA c181 7) none [2] [2] (f181_kb K)
abbrev f181_k2 (K:KT):Exit→YT:=kseq P (cA c181 12) (cA c181 13) none [1] [2] (f181_k1 K)
def f181_s2 (a:Int) (b c:Addr) (d:Array Value) (w:World) (K:KT):Prop:=CS P (cA c181 13) none [1] [2] (f181_k1 K) (Env.mk 83 [(4,(VI a)),(3,(VP (some b))),(2,(VB false)),(1,(VP (some c))),(0,(Value.agg d))] []) w
abbrev f181_k3 (K:KT):Exit→YT:=kblock 0 (f181_k1 K)
abbrev f181_k4 (K:KT):Exit→YT:=kseq P (cA c181 52) (cA c181 53) none [1] [2,1] (f181_k3 K)
abbrev f181_k5 (K:KT):Exit→YT:=kseq P (cA c181 104) (cA c181 105) none [5,1,4] [2,1] (f181_k4 K)
def f181_s3 (a:Bool) (b:Addr) (c:Int) (w:World) (K:KT):Prop:=SG P (cA c181 53) none [1] [2,1] (f181_k3 K) (Env.mk 83 [(5,(VB a)),(1,(VP (some b))),(4,(VI c))] []) w
def f181_s4 (a:Bool) (b:Addr) (w:World) (K:KT):Prop:=SG P (cA c181 861) none [1] [2,1] (f181_k3 K) (Env.mk 83 [(2,(VB a)),(1,(VP (some b)))] []) w
def f181_s5 (a:Bool) (b:Addr) (w:World) (K:KT):Prop:=SG P (cA c181 3453) none [1] [2,1] (f181_k3 K) (Env.mk 83 [(2,(VB a)),(1,(VP (some b)))] []) w
def f181_s6 (a:Bool) (b:Addr) (w:World) (K:KT):Prop:=SG P (cA c181 13821) none [1] [2,1] (f181_k3 K) (Env.mk 83 [(2,(VB a)),(1,(VP (some b)))] []) w
def f181_s7 (a:Bool) (b:Addr) (w:World) (K:KT):Prop:=SG P (cA c181 55293) none [1] [2,1] (f181_k3 K) (Env.mk 83 [(2,(VB a)),(1,(VP (some b)))] []) w
def f181_s8 (a:Bool) (b:Addr) (w:World) (K:KT):Prop:=SG P (cA c181 884733) none [1] [2,1] (f181_k3 K) (Env.mk 83 [(2,(VB a)),(1,(VP (some b)))] []) w
def f181_s9 (a:Addr) (w:World) (K:KT):Prop:=SG P (cA c181 7) none [2] [2] (f181_kb K) (Env.mk 83 [(1,(VP (some a)))] []) w
abbrev f181_k19 (K:KT):Exit→YT:=kseq P (cA c181 14) (cA c181 15) none [2] [2] (f181_kb K)
theorem f181_s9_eq (c:Addr) (w:World) (K:KT):f181_s9 c w K=(∃ d:Int,w.cell? (c.add 1)=some (.int .i64 d)∧K (Value.bool ((d:Int) == 0)) w):=Eq.trans SGe (Eq.trans (CSs [2] (f181_k19 K) (by kernel_rfl)) (by kernel_rfl))
theorem f181_s3_eq (e:Bool) (a:Addr) (d:Int) (w:World) (K:KT):f181_s3 e a d w K=(BIf e (∃ g:Int,w.cell? (a.add 1)=some (.int .i64 g)∧CallL P 190 [(Value.int .i64 g),(Value.int .i64 1),(Value.int .i64 19)] w (fun e0 f0=>∃ h:Bool,e0=(.bool h)∧K (Value.bool h) f0)) (BIf ((d:Int) == 5) (∃ i:Int,w.cell? (a.add 1)=some (.int .i64 i)∧CallL P 190 [(Value.int .i64 i),(Value.int .i64 1),(Value.int .i64 7)] w (fun g0 c=>∃ j:Bool,g0=(.bool j)∧BIf j (∃ k:Int,c.cell? (a.add 2)=some (.int .i64 k)∧BIf ((k:Int) != 128) (∃ l:Int,c.cell? (a.add 3)=some (.int .i64 l)∧BIf ((l:Int) != 128) (∃ m:Int,c.cell? (a.add 1)=some (.int .i64 m)∧∃ n:Int,c.cell? (a.add 2)=some (.int .i64 n)∧∃ o:Int,c.cell? (a.add 3)=some (.int .i64 o)∧CallL P 191 [(Value.int .i64 m),(Value.int .i64 n),(Value.int .i64 o),(Value.int .i64 0)] c (fun h0 i0=>∃ p:Bool,h0=(.bool p)∧f181_s4 p a i0 K)) (f181_s4 false a c K)) (f181_s4 false a c K)) (f181_s4 false a c K))) (BIf ((d:Int) == 9) (∃ q:Int,w.cell? (a.add 1)=some (.int .i64 q)∧CallL P 190 [(Value.int .i64 q),(Value.int .i64 8),(Value.int .i64 10)] w (fun j0 f=>∃ r:Bool,j0=(.bool r)∧BIf r (f181_s5 true a f K) (∃ s:Int,f.cell? (a.add 1)=some (.int .i64 s)∧CallL P 190 [(Value.int .i64 s),(Value.int .i64 20),(Value.int .i64 29)] f (fun l0 m0=>∃ t:Bool,l0=(.bool t)∧f181_s5 t a m0 K)))) (BIf ((d:Int) == 10) (∃ u:Int,w.cell? (a.add 1)=some (.int .i64 u)∧BIf ((u:Int) == 1) (f181_s6 true a w K) (∃ v:Int,w.cell? (a.add 1)=some (.int .i64 v)∧CallL P 190 [(Value.int .i64 v),(Value.int .i64 8),(Value.int .i64 10)] w (fun n0 o0=>∃ x:Bool,n0=(.bool x)∧f181_s6 x a o0 K))) (BIf ((d:Int) == 11) (∃ y:Int,w.cell? (a.add 1)=some (.int .i64 y)∧BIf ((y:Int) == 14) (f181_s7 true a w K) (∃ z:Int,w.cell? (a.add 1)=some (.int .i64 z)∧f181_s7 ((z:Int) == 15) a w K)) (BIf ((d:Int) == 34) (∃ a0:Int,w.cell? (a.add 1)=some (.int .i64 a0)∧CallL P 190 [(Value.int .i64 a0),(Value.int .i64 0),(Value.int .i64 2)] w (fun p0 q0=>∃ b0:Bool,p0=(.bool b0)∧K (Value.bool b0) q0)) (BIf ((d:Int) == 36) (∃ c0:Int,w.cell? (a.add 1)=some (.int .i64 c0)∧BIf ((c0:Int) == 1) (f181_s8 true a w K) (∃ d0:Int,w.cell? (a.add 1)=some (.int .i64 d0)∧f181_s8 ((d0:Int) == 2) a w K)) (f181_s9 a w K)))))))):=Eq.trans SGe (by kernel_rfl)
theorem f181_s2_eq (c:Int) (e d:Addr) (f:Array Value) (w:World) (K:KT):f181_s2 c e d f w K=(BIf ((c:Int) == 3) (f181_s3 true d c w K) (f181_s3 ((c:Int) == 4) d c w K)):=Eq.trans (b:=CS P (cA c181 13) none [1] [2] (f181_k1 K) (Env.mk 83 [(4,(VI c)),(3,(VP (some e))),(2,(VB false)),(1,(VP (some d))),(0,(Value.agg f))] []) w) (by kernel_rfl) (Eq.trans (CSb 0 [2,1] (f181_k3 K) (by kernel_rfl)) (Eq.trans (CSs [5,1,4] (f181_k4 K) (by kernel_rfl)) (Eq.trans (CSs [5,1,4] (f181_k5 K) (by kernel_rfl)) (by kernel_rfl))))
theorem f181_s1_eq (c:Addr) (d:Array Value) (w:World) (K:KT):f181_s1 c d w K=(∃ e:Int,w.cell? c=some (.int .i64 e)∧f181_s2 e c c d w K):=Eq.trans (b:=CS P (cA c181 3) none [2] [2] (f181_kb K) (Env.mk 83 [(2,(VB false)),(1,(VP (some c))),(0,(Value.agg d))] []) w) (by kernel_rfl) (Eq.trans (CSs [1] (f181_k1 K) (by kernel_rfl)) (Eq.trans (CSs [1,4] (f181_k2 K) (by kernel_rfl)) (by kernel_rfl)))
theorem f181_s0_eq (c:Array Value) (w:World) (K:KT):f181_s0 c w K=(NewC c 119 w (fun d e=>f181_s1 (Addr.mk d 0 none) c e K)):=Eq.trans (b:=CS P (cA c181 1) none [2] [2] (f181_kb K) (Env.mk 83 [(0,(Value.agg c))] []) w) (by kernel_rfl) (Eq.trans (CSs [1] (f181_k0 K) (by kernel_rfl)) (by kernel_rfl))
theorem f181_eq (a:Array Value) (w:World) (K:KT):f181 a w K=(f181_s0 a w K):=by kernel_rfl
theorem f181_ok (a:Array Value) (w:World) (K:KT) (h:f181 a w K):CallL P 181 [(Value.agg a)] w K:=okCS c181 Tryz.func181 (by kernel_rfl) (by kernel_rfl) h
noncomputable def c182:Code:=bodyOf Tryz.f182
noncomputable def rs182:List ResultVar:=Tryz.f182.results.toList
abbrev f182_kb (K:KT):Exit→YT:=bodyK P rs182 K
def f182 (a:Array Value) (w:World) (K:KT):Prop:=CS P c182 none [2] [2] (f182_kb K) (env0 26 [(Value.agg a)]) w
def f182_s0 (a:Array Value) (w:World) (K:KT):Prop:=CS P (cA c182 1) none [2] [2] (f182_kb K) (Env.mk 26 [(0,(Value.agg a))] []) w
abbrev f182_k0 (K:KT):Exit→YT:=kseq P (cA c182 2) (cA c182 3) none [2] [2] (f182_kb K)
def f182_s1 (a:Addr) (b:Array Value) (w:World) (K:KT):Prop:=CS P (cA c182 3) none [2] [2] (f182_kb K) (Env.mk 26 [(2,(VB false)),(1,(VP (some a))),(0,(Value.agg b))] []) w
abbrev f182_k1 (K:KT):Exit→YT:=kseq P (cA c182 6) (cA c182 7) none [2] [2] (f182_kb K)
abbrev f182_k2 (K:KT):Exit→YT:=kseq P (cA c182 12) (cA c182 13) none [1] [2] (f182_k1 K)
def f182_s2 (a:Int) (b c:Addr) (d:Array Value) (w:World) (K:KT):Prop:=CS P (cA c182 13) none [1] [2] (f182_k1 K) (Env.mk 26 [(4,(VI a)),(3,(VP (some b))),(2,(VB false)),(1,(VP (some c))),(0,(Value.agg d))] []) w
abbrev f182_k3 (K:KT):Exit→YT:=kblock 0 (f182_k1 K)
abbrev f182_k4 (K:KT):Exit→YT:=kseq P (cA c182 52) (cA c182 53) none [1] [2,1] (f182_k3 K)
abbrev f182_k5 (K:KT):Exit→YT:=kseq P (cA c182 104) (cA c182 105) none [5,1,4] [2,1] (f182_k4 K)
def f182_s3 (a:Bool) (b:Addr) (c:Int) (w:World) (K:KT):Prop:=SG P (cA c182 53) none [1] [2,1] (f182_k3 K) (Env.mk 26 [(5,(VB a)),(1,(VP (some b))),(4,(VI c))] []) w
def f182_s4 (a:Addr) (w:World) (K:KT):Prop:=SG P (cA c182 7) none [2] [2] (f182_kb K) (Env.mk 26 [(1,(VP (some a)))] []) w
abbrev f182_k11 (K:KT):Exit→YT:=kseq P (cA c182 14) (cA c182 15) none [2] [2] (f182_kb K)
theorem f182_s4_eq (c:Addr) (w:World) (K:KT):f182_s4 c w K=(∃ d:Int,w.cell? (c.add 3)=some (.int .i64 d)∧K (Value.bool ((d:Int) == 0)) w):=Eq.trans SGe (Eq.trans (CSs [2] (f182_k11 K) (by kernel_rfl)) (by kernel_rfl))
theorem f182_s3_eq (d:Bool) (a:Addr) (c:Int) (w:World) (K:KT):f182_s3 d a c w K=(BIf d (∃ e:Int,w.cell? (a.add 3)=some (.int .i64 e)∧CallL P 192 [(Value.int .i64 e)] w (fun i j=>∃ f:Bool,i=(.bool f)∧K (Value.bool f) j)) (BIf ((c:Int) == 32) (∃ g:Int,w.cell? (a.add 3)=some (.int .i64 g)∧CallL P 193 [(Value.int .i64 g)] w (fun k l=>∃ h:Bool,k=(.bool h)∧K (Value.bool h) l)) (BIf ((c:Int) == 5) (K (Value.bool true) w) (f182_s4 a w K)))):=Eq.trans SGe (by kernel_rfl)
theorem f182_s2_eq (c:Int) (e d:Addr) (f:Array Value) (w:World) (K:KT):f182_s2 c e d f w K=(BIf ((c:Int) == 19) (f182_s3 true d c w K) (BIf ((c:Int) == 20) (f182_s3 true d c w K) (BIf ((c:Int) == 21) (f182_s3 true d c w K) (BIf ((c:Int) == 24) (f182_s3 true d c w K) (BIf ((c:Int) == 25) (f182_s3 true d c w K) (BIf ((c:Int) == 28) (f182_s3 true d c w K) (f182_s3 ((c:Int) == 29) d c w K))))))):=Eq.trans (b:=CS P (cA c182 13) none [1] [2] (f182_k1 K) (Env.mk 26 [(4,(VI c)),(3,(VP (some e))),(2,(VB false)),(1,(VP (some d))),(0,(Value.agg f))] []) w) (by kernel_rfl) (Eq.trans (CSb 0 [2,1] (f182_k3 K) (by kernel_rfl)) (Eq.trans (CSs [5,1,4] (f182_k4 K) (by kernel_rfl)) (Eq.trans (CSs [5,1,4] (f182_k5 K) (by kernel_rfl)) (by kernel_rfl))))
theorem f182_s1_eq (c:Addr) (d:Array Value) (w:World) (K:KT):f182_s1 c d w K=(∃ e:Int,w.cell? c=some (.int .i64 e)∧f182_s2 e c c d w K):=Eq.trans (b:=CS P (cA c182 3) none [2] [2] (f182_kb K) (Env.mk 26 [(2,(VB false)),(1,(VP (some c))),(0,(Value.agg d))] []) w) (by kernel_rfl) (Eq.trans (CSs [1] (f182_k1 K) (by kernel_rfl)) (Eq.trans (CSs [1,4] (f182_k2 K) (by kernel_rfl)) (by kernel_rfl)))
theorem f182_s0_eq (c:Array Value) (w:World) (K:KT):f182_s0 c w K=(NewC c 119 w (fun d e=>f182_s1 (Addr.mk d 0 none) c e K)):=Eq.trans (b:=CS P (cA c182 1) none [2] [2] (f182_kb K) (Env.mk 26 [(0,(Value.agg c))] []) w) (by kernel_rfl) (Eq.trans (CSs [1] (f182_k0 K) (by kernel_rfl)) (by kernel_rfl))
theorem f182_eq (a:Array Value) (w:World) (K:KT):f182 a w K=(f182_s0 a w K):=by kernel_rfl
theorem f182_ok (a:Array Value) (w:World) (K:KT) (h:f182 a w K):CallL P 182 [(Value.agg a)] w K:=okCS c182 Tryz.func182 (by kernel_rfl) (by kernel_rfl) h
noncomputable def c183:Code:=bodyOf Tryz.f183
noncomputable def rs183:List ResultVar:=Tryz.f183.results.toList
abbrev f183_kb (K:KT):Exit→YT:=bodyK P rs183 K
def f183 (a:Array Value) (w:World) (K:KT):Prop:=CS P c183 none [2] [2] (f183_kb K) (env0 84 [(Value.agg a)]) w
def f183_s0 (a:Array Value) (w:World) (K:KT):Prop:=CS P (cA c183 1) none [2] [2] (f183_kb K) (Env.mk 84 [(0,(Value.agg a))] []) w
abbrev f183_k0 (K:KT):Exit→YT:=kseq P (cA c183 2) (cA c183 3) none [2] [2] (f183_kb K)
def f183_s1 (a:Addr) (b:Array Value) (w:World) (K:KT):Prop:=CS P (cA c183 3) none [2] [2] (f183_kb K) (Env.mk 84 [(2,(VB false)),(1,(VP (some a))),(0,(Value.agg b))] []) w
abbrev f183_k1 (K:KT):Exit→YT:=kseq P (cA c183 6) (cA c183 7) none [2] [2] (f183_kb K)
abbrev f183_k2 (K:KT):Exit→YT:=kseq P (cA c183 12) (cA c183 13) none [1] [2] (f183_k1 K)
def f183_s2 (a:Int) (b c:Addr) (d:Array Value) (w:World) (K:KT):Prop:=CS P (cA c183 13) none [1] [2] (f183_k1 K) (Env.mk 84 [(4,(VI a)),(3,(VP (some b))),(2,(VB false)),(1,(VP (some c))),(0,(Value.agg d))] []) w
abbrev f183_k3 (K:KT):Exit→YT:=kblock 0 (f183_k1 K)
abbrev f183_k4 (K:KT):Exit→YT:=kseq P (cA c183 52) (cA c183 53) none [1] [2,1] (f183_k3 K)
abbrev f183_k5 (K:KT):Exit→YT:=kseq P (cA c183 104) (cA c183 105) none [5,1,4] [2,1] (f183_k4 K)
def f183_s3 (a:Bool) (b:Addr) (c:Int) (w:World) (K:KT):Prop:=SG P (cA c183 53) none [1] [2,1] (f183_k3 K) (Env.mk 84 [(5,(VB a)),(1,(VP (some b))),(4,(VI c))] []) w
def f183_s4 (a:Bool) (b:Addr) (c:Int) (w:World) (K:KT):Prop:=SG P (cA c183 215) none [1] [2,1] (f183_k3 K) (Env.mk 84 [(11,(VB a)),(1,(VP (some b))),(4,(VI c))] []) w
def f183_s5 (a:Bool) (b:Addr) (c:Int) (w:World) (K:KT):Prop:=SG P (cA c183 863) none [1] [2,1] (f183_k3 K) (Env.mk 84 [(20,(VB a)),(1,(VP (some b))),(4,(VI c))] []) w
def f183_s6 (a:Bool) (b:Addr) (w:World) (K:KT):Prop:=SG P (cA c183 221181) none [1] [2,1] (f183_k3 K) (Env.mk 84 [(2,(VB a)),(1,(VP (some b)))] []) w
def f183_s7 (a:Bool) (b:Addr) (w:World) (K:KT):Prop:=SG P (cA c183 884733) none [1] [2,1] (f183_k3 K) (Env.mk 84 [(2,(VB a)),(1,(VP (some b)))] []) w
def f183_s8 (a:Bool) (b:Addr) (c:Int) (w:World) (K:KT):Prop:=SG P (cA c183 884735) none [1] [2,1] (f183_k3 K) (Env.mk 84 [(56,(VB a)),(1,(VP (some b))),(4,(VI c))] []) w
def f183_s9 (a:Bool) (b:Addr) (c:Int) (w:World) (K:KT):Prop:=SG P (cA c183 3538943) none [1] [2,1] (f183_k3 K) (Env.mk 84 [(63,(VB a)),(1,(VP (some b))),(4,(VI c))] []) w
def f183_s10 (a:Bool) (b:Addr) (w:World) (K:KT):Prop:=SG P (cA c183 14155775) none [1] [2,1] (f183_k3 K) (Env.mk 84 [(69,(VB a)),(1,(VP (some b)))] []) w
def f183_s11 (a:Bool) (b:Addr) (w:World) (K:KT):Prop:=SG P (cA c183 56623101) none [1] [2,1] (f183_k3 K) (Env.mk 84 [(2,(VB a)),(1,(VP (some b)))] []) w
def f183_s12 (a:Addr) (w:World) (K:KT):Prop:=SG P (cA c183 7) none [2] [2] (f183_kb K) (Env.mk 84 [(1,(VP (some a)))] []) w
abbrev f183_k30 (K:KT):Exit→YT:=kseq P (cA c183 14) (cA c183 15) none [2] [2] (f183_kb K)
theorem f183_s12_eq (c:Addr) (w:World) (K:KT):f183_s12 c w K=(∃ d:Int,w.cell? (c.add 8)=some (.int .i64 d)∧K (Value.bool ((d:Int) == 0)) w):=Eq.trans SGe (Eq.trans (CSs [2] (f183_k30 K) (by kernel_rfl)) (by kernel_rfl))
theorem f183_s10_eq (c:Bool) (a:Addr) (w:World) (K:KT):f183_s10 c a w K=(BIf c (∃ e:Int,w.cell? (a.add 8)=some (.int .i64 e)∧CallL P 190 [(Value.int .i64 e),(Value.int .i64 0),(Value.int .i64 508)] w (fun h d=>∃ f:Bool,h=(.bool f)∧BIf f (∃ g:Int,d.cell? (a.add 8)=some (.int .i64 g)∧(4:Int)≠0∧f183_s11 ((((g:Int).tmod 4):Int) == 0) a d K) (f183_s11 false a d K))) (f183_s12 a w K)):=Eq.trans SGe (by kernel_rfl)
theorem f183_s9_eq (d:Bool) (a:Addr) (c:Int) (w:World) (K:KT):f183_s9 d a c w K=(BIf d (∃ e:Int,w.cell? (a.add 8)=some (.int .i64 e)∧CallL P 190 [(Value.int .i64 e),(Value.int .i64 0),(Value.int .i64 511)] w (fun g h=>∃ f:Bool,g=(.bool f)∧K (Value.bool f) h)) (BIf ((c:Int) == 44) (f183_s10 true a w K) (f183_s10 ((c:Int) == 45) a w K))):=Eq.trans SGe (by kernel_rfl)
theorem f183_s8_eq (d:Bool) (c:Addr) (a:Int) (w:World) (K:KT):f183_s8 d c a w K=(BIf d (∃ e:Int,w.cell? (c.add 8)=some (.int .i64 e)∧CallL P 190 [(Value.int .i64 e),(Value.int .i64 1),(Value.int .i64 9)] w (fun g h=>∃ f:Bool,g=(.bool f)∧K (Value.bool f) h)) (BIf ((a:Int) == 42) (f183_s9 true c a w K) (f183_s9 ((a:Int) == 43) c a w K))):=Eq.trans SGe (by kernel_rfl)
theorem f183_s5_eq (d:Bool) (a:Addr) (c:Int) (w:World) (K:KT):f183_s5 d a c w K=(BIf d (∃ f:Int,w.cell? (a.add 8)=some (.int .i64 f)∧CallL P 194 [(Value.int .i64 f),(Value.int .i64 128)] w (fun q r=>∃ g:Bool,q=(.bool g)∧K (Value.bool g) r)) (BIf ((c:Int) == 33) (∃ h:Int,w.cell? (a.add 8)=some (.int .i64 h)∧CallL P 190 [(Value.int .i64 h),(Value.int .i64 1),(Value.int .i64 16)] w (fun s t=>∃ i:Bool,s=(.bool i)∧K (Value.bool i) t)) (BIf ((c:Int) == 35) (∃ j:Int,w.cell? (a.add 8)=some (.int .i64 j)∧CallL P 190 [(Value.int .i64 j),(Value.int .i64 0),(Value.int .i64 7)] w (fun u v=>∃ k:Bool,u=(.bool k)∧K (Value.bool k) v)) (BIf ((c:Int) == 37) (∃ l:Int,w.cell? (a.add 8)=some (.int .i64 l)∧CallL P 190 [(Value.int .i64 l),(Value.int .i64 0),(Value.int .i64 8)] w (fun x e=>∃ m:Bool,x=(.bool m)∧BIf m (∃ n:Int,e.cell? (a.add 9)=some (.int .u32 n)∧f183_s6 (decide ((n:Int)≤1000000)) a e K) (f183_s6 false a e K))) (BIf ((c:Int) == 38) (∃ o:Int,w.cell? (a.add 8)=some (.int .i64 o)∧BIf ((o:Int) == 4) (f183_s7 true a w K) (∃ p:Int,w.cell? (a.add 8)=some (.int .i64 p)∧f183_s7 ((p:Int) == 8) a w K)) (BIf ((c:Int) == 39) (f183_s8 true a c w K) (BIf ((c:Int) == 40) (f183_s8 true a c w K) (f183_s8 ((c:Int) == 41) a c w K)))))))):=Eq.trans SGe (by kernel_rfl)
theorem f183_s4_eq (d:Bool) (a:Addr) (c:Int) (w:World) (K:KT):f183_s4 d a c w K=(BIf d (∃ e:Int,w.cell? (a.add 8)=some (.int .i64 e)∧∃ f:Int,w.cell? (a.add 3)=some (.int .i64 f)∧CallL P 194 [(Value.int .i64 e),(Value.int .i64 f)] w (fun h i=>∃ g:Bool,h=(.bool g)∧K (Value.bool g) i)) (BIf ((c:Int) == 22) (f183_s5 true a c w K) (f183_s5 ((c:Int) == 23) a c w K))):=Eq.trans SGe (by kernel_rfl)
theorem f183_s3_eq (d:Bool) (c:Addr) (a:Int) (w:World) (K:KT):f183_s3 d c a w K=(BIf d (∃ e:Int,w.cell? (c.add 8)=some (.int .i64 e)∧CallL P 190 [(Value.int .i64 e),(Value.int .i64 0),(Value.int .i64 3)] w (fun g h=>∃ f:Bool,g=(.bool f)∧K (Value.bool f) h)) (BIf ((a:Int) == 19) (f183_s4 true c a w K) (BIf ((a:Int) == 20) (f183_s4 true c a w K) (f183_s4 ((a:Int) == 21) c a w K)))):=Eq.trans SGe (by kernel_rfl)
theorem f183_s2_eq (c:Int) (e d:Addr) (f:Array Value) (w:World) (K:KT):f183_s2 c e d f w K=(BIf ((c:Int) == 15) (f183_s3 true d c w K) (f183_s3 ((c:Int) == 16) d c w K)):=Eq.trans (b:=CS P (cA c183 13) none [1] [2] (f183_k1 K) (Env.mk 84 [(4,(VI c)),(3,(VP (some e))),(2,(VB false)),(1,(VP (some d))),(0,(Value.agg f))] []) w) (by kernel_rfl) (Eq.trans (CSb 0 [2,1] (f183_k3 K) (by kernel_rfl)) (Eq.trans (CSs [5,1,4] (f183_k4 K) (by kernel_rfl)) (Eq.trans (CSs [5,1,4] (f183_k5 K) (by kernel_rfl)) (by kernel_rfl))))
theorem f183_s1_eq (c:Addr) (d:Array Value) (w:World) (K:KT):f183_s1 c d w K=(∃ e:Int,w.cell? c=some (.int .i64 e)∧f183_s2 e c c d w K):=Eq.trans (b:=CS P (cA c183 3) none [2] [2] (f183_kb K) (Env.mk 84 [(2,(VB false)),(1,(VP (some c))),(0,(Value.agg d))] []) w) (by kernel_rfl) (Eq.trans (CSs [1] (f183_k1 K) (by kernel_rfl)) (Eq.trans (CSs [1,4] (f183_k2 K) (by kernel_rfl)) (by kernel_rfl)))
theorem f183_s0_eq (c:Array Value) (w:World) (K:KT):f183_s0 c w K=(NewC c 119 w (fun d e=>f183_s1 (Addr.mk d 0 none) c e K)):=Eq.trans (b:=CS P (cA c183 1) none [2] [2] (f183_kb K) (Env.mk 84 [(0,(Value.agg c))] []) w) (by kernel_rfl) (Eq.trans (CSs [1] (f183_k0 K) (by kernel_rfl)) (by kernel_rfl))
theorem f183_eq (a:Array Value) (w:World) (K:KT):f183 a w K=(f183_s0 a w K):=by kernel_rfl
theorem f183_ok (a:Array Value) (w:World) (K:KT) (h:f183 a w K):CallL P 183 [(Value.agg a)] w K:=okCS c183 Tryz.func183 (by kernel_rfl) (by kernel_rfl) h
noncomputable def c184:Code:=bodyOf Tryz.f184
noncomputable def rs184:List ResultVar:=Tryz.f184.results.toList
abbrev f184_kb (K:KT):Exit→YT:=bodyK P rs184 K
def f184 (a b c d:Int) (w:World) (K:KT):Prop:=CS P c184 none [8] [8] (f184_kb K) (env0 29 [(VI a),(VI b),(VI c),(VI d)]) w
def f184_s0 (a b c d:Int) (w:World) (K:KT):Prop:=SG P (cA c184 7) none [8] [8] (f184_kb K) (Env.mk 29 [(3,(VI a)),(0,(VI b)),(2,(VI c)),(1,(VI d))] []) w
abbrev f184_k4 (K:KT):Exit→YT:=kseq P (cA c184 14) (cA c184 15) none [8] [8] (f184_kb K)
def f184_s1 (a:Bool) (w:World) (K:KT):Prop:=SG P (cA c184 117) none [2,0] [8] (f184_k4 K) (Env.mk 29 [(8,(VB a))] []) w
def f184_s2 (a b:Int) (w:World) (K:KT):Prop:=SG P (cA c184 15) none [8] [8] (f184_kb K) (Env.mk 29 [(2,(VI a)),(0,(VI b))] []) w
def f184_s3 (a:Bool) (w:World) (K:KT):Prop:=SG P (cA c184 31) none [8] [8] (f184_kb K) (Env.mk 29 [(8,(VB a))] []) w
theorem f184_s3_eq (a:Bool) (w:World) (K:KT):f184_s3 a w K=(K (Value.bool a) w):=by kernel_rfl
theorem f184_s2_eq (b a:Int) (w:World) (K:KT):f184_s2 b a w K=(BIf (decide ((a:Int)≥0)) (f184_s3 (decide ((a:Int) < b)) w K) (f184_s3 false w K)):=by kernel_rfl
theorem f184_s0_eq (b a c d:Int) (w:World) (K:KT):f184_s0 b a c d w K=(BIf ((d:Int) == 2) (BIf (decide ((a:Int)≥0)) (f184_s1 (decide ((a:Int) < b)) w K) (f184_s1 false w K)) (f184_s2 c a w K)):=by kernel_rfl
theorem f184_eq (a b c d:Int) (w:World) (K:KT):f184 a b c d w K=(BIf ((b:Int) == 0) (K (Value.bool ((a:Int) == 0)) w) (f184_s0 d a c b w K)):=by kernel_rfl
theorem f184_ok (a b c d:Int) (w:World) (K:KT) (h:f184 a b c d w K):CallL P 184 [(Value.int .i64 a),(Value.int .i64 b),(Value.int .i64 c),(Value.int .i64 d)] w K:=okCS c184 Tryz.func184 (by kernel_rfl) (by kernel_rfl) h
noncomputable def c190:Code:=bodyOf Tryz.f190
noncomputable def rs190:List ResultVar:=Tryz.f190.results.toList
abbrev f190_kb (K:KT):Exit→YT:=bodyK P rs190 K
def f190 (a b c:Int) (w:World) (K:KT):Prop:=CS P c190 none [6] [6] (f190_kb K) (env0 15 [(VI a),(VI b),(VI c)]) w
def f190_s0 (a:Bool) (w:World) (K:KT):Prop:=SG P (cA c190 7) none [6] [6] (f190_kb K) (Env.mk 15 [(6,(VB a))] []) w
theorem f190_s0_eq (a:Bool) (w:World) (K:KT):f190_s0 a w K=(K (Value.bool a) w):=by kernel_rfl
theorem f190_eq (a b c:Int) (w:World) (K:KT):f190 a b c w K=(BIf (decide ((a:Int)≥b)) (f190_s0 (decide ((a:Int)≤c)) w K) (f190_s0 false w K)):=by kernel_rfl
theorem f190_ok (a b c:Int) (w:World) (K:KT) (h:f190 a b c w K):CallL P 190 [(Value.int .i64 a),(Value.int .i64 b),(Value.int .i64 c)] w K:=okCS c190 Tryz.func190 (by kernel_rfl) (by kernel_rfl) h
noncomputable def c157:Code:=bodyOf Tryz.f157
noncomputable def rs157:List ResultVar:=Tryz.f157.results.toList
abbrev f157_kb (K:KT):Exit→YT:=bodyK P rs157 K
def f157 (a:Array Value) (b c:Int) (w:World) (K:KT):Prop:=CS P c157 none [6] [6] (f157_kb K) (env0 104 [(Value.agg a),(VI b),(VI c)]) w
abbrev f157_k2 (K:KT):Exit→YT:=kseq P (cA c157 14) (cA c157 15) none [6] [6] (f157_kb K)
def f157_s0 (a:Bool) (b c:Int) (d f:Addr) (w:World) (K:KT):Prop:=SG P (cA c157 29) none [2,1,7,3] [6] (f157_k2 K) (Env.mk 104 [(30,(VB a)),(2,(VI b)),(1,(VI c)),(7,(VP (some d))),(3,(VP (some f)))] []) w
def f157_s1 (a b:Int) (c d:Addr) (w:World) (K:KT):Prop:=SG P (cA c157 15) none [6] [6] (f157_kb K) (Env.mk 104 [(2,(VI a)),(1,(VI b)),(7,(VP (some c))),(3,(VP (some d)))] []) w
abbrev f157_k5 (K:KT):Exit→YT:=kseq P (cA c157 30) (cA c157 31) none [6] [6] (f157_kb K)
abbrev f157_k6 (K:KT):Exit→YT:=kseq P (cA c157 60) (cA c157 61) none [2,1,7,3] [6] (f157_k5 K)
def f157_s2 (a:Bool) (b c:Int) (d f:Addr) (w:World) (K:KT):Prop:=SG P (cA c157 61) none [2,1,7,3] [6] (f157_k5 K) (Env.mk 104 [(69,(VB a)),(2,(VI b)),(1,(VI c)),(7,(VP (some d))),(3,(VP (some f)))] []) w
def f157_s3 (a b:Int) (c d:Addr) (w:World) (K:KT):Prop:=SG P (cA c157 31) none [6] [6] (f157_kb K) (Env.mk 104 [(2,(VI a)),(1,(VI b)),(7,(VP (some c))),(3,(VP (some d)))] []) w
def f157_s4 (a:Bool) (w:World) (K:KT):Prop:=SG P (cA c157 63) none [6] [6] (f157_kb K) (Env.mk 104 [(6,(VB a))] []) w
theorem f157_s4_eq (a:Bool) (w:World) (K:KT):f157_s4 a w K=(K (Value.bool a) w):=by kernel_rfl
theorem f157_s3_eq (a b:Int) (c d:Addr) (w:World) (K:KT):f157_s3 a b c d w K=(∃ h:Int,w.cell? (d.add 4)=some (.int .i64 h)∧∃ i:Int,w.cell? (c.add 3)=some (.int .i64 i)∧CallL P 184 [(Value.int .i64 h),(Value.int .i64 i),(Value.int .i64 b),(Value.int .i64 a)] w (fun t e=>∃ j:Bool,t=(.bool j)∧BIf j (∃ k:Int,e.cell? (d.add 5)=some (.int .i64 k)∧∃ l:Int,e.cell? (c.add 4)=some (.int .i64 l)∧CallL P 184 [(Value.int .i64 k),(Value.int .i64 l),(Value.int .i64 b),(Value.int .i64 a)] e (fun u f=>∃ m:Bool,u=(.bool m)∧BIf m (∃ n:Int,f.cell? (d.add 6)=some (.int .i64 n)∧∃ o:Int,f.cell? (c.add 5)=some (.int .i64 o)∧CallL P 184 [(Value.int .i64 n),(Value.int .i64 o),(Value.int .i64 b),(Value.int .i64 a)] f (fun v g=>∃ p:Bool,v=(.bool p)∧BIf p (∃ q:Int,g.cell? (d.add 7)=some (.int .i64 q)∧∃ r:Int,g.cell? (c.add 6)=some (.int .i64 r)∧CallL P 184 [(Value.int .i64 q),(Value.int .i64 r),(Value.int .i64 b),(Value.int .i64 a)] g (fun x y=>∃ s:Bool,x=(.bool s)∧f157_s4 s y K)) (f157_s4 false g K))) (f157_s4 false f K))) (f157_s4 false e K))):=by kernel_rfl
theorem f157_s2_eq (a:Bool) (b c:Int) (d e:Addr) (w:World) (K:KT):f157_s2 a b c d e w K=(BIf a (K (Value.bool false) w) (f157_s3 b c d e w K)):=by kernel_rfl
theorem f157_s0_eq (a:Bool) (b c:Int) (d e:Addr) (w:World) (K:KT):f157_s0 a b c d e w K=(BIf a (K (Value.bool false) w) (f157_s1 b c d e w K)):=by kernel_rfl
theorem f157_eq (h:Array Value) (b c:Int) (w:World) (K:KT):f157 h b c w K=(NewC h 119 w (fun a i=>LdA 15 (Addr.mk a 0 none) i (fun o=>CallL P 180 [(Value.agg o)] i (fun p q=>∃ j:Array Value,∃ k:Bool,p=(.tuple [(Value.agg j),(Value.bool k)].toArray)∧NewC (zcells P 172) 172 q (fun d r=>StA 11 (Addr.mk d 0 none) j r (fun e=>BIf (!k) (f157_s0 true c b (Addr.mk d 0 none) (Addr.mk a 0 none) e K) (LdA 15 (Addr.mk a 0 none) e (fun s=>CallL P 181 [(Value.agg s)] e (fun t f=>∃ l:Bool,t=(.bool l)∧BIf (!l) (f157_s0 true c b (Addr.mk d 0 none) (Addr.mk a 0 none) f K) (LdA 15 (Addr.mk a 0 none) f (fun u=>CallL P 182 [(Value.agg u)] f (fun v g=>∃ m:Bool,v=(.bool m)∧BIf (!m) (f157_s0 true c b (Addr.mk d 0 none) (Addr.mk a 0 none) g K) (LdA 15 (Addr.mk a 0 none) g (fun x=>CallL P 183 [(Value.agg x)] g (fun y z=>∃ n:Bool,y=(.bool n)∧f157_s0 (!n) c b (Addr.mk d 0 none) (Addr.mk a 0 none) z K))))))))))))))):=by kernel_rfl
theorem f157_ok (a:Array Value) (b c:Int) (w:World) (K:KT) (h:f157 a b c w K):CallL P 157 [(Value.agg a),(Value.int .i64 b),(Value.int .i64 c)] w K:=okCS c157 Tryz.func157 (by kernel_rfl) (by kernel_rfl) h
end Go.Fx.Tryz
namespace Go.Fx.Tryz
open Go Go.Fx Go.Fx.Ch
open Go.Proofs
set_option linter.all false
set_option maxRecDepth 100000
@[irreducible] noncomputable def r157:Array Oper:=match cA c157 60 with
 | .region _ ops _=>ops
 | _=>#[]
noncomputable def o157 (i : Nat) : Oper := r157.getD i { dst := none, op := .move (.tmp 0), type := 0, pos := "", after := #[], guard := none }
@[irreducible] def e157 (x18 x19:Int) (a20 a21:Addr):Env:=Env.mk 104 [(2,(Value.int .i64 x18)),(1,(Value.int .i64 x19)),(7,(Value.pointer (some a20))),(3,(Value.pointer (some a21)))] []
def st157 (i:Nat) (e:Env) (w:World) (K:YT):Prop:=stepS P none r157 (o157 i) e w K
def sq157 (i:Nat) (e:Env) (w:World) (K:YT):Prop:=seqS P none r157 (r157.toList.drop i) e w K
theorem r157_size:r157.size=39:=by kernel_rfl
theorem sq_step {i j:Nat} {e:Env} {w:World} {K:YT} (hj:i+1=j) (hi:i < 39) (h:st157 i e w fun e w=>sq157 j e w K):sq157 i e w K:=by
 subst hj
 unfold sq157
 have hl:r157.toList.drop i=o157 i::r157.toList.drop (i+1):=by
  have hi2:i < r157.toList.length:=by rw [Array.length_toList,r157_size]; exact hi
  rw [List.drop_eq_getElem_cons hi2]
  congr 1
  unfold o157
  rw [Array.getElem_toList,Array.getD_eq_getD_getElem?,Array.getElem?_eq_getElem (by simpa using hi2)]
  rfl
 rw [hl]
 exact h
theorem sq_end {e:Env} {w:World} {K:YT} (h:K e w):sq157 39 e w K:=by
 unfold sq157
 have hl:r157.toList.drop 39=[]:=List.drop_eq_nil_of_le (by rw [Array.length_toList,r157_size]; exact Nat.le_refl _)
 rw [hl]
 exact h
theorem bzero117 (wq:World):(Instr.build 117 ([]:List (Nat × Value)).toArray).run P wq=.ok (.agg #[U 0,U 0,U 0,U 0]) wq:=by kernel_rfl
theorem eq117_zero (wq:World):(do eqGuard .neq 117 (.tmp 65) (.tmp 66) (.agg #[U 0,U 0,U 0,U 0]) (.agg #[U 0,U 0,U 0,U 0]); binOp .neq 117 (.agg #[U 0,U 0,U 0,U 0]) (.agg #[U 0,U 0,U 0,U 0]):Sem Value).run P wq=.ok (.bool false) wq:=by kernel_rfl
@[irreducible] def Ea1 (x18 x19:Int) (a20 a21:Addr):Env:=((e157 x18 x19 a20 a21).put (some 31) (.pointer (some (a20.add 1))))
@[irreducible] def Ea2 (x18 x19:Int) (a20 a21:Addr):Env:=((Ea1 x18 x19 a20 a21).put (some 32) (.bool false))
@[irreducible] def Ea3 (x18 x19:Int) (a20 a21:Addr):Env:=((Ea2 x18 x19 a20 a21).put (some 33) (.bool true))
@[irreducible] def Ea4 (x18 x19:Int) (a20 a21:Addr):Env:=((Ea3 x18 x19 a20 a21).put (some 34) (.bool true))
@[irreducible] def Ea5 (x18 x19:Int) (a20 a21:Addr):Env:=(((Ea4 x18 x19 a20 a21).put (some 34) (.bool true)).put (some 35) (.pointer (some (a21.add 2))))
@[irreducible] def Ea6 (x18 x19:Int) (a20 a21:Addr):Env:=(((Ea5 x18 x19 a20 a21).put (some 34) (.bool true)).put (some 36) (.int .i64 0))
@[irreducible] def Ea7 (x18 x19:Int) (a20 a21:Addr):Env:=(((Ea6 x18 x19 a20 a21).put (some 34) (.bool true)).put (some 37) (.bool false))
@[irreducible] def Ea8 (x18 x19:Int) (a20 a21:Addr):Env:=((Ea7 x18 x19 a20 a21).put (some 38) (.bool false))
@[irreducible] def Ea9 (x18 x19:Int) (a20 a21:Addr):Env:=((Ea8 x18 x19 a20 a21).put (some 39) (.bool false))
@[irreducible] def Ea10 (x18 x19:Int) (a20 a21:Addr):Env:=(((Ea9 x18 x19 a20 a21).put (some 39) (.bool false)).put (some 40) (.pointer (some (a20.add 8))))
@[irreducible] def Ea11 (x18 x19:Int) (a20 a21:Addr):Env:=(((Ea10 x18 x19 a20 a21).put (some 39) (.bool false)).put (some 41) (.bool true))
@[irreducible] def Ea12 (x18 x19:Int) (a20 a21:Addr):Env:=(((Ea11 x18 x19 a20 a21).put (some 39) (.bool false)).put (some 42) (.bool false))
@[irreducible] def Ea13 (x18 x19:Int) (a20 a21:Addr):Env:=(((Ea12 x18 x19 a20 a21).put (some 39) (.bool false)).put (some 43) (.bool false))
@[irreducible] def Ea14 (x18 x19:Int) (a20 a21:Addr):Env:=(((Ea13 x18 x19 a20 a21).put (some 43) (.bool false)).put (some 44) undef)
@[irreducible] def Ea15 (x18 x19:Int) (a20 a21:Addr):Env:=(((Ea14 x18 x19 a20 a21).put (some 43) (.bool false)).put (some 45) undef)
@[irreducible] def Ea16 (x18 x19:Int) (a20 a21:Addr):Env:=(((Ea15 x18 x19 a20 a21).put (some 43) (.bool false)).put (some 46) undef)
@[irreducible] def Ea17 (x18 x19:Int) (a20 a21:Addr):Env:=(((Ea16 x18 x19 a20 a21).put (some 39) (.bool false)).put (some 47) (.bool false))
@[irreducible] def Ea18 (x18 x19:Int) (a20 a21:Addr):Env:=((Ea17 x18 x19 a20 a21).put (some 48) (.bool false))
@[irreducible] def Ea19 (x18 x19:Int) (a20 a21:Addr):Env:=((Ea18 x18 x19 a20 a21).put (some 49) (.bool false))
@[irreducible] def Ea20 (x18 x19:Int) (a20 a21:Addr):Env:=(((Ea19 x18 x19 a20 a21).put (some 49) (.bool false)).put (some 50) (.pointer (some (a20.add 9))))
@[irreducible] def Ea21 (x18 x19:Int) (a20 a21:Addr):Env:=(((Ea20 x18 x19 a20 a21).put (some 49) (.bool false)).put (some 51) (.bool false))
@[irreducible] def Ea22 (x18 x19:Int) (a20 a21:Addr):Env:=(((Ea21 x18 x19 a20 a21).put (some 49) (.bool false)).put (some 52) (.bool true))
@[irreducible] def Ea23 (x18 x19:Int) (a20 a21:Addr):Env:=(((Ea22 x18 x19 a20 a21).put (some 49) (.bool false)).put (some 53) (.bool true))
@[irreducible] def Ea24 (x18 x19:Int) (a20 a21:Addr):Env:=(((Ea23 x18 x19 a20 a21).put (some 53) (.bool true)).put (some 54) (.pointer (some (a21.add 10))))
@[irreducible] def Ea25 (x18 x19:Int) (a20 a21:Addr):Env:=(((Ea24 x18 x19 a20 a21).put (some 53) (.bool true)).put (some 55) (.int .u32 0))
@[irreducible] def Ea26 (x18 x19:Int) (a20 a21:Addr):Env:=(((Ea25 x18 x19 a20 a21).put (some 53) (.bool true)).put (some 56) (.bool false))
@[irreducible] def Ea27 (x18 x19:Int) (a20 a21:Addr):Env:=(((Ea26 x18 x19 a20 a21).put (some 49) (.bool false)).put (some 57) (.bool false))
@[irreducible] def Ea28 (x18 x19:Int) (a20 a21:Addr):Env:=((Ea27 x18 x19 a20 a21).put (some 58) (.bool false))
@[irreducible] def Ea29 (x18 x19:Int) (a20 a21:Addr):Env:=((Ea28 x18 x19 a20 a21).put (some 59) (.bool false))
@[irreducible] def Ea30 (x18 x19:Int) (a20 a21:Addr):Env:=(((Ea29 x18 x19 a20 a21).put (some 59) (.bool false)).put (some 60) (.pointer (some (a20.add 10))))
@[irreducible] def Ea31 (x18 x19:Int) (a20 a21:Addr):Env:=(((Ea30 x18 x19 a20 a21).put (some 59) (.bool false)).put (some 61) (.bool false))
@[irreducible] def Ea32 (x18 x19:Int) (a20 a21:Addr):Env:=(((Ea31 x18 x19 a20 a21).put (some 59) (.bool false)).put (some 62) (.bool true))
@[irreducible] def Ea33 (x18 x19:Int) (a20 a21:Addr):Env:=(((Ea32 x18 x19 a20 a21).put (some 59) (.bool false)).put (some 63) (.bool true))
@[irreducible] def Ea34 (x18 x19:Int) (a20 a21:Addr):Env:=(((Ea33 x18 x19 a20 a21).put (some 63) (.bool true)).put (some 64) (.pointer (some (a21.add 11))))
@[irreducible] def Ea35 (x18 x19:Int) (a20 a21:Addr):Env:=(((Ea34 x18 x19 a20 a21).put (some 63) (.bool true)).put (some 65) (.agg #[U 0,U 0,U 0,U 0]))
@[irreducible] def Ea36 (x18 x19:Int) (a20 a21:Addr):Env:=(((Ea35 x18 x19 a20 a21).put (some 63) (.bool true)).put (some 66) (.agg #[U 0,U 0,U 0,U 0]))
@[irreducible] def Ea37 (x18 x19:Int) (a20 a21:Addr):Env:=(((Ea36 x18 x19 a20 a21).put (some 63) (.bool true)).put (some 67) (.bool false))
@[irreducible] def Ea38 (x18 x19:Int) (a20 a21:Addr):Env:=(((Ea37 x18 x19 a20 a21).put (some 59) (.bool false)).put (some 68) (.bool false))
@[irreducible] def Ea39 (x18 x19:Int) (a20 a21:Addr):Env:=((Ea38 x18 x19 a20 a21).put (some 69) (.bool false))
theorem ta0 (x18 x19:Int) (a20 a21:Addr) (w:World) (K:YT):st157 0 (e157 x18 x19 a20 a21) w K=K (Ea1 x18 x19 a20 a21) w:=by kernel_rfl
theorem ta1 (x18 x19:Int) (a20 a21:Addr) (w:World) (K:YT):st157 1 (Ea1 x18 x19 a20 a21) w K=(∃ b:Bool,w.cell? (a20.add 1)=some (.bool b)∧K ((Ea1 x18 x19 a20 a21).put (some 32) (.bool b)) w):=by kernel_rfl
theorem ta2 (x18 x19:Int) (a20 a21:Addr) (w:World) (K:YT):st157 2 (Ea2 x18 x19 a20 a21) w K=K (Ea3 x18 x19 a20 a21) w:=by kernel_rfl
theorem ta3 (x18 x19:Int) (a20 a21:Addr) (w:World) (K:YT):st157 3 (Ea3 x18 x19 a20 a21) w K=K (Ea4 x18 x19 a20 a21) w:=by kernel_rfl
theorem ta4 (x18 x19:Int) (a20 a21:Addr) (w:World) (K:YT):st157 4 (Ea4 x18 x19 a20 a21) w K=K (Ea5 x18 x19 a20 a21) w:=by kernel_rfl
theorem ta5 (x18 x19:Int) (a20 a21:Addr) (w:World) (K:YT):st157 5 (Ea5 x18 x19 a20 a21) w K=(∃ x:Int,w.cell? (a21.add 2)=some (.int .i64 x)∧K (((Ea5 x18 x19 a20 a21).put (some 34) (.bool true)).put (some 36) (.int .i64 x)) w):=by kernel_rfl
theorem ta6 (x18 x19:Int) (a20 a21:Addr) (w:World) (K:YT):st157 6 (Ea6 x18 x19 a20 a21) w K=K (Ea7 x18 x19 a20 a21) w:=by kernel_rfl
theorem ta7 (x18 x19:Int) (a20 a21:Addr) (w:World) (K:YT):st157 7 (Ea7 x18 x19 a20 a21) w K=K (Ea8 x18 x19 a20 a21) w:=by kernel_rfl
theorem ta8 (x18 x19:Int) (a20 a21:Addr) (w:World) (K:YT):st157 8 (Ea8 x18 x19 a20 a21) w K=K (Ea9 x18 x19 a20 a21) w:=by kernel_rfl
theorem ta9 (x18 x19:Int) (a20 a21:Addr) (w:World) (K:YT):st157 9 (Ea9 x18 x19 a20 a21) w K=K (Ea10 x18 x19 a20 a21) w:=by kernel_rfl
theorem ta10 (x18 x19:Int) (a20 a21:Addr) (w:World) (K:YT):st157 10 (Ea10 x18 x19 a20 a21) w K=(∃ b:Bool,w.cell? (a20.add 8)=some (.bool b)∧K (((Ea10 x18 x19 a20 a21).put (some 39) (.bool false)).put (some 41) (.bool b)) w):=by kernel_rfl
theorem ta11 (x18 x19:Int) (a20 a21:Addr) (w:World) (K:YT):st157 11 (Ea11 x18 x19 a20 a21) w K=K (Ea12 x18 x19 a20 a21) w:=by kernel_rfl
theorem ta12 (x18 x19:Int) (a20 a21:Addr) (w:World) (K:YT):st157 12 (Ea12 x18 x19 a20 a21) w K=K (Ea13 x18 x19 a20 a21) w:=by kernel_rfl
theorem ta13 (x18 x19:Int) (a20 a21:Addr) (w:World) (K:YT):st157 13 (Ea13 x18 x19 a20 a21) w K=K (Ea14 x18 x19 a20 a21) w:=by kernel_rfl
theorem ta14 (x18 x19:Int) (a20 a21:Addr) (w:World) (K:YT):st157 14 (Ea14 x18 x19 a20 a21) w K=K (Ea15 x18 x19 a20 a21) w:=by kernel_rfl
theorem ta15 (x18 x19:Int) (a20 a21:Addr) (w:World) (K:YT):st157 15 (Ea15 x18 x19 a20 a21) w K=K (Ea16 x18 x19 a20 a21) w:=by kernel_rfl
theorem ta16 (x18 x19:Int) (a20 a21:Addr) (w:World) (K:YT):st157 16 (Ea16 x18 x19 a20 a21) w K=K (Ea17 x18 x19 a20 a21) w:=by kernel_rfl
theorem ta17 (x18 x19:Int) (a20 a21:Addr) (w:World) (K:YT):st157 17 (Ea17 x18 x19 a20 a21) w K=K (Ea18 x18 x19 a20 a21) w:=by kernel_rfl
theorem ta18 (x18 x19:Int) (a20 a21:Addr) (w:World) (K:YT):st157 18 (Ea18 x18 x19 a20 a21) w K=K (Ea19 x18 x19 a20 a21) w:=by kernel_rfl
theorem ta19 (x18 x19:Int) (a20 a21:Addr) (w:World) (K:YT):st157 19 (Ea19 x18 x19 a20 a21) w K=K (Ea20 x18 x19 a20 a21) w:=by kernel_rfl
theorem ta20 (x18 x19:Int) (a20 a21:Addr) (w:World) (K:YT):st157 20 (Ea20 x18 x19 a20 a21) w K=(∃ b:Bool,w.cell? (a20.add 9)=some (.bool b)∧K (((Ea20 x18 x19 a20 a21).put (some 49) (.bool false)).put (some 51) (.bool b)) w):=by kernel_rfl
theorem ta21 (x18 x19:Int) (a20 a21:Addr) (w:World) (K:YT):st157 21 (Ea21 x18 x19 a20 a21) w K=K (Ea22 x18 x19 a20 a21) w:=by kernel_rfl
theorem ta22 (x18 x19:Int) (a20 a21:Addr) (w:World) (K:YT):st157 22 (Ea22 x18 x19 a20 a21) w K=K (Ea23 x18 x19 a20 a21) w:=by kernel_rfl
theorem ta23 (x18 x19:Int) (a20 a21:Addr) (w:World) (K:YT):st157 23 (Ea23 x18 x19 a20 a21) w K=K (Ea24 x18 x19 a20 a21) w:=by kernel_rfl
theorem ta24 (x18 x19:Int) (a20 a21:Addr) (w:World) (K:YT):st157 24 (Ea24 x18 x19 a20 a21) w K=(∃ x:Int,w.cell? (a21.add 10)=some (.int .u32 x)∧K (((Ea24 x18 x19 a20 a21).put (some 53) (.bool true)).put (some 55) (.int .u32 x)) w):=by kernel_rfl
theorem ta25 (x18 x19:Int) (a20 a21:Addr) (w:World) (K:YT):st157 25 (Ea25 x18 x19 a20 a21) w K=K (Ea26 x18 x19 a20 a21) w:=by kernel_rfl
theorem ta26 (x18 x19:Int) (a20 a21:Addr) (w:World) (K:YT):st157 26 (Ea26 x18 x19 a20 a21) w K=K (Ea27 x18 x19 a20 a21) w:=by kernel_rfl
theorem ta27 (x18 x19:Int) (a20 a21:Addr) (w:World) (K:YT):st157 27 (Ea27 x18 x19 a20 a21) w K=K (Ea28 x18 x19 a20 a21) w:=by kernel_rfl
theorem ta28 (x18 x19:Int) (a20 a21:Addr) (w:World) (K:YT):st157 28 (Ea28 x18 x19 a20 a21) w K=K (Ea29 x18 x19 a20 a21) w:=by kernel_rfl
theorem ta29 (x18 x19:Int) (a20 a21:Addr) (w:World) (K:YT):st157 29 (Ea29 x18 x19 a20 a21) w K=K (Ea30 x18 x19 a20 a21) w:=by kernel_rfl
theorem ta30 (x18 x19:Int) (a20 a21:Addr) (w:World) (K:YT):st157 30 (Ea30 x18 x19 a20 a21) w K=(∃ b:Bool,w.cell? (a20.add 10)=some (.bool b)∧K (((Ea30 x18 x19 a20 a21).put (some 59) (.bool false)).put (some 61) (.bool b)) w):=by kernel_rfl
theorem ta31 (x18 x19:Int) (a20 a21:Addr) (w:World) (K:YT):st157 31 (Ea31 x18 x19 a20 a21) w K=K (Ea32 x18 x19 a20 a21) w:=by kernel_rfl
theorem ta32 (x18 x19:Int) (a20 a21:Addr) (w:World) (K:YT):st157 32 (Ea32 x18 x19 a20 a21) w K=K (Ea33 x18 x19 a20 a21) w:=by kernel_rfl
theorem ta33 (x18 x19:Int) (a20 a21:Addr) (w:World) (K:YT):st157 33 (Ea33 x18 x19 a20 a21) w K=K (Ea34 x18 x19 a20 a21) w:=by kernel_rfl
theorem ta34 (x18 x19:Int) (a20 a21:Addr) (w:World) (K:YT):st157 34 (Ea34 x18 x19 a20 a21) w K=LdA 4 (a21.add 11) w (fun cs=>K (((Ea34 x18 x19 a20 a21).put (some 63) (.bool true)).put (some 65) (.agg cs)) w):=by kernel_rfl
theorem ta35 (x18 x19:Int) (a20 a21:Addr) (w:World) (K:YT):st157 35 (Ea35 x18 x19 a20 a21) w K=(∃ cs:Array Value,(∀ wq,(Instr.build 117 ([]:List (Nat × Value)).toArray).run P wq=.ok (.agg cs) wq)∧K (((Ea35 x18 x19 a20 a21).put (some 63) (.bool true)).put (some 66) (.agg cs)) w):=by kernel_rfl
theorem ta36 (x18 x19:Int) (a20 a21:Addr) (w:World) (K:YT):st157 36 (Ea36 x18 x19 a20 a21) w K=(∃ b:Bool,(∀ wq,(do eqGuard .neq 117 (.tmp 65) (.tmp 66) (.agg #[U 0,U 0,U 0,U 0]) (.agg #[U 0,U 0,U 0,U 0]); binOp .neq 117 (.agg #[U 0,U 0,U 0,U 0]) (.agg #[U 0,U 0,U 0,U 0]):Sem Value).run P wq=.ok (.bool b) wq)∧K (((Ea36 x18 x19 a20 a21).put (some 63) (.bool true)).put (some 67) (.bool b)) w):=by kernel_rfl
theorem ta37 (x18 x19:Int) (a20 a21:Addr) (w:World) (K:YT):st157 37 (Ea37 x18 x19 a20 a21) w K=K (Ea38 x18 x19 a20 a21) w:=by kernel_rfl
theorem ta38 (x18 x19:Int) (a20 a21:Addr) (w:World) (K:YT):st157 38 (Ea38 x18 x19 a20 a21) w K=K (Ea39 x18 x19 a20 a21) w:=by kernel_rfl
theorem qa1 (x18 x19:Int) (a20 a21:Addr):(Ea1 x18 x19 a20 a21).put (some 32) (.bool false)=Ea2 x18 x19 a20 a21:=by kernel_rfl
theorem qa5 (x18 x19:Int) (a20 a21:Addr):((Ea5 x18 x19 a20 a21).put (some 34) (.bool true)).put (some 36) (.int .i64 0)=Ea6 x18 x19 a20 a21:=by kernel_rfl
theorem qa10 (x18 x19:Int) (a20 a21:Addr):((Ea10 x18 x19 a20 a21).put (some 39) (.bool false)).put (some 41) (.bool true)=Ea11 x18 x19 a20 a21:=by kernel_rfl
theorem qa20 (x18 x19:Int) (a20 a21:Addr):((Ea20 x18 x19 a20 a21).put (some 49) (.bool false)).put (some 51) (.bool false)=Ea21 x18 x19 a20 a21:=by kernel_rfl
theorem qa24 (x18 x19:Int) (a20 a21:Addr):((Ea24 x18 x19 a20 a21).put (some 53) (.bool true)).put (some 55) (.int .u32 0)=Ea25 x18 x19 a20 a21:=by kernel_rfl
theorem qa30 (x18 x19:Int) (a20 a21:Addr):((Ea30 x18 x19 a20 a21).put (some 59) (.bool false)).put (some 61) (.bool false)=Ea31 x18 x19 a20 a21:=by kernel_rfl
theorem qa34 (x18 x19:Int) (a20 a21:Addr):((Ea34 x18 x19 a20 a21).put (some 63) (.bool true)).put (some 65) (.agg #[U 0,U 0,U 0,U 0])=Ea35 x18 x19 a20 a21:=by kernel_rfl
theorem qa35 (x18 x19:Int) (a20 a21:Addr):((Ea35 x18 x19 a20 a21).put (some 63) (.bool true)).put (some 66) (.agg #[U 0,U 0,U 0,U 0])=Ea36 x18 x19 a20 a21:=by kernel_rfl
theorem qa36 (x18 x19:Int) (a20 a21:Addr):((Ea36 x18 x19 a20 a21).put (some 63) (.bool true)).put (some 67) (.bool false)=Ea37 x18 x19 a20 a21:=by kernel_rfl
theorem waya (x18 x19:Int) (a20 a21:Addr) (w:World) (K:YT) (c32:w.cell? (a20.add 1)=some (.bool false)) (c36:w.cell? (a21.add 2)=some (.int .i64 0)) (c41:w.cell? (a20.add 8)=some (.bool true)) (c51:w.cell? (a20.add 9)=some (.bool false)) (c55:w.cell? (a21.add 10)=some (.int .u32 0)) (c61:w.cell? (a20.add 10)=some (.bool false)) (cV:∀ K:Array Value→Prop,K #[U 0,U 0,U 0,U 0]→LdA 4 (a21.add 11) w K) (hK:K (Ea39 x18 x19 a20 a21) w):sq157 0 (e157 x18 x19 a20 a21) w K:=by
 refine sq_step (i:=0) (j:=1) rfl (by decide) ?_
 rw [ta0]
 refine sq_step (i:=1) (j:=2) rfl (by decide) ?_
 rw [ta1]
 refine ⟨false,c32,?_⟩
 rw [qa1]
 refine sq_step (i:=2) (j:=3) rfl (by decide) ?_
 rw [ta2]
 refine sq_step (i:=3) (j:=4) rfl (by decide) ?_
 rw [ta3]
 refine sq_step (i:=4) (j:=5) rfl (by decide) ?_
 rw [ta4]
 refine sq_step (i:=5) (j:=6) rfl (by decide) ?_
 rw [ta5]
 refine ⟨0,c36,?_⟩
 rw [qa5]
 refine sq_step (i:=6) (j:=7) rfl (by decide) ?_
 rw [ta6]
 refine sq_step (i:=7) (j:=8) rfl (by decide) ?_
 rw [ta7]
 refine sq_step (i:=8) (j:=9) rfl (by decide) ?_
 rw [ta8]
 refine sq_step (i:=9) (j:=10) rfl (by decide) ?_
 rw [ta9]
 refine sq_step (i:=10) (j:=11) rfl (by decide) ?_
 rw [ta10]
 refine ⟨true,c41,?_⟩
 rw [qa10]
 refine sq_step (i:=11) (j:=12) rfl (by decide) ?_
 rw [ta11]
 refine sq_step (i:=12) (j:=13) rfl (by decide) ?_
 rw [ta12]
 refine sq_step (i:=13) (j:=14) rfl (by decide) ?_
 rw [ta13]
 refine sq_step (i:=14) (j:=15) rfl (by decide) ?_
 rw [ta14]
 refine sq_step (i:=15) (j:=16) rfl (by decide) ?_
 rw [ta15]
 refine sq_step (i:=16) (j:=17) rfl (by decide) ?_
 rw [ta16]
 refine sq_step (i:=17) (j:=18) rfl (by decide) ?_
 rw [ta17]
 refine sq_step (i:=18) (j:=19) rfl (by decide) ?_
 rw [ta18]
 refine sq_step (i:=19) (j:=20) rfl (by decide) ?_
 rw [ta19]
 refine sq_step (i:=20) (j:=21) rfl (by decide) ?_
 rw [ta20]
 refine ⟨false,c51,?_⟩
 rw [qa20]
 refine sq_step (i:=21) (j:=22) rfl (by decide) ?_
 rw [ta21]
 refine sq_step (i:=22) (j:=23) rfl (by decide) ?_
 rw [ta22]
 refine sq_step (i:=23) (j:=24) rfl (by decide) ?_
 rw [ta23]
 refine sq_step (i:=24) (j:=25) rfl (by decide) ?_
 rw [ta24]
 refine ⟨0,c55,?_⟩
 rw [qa24]
 refine sq_step (i:=25) (j:=26) rfl (by decide) ?_
 rw [ta25]
 refine sq_step (i:=26) (j:=27) rfl (by decide) ?_
 rw [ta26]
 refine sq_step (i:=27) (j:=28) rfl (by decide) ?_
 rw [ta27]
 refine sq_step (i:=28) (j:=29) rfl (by decide) ?_
 rw [ta28]
 refine sq_step (i:=29) (j:=30) rfl (by decide) ?_
 rw [ta29]
 refine sq_step (i:=30) (j:=31) rfl (by decide) ?_
 rw [ta30]
 refine ⟨false,c61,?_⟩
 rw [qa30]
 refine sq_step (i:=31) (j:=32) rfl (by decide) ?_
 rw [ta31]
 refine sq_step (i:=32) (j:=33) rfl (by decide) ?_
 rw [ta32]
 refine sq_step (i:=33) (j:=34) rfl (by decide) ?_
 rw [ta33]
 refine sq_step (i:=34) (j:=35) rfl (by decide) ?_
 rw [ta34]
 refine cV _ ?_
 rw [qa34]
 refine sq_step (i:=35) (j:=36) rfl (by decide) ?_
 rw [ta35]
 refine ⟨_,bzero117,?_⟩
 rw [qa35]
 refine sq_step (i:=36) (j:=37) rfl (by decide) ?_
 rw [ta36]
 refine ⟨false,eq117_zero,?_⟩
 rw [qa36]
 refine sq_step (i:=37) (j:=38) rfl (by decide) ?_
 rw [ta37]
 refine sq_step (i:=38) (j:=39) rfl (by decide) ?_
 rw [ta38]
 exact sq_end hK
theorem enda (x18 x19:Int) (a20 a21:Addr) (w:World) (K:KT):f157_k6 K .normal (Ea39 x18 x19 a20 a21) w=f157_s2 false x18 x19 a20 a21 w K:=by kernel_rfl
@[irreducible] def Eb1 (x18 x19:Int) (a20 a21:Addr):Env:=((e157 x18 x19 a20 a21).put (some 31) (.pointer (some (a20.add 1))))
@[irreducible] def Eb2 (x18 x19:Int) (a20 a21:Addr):Env:=((Eb1 x18 x19 a20 a21).put (some 32) (.bool false))
@[irreducible] def Eb3 (x18 x19:Int) (a20 a21:Addr):Env:=((Eb2 x18 x19 a20 a21).put (some 33) (.bool true))
@[irreducible] def Eb4 (x18 x19:Int) (a20 a21:Addr):Env:=((Eb3 x18 x19 a20 a21).put (some 34) (.bool true))
@[irreducible] def Eb5 (x18 x19:Int) (a20 a21:Addr):Env:=(((Eb4 x18 x19 a20 a21).put (some 34) (.bool true)).put (some 35) (.pointer (some (a21.add 2))))
@[irreducible] def Eb6 (x18 x19:Int) (a20 a21:Addr):Env:=(((Eb5 x18 x19 a20 a21).put (some 34) (.bool true)).put (some 36) (.int .i64 0))
@[irreducible] def Eb7 (x18 x19:Int) (a20 a21:Addr):Env:=(((Eb6 x18 x19 a20 a21).put (some 34) (.bool true)).put (some 37) (.bool false))
@[irreducible] def Eb8 (x18 x19:Int) (a20 a21:Addr):Env:=((Eb7 x18 x19 a20 a21).put (some 38) (.bool false))
@[irreducible] def Eb9 (x18 x19:Int) (a20 a21:Addr):Env:=((Eb8 x18 x19 a20 a21).put (some 39) (.bool false))
@[irreducible] def Eb10 (x18 x19:Int) (a20 a21:Addr):Env:=(((Eb9 x18 x19 a20 a21).put (some 39) (.bool false)).put (some 40) (.pointer (some (a20.add 8))))
@[irreducible] def Eb11 (x18 x19:Int) (a20 a21:Addr):Env:=(((Eb10 x18 x19 a20 a21).put (some 39) (.bool false)).put (some 41) (.bool true))
@[irreducible] def Eb12 (x18 x19:Int) (a20 a21:Addr):Env:=(((Eb11 x18 x19 a20 a21).put (some 39) (.bool false)).put (some 42) (.bool false))
@[irreducible] def Eb13 (x18 x19:Int) (a20 a21:Addr):Env:=(((Eb12 x18 x19 a20 a21).put (some 39) (.bool false)).put (some 43) (.bool false))
@[irreducible] def Eb14 (x18 x19:Int) (a20 a21:Addr):Env:=(((Eb13 x18 x19 a20 a21).put (some 43) (.bool false)).put (some 44) undef)
@[irreducible] def Eb15 (x18 x19:Int) (a20 a21:Addr):Env:=(((Eb14 x18 x19 a20 a21).put (some 43) (.bool false)).put (some 45) undef)
@[irreducible] def Eb16 (x18 x19:Int) (a20 a21:Addr):Env:=(((Eb15 x18 x19 a20 a21).put (some 43) (.bool false)).put (some 46) undef)
@[irreducible] def Eb17 (x18 x19:Int) (a20 a21:Addr):Env:=(((Eb16 x18 x19 a20 a21).put (some 39) (.bool false)).put (some 47) (.bool false))
@[irreducible] def Eb18 (x18 x19:Int) (a20 a21:Addr):Env:=((Eb17 x18 x19 a20 a21).put (some 48) (.bool false))
@[irreducible] def Eb19 (x18 x19:Int) (a20 a21:Addr):Env:=((Eb18 x18 x19 a20 a21).put (some 49) (.bool false))
@[irreducible] def Eb20 (x18 x19:Int) (a20 a21:Addr):Env:=(((Eb19 x18 x19 a20 a21).put (some 49) (.bool false)).put (some 50) (.pointer (some (a20.add 9))))
@[irreducible] def Eb21 (x18 x19:Int) (a20 a21:Addr):Env:=(((Eb20 x18 x19 a20 a21).put (some 49) (.bool false)).put (some 51) (.bool true))
@[irreducible] def Eb22 (x18 x19:Int) (a20 a21:Addr):Env:=(((Eb21 x18 x19 a20 a21).put (some 49) (.bool false)).put (some 52) (.bool false))
@[irreducible] def Eb23 (x18 x19:Int) (a20 a21:Addr):Env:=(((Eb22 x18 x19 a20 a21).put (some 49) (.bool false)).put (some 53) (.bool false))
@[irreducible] def Eb24 (x18 x19:Int) (a20 a21:Addr):Env:=(((Eb23 x18 x19 a20 a21).put (some 53) (.bool false)).put (some 54) undef)
@[irreducible] def Eb25 (x18 x19:Int) (a20 a21:Addr):Env:=(((Eb24 x18 x19 a20 a21).put (some 53) (.bool false)).put (some 55) undef)
@[irreducible] def Eb26 (x18 x19:Int) (a20 a21:Addr):Env:=(((Eb25 x18 x19 a20 a21).put (some 53) (.bool false)).put (some 56) undef)
@[irreducible] def Eb27 (x18 x19:Int) (a20 a21:Addr):Env:=(((Eb26 x18 x19 a20 a21).put (some 49) (.bool false)).put (some 57) (.bool false))
@[irreducible] def Eb28 (x18 x19:Int) (a20 a21:Addr):Env:=((Eb27 x18 x19 a20 a21).put (some 58) (.bool false))
@[irreducible] def Eb29 (x18 x19:Int) (a20 a21:Addr):Env:=((Eb28 x18 x19 a20 a21).put (some 59) (.bool false))
@[irreducible] def Eb30 (x18 x19:Int) (a20 a21:Addr):Env:=(((Eb29 x18 x19 a20 a21).put (some 59) (.bool false)).put (some 60) (.pointer (some (a20.add 10))))
@[irreducible] def Eb31 (x18 x19:Int) (a20 a21:Addr):Env:=(((Eb30 x18 x19 a20 a21).put (some 59) (.bool false)).put (some 61) (.bool false))
@[irreducible] def Eb32 (x18 x19:Int) (a20 a21:Addr):Env:=(((Eb31 x18 x19 a20 a21).put (some 59) (.bool false)).put (some 62) (.bool true))
@[irreducible] def Eb33 (x18 x19:Int) (a20 a21:Addr):Env:=(((Eb32 x18 x19 a20 a21).put (some 59) (.bool false)).put (some 63) (.bool true))
@[irreducible] def Eb34 (x18 x19:Int) (a20 a21:Addr):Env:=(((Eb33 x18 x19 a20 a21).put (some 63) (.bool true)).put (some 64) (.pointer (some (a21.add 11))))
@[irreducible] def Eb35 (x18 x19:Int) (a20 a21:Addr):Env:=(((Eb34 x18 x19 a20 a21).put (some 63) (.bool true)).put (some 65) (.agg #[U 0,U 0,U 0,U 0]))
@[irreducible] def Eb36 (x18 x19:Int) (a20 a21:Addr):Env:=(((Eb35 x18 x19 a20 a21).put (some 63) (.bool true)).put (some 66) (.agg #[U 0,U 0,U 0,U 0]))
@[irreducible] def Eb37 (x18 x19:Int) (a20 a21:Addr):Env:=(((Eb36 x18 x19 a20 a21).put (some 63) (.bool true)).put (some 67) (.bool false))
@[irreducible] def Eb38 (x18 x19:Int) (a20 a21:Addr):Env:=(((Eb37 x18 x19 a20 a21).put (some 59) (.bool false)).put (some 68) (.bool false))
@[irreducible] def Eb39 (x18 x19:Int) (a20 a21:Addr):Env:=((Eb38 x18 x19 a20 a21).put (some 69) (.bool false))
theorem tb0 (x18 x19:Int) (a20 a21:Addr) (w:World) (K:YT):st157 0 (e157 x18 x19 a20 a21) w K=K (Eb1 x18 x19 a20 a21) w:=by kernel_rfl
theorem tb1 (x18 x19:Int) (a20 a21:Addr) (w:World) (K:YT):st157 1 (Eb1 x18 x19 a20 a21) w K=(∃ b:Bool,w.cell? (a20.add 1)=some (.bool b)∧K ((Eb1 x18 x19 a20 a21).put (some 32) (.bool b)) w):=by kernel_rfl
theorem tb2 (x18 x19:Int) (a20 a21:Addr) (w:World) (K:YT):st157 2 (Eb2 x18 x19 a20 a21) w K=K (Eb3 x18 x19 a20 a21) w:=by kernel_rfl
theorem tb3 (x18 x19:Int) (a20 a21:Addr) (w:World) (K:YT):st157 3 (Eb3 x18 x19 a20 a21) w K=K (Eb4 x18 x19 a20 a21) w:=by kernel_rfl
theorem tb4 (x18 x19:Int) (a20 a21:Addr) (w:World) (K:YT):st157 4 (Eb4 x18 x19 a20 a21) w K=K (Eb5 x18 x19 a20 a21) w:=by kernel_rfl
theorem tb5 (x18 x19:Int) (a20 a21:Addr) (w:World) (K:YT):st157 5 (Eb5 x18 x19 a20 a21) w K=(∃ x:Int,w.cell? (a21.add 2)=some (.int .i64 x)∧K (((Eb5 x18 x19 a20 a21).put (some 34) (.bool true)).put (some 36) (.int .i64 x)) w):=by kernel_rfl
theorem tb6 (x18 x19:Int) (a20 a21:Addr) (w:World) (K:YT):st157 6 (Eb6 x18 x19 a20 a21) w K=K (Eb7 x18 x19 a20 a21) w:=by kernel_rfl
theorem tb7 (x18 x19:Int) (a20 a21:Addr) (w:World) (K:YT):st157 7 (Eb7 x18 x19 a20 a21) w K=K (Eb8 x18 x19 a20 a21) w:=by kernel_rfl
theorem tb8 (x18 x19:Int) (a20 a21:Addr) (w:World) (K:YT):st157 8 (Eb8 x18 x19 a20 a21) w K=K (Eb9 x18 x19 a20 a21) w:=by kernel_rfl
theorem tb9 (x18 x19:Int) (a20 a21:Addr) (w:World) (K:YT):st157 9 (Eb9 x18 x19 a20 a21) w K=K (Eb10 x18 x19 a20 a21) w:=by kernel_rfl
theorem tb10 (x18 x19:Int) (a20 a21:Addr) (w:World) (K:YT):st157 10 (Eb10 x18 x19 a20 a21) w K=(∃ b:Bool,w.cell? (a20.add 8)=some (.bool b)∧K (((Eb10 x18 x19 a20 a21).put (some 39) (.bool false)).put (some 41) (.bool b)) w):=by kernel_rfl
theorem tb11 (x18 x19:Int) (a20 a21:Addr) (w:World) (K:YT):st157 11 (Eb11 x18 x19 a20 a21) w K=K (Eb12 x18 x19 a20 a21) w:=by kernel_rfl
theorem tb12 (x18 x19:Int) (a20 a21:Addr) (w:World) (K:YT):st157 12 (Eb12 x18 x19 a20 a21) w K=K (Eb13 x18 x19 a20 a21) w:=by kernel_rfl
theorem tb13 (x18 x19:Int) (a20 a21:Addr) (w:World) (K:YT):st157 13 (Eb13 x18 x19 a20 a21) w K=K (Eb14 x18 x19 a20 a21) w:=by kernel_rfl
theorem tb14 (x18 x19:Int) (a20 a21:Addr) (w:World) (K:YT):st157 14 (Eb14 x18 x19 a20 a21) w K=K (Eb15 x18 x19 a20 a21) w:=by kernel_rfl
theorem tb15 (x18 x19:Int) (a20 a21:Addr) (w:World) (K:YT):st157 15 (Eb15 x18 x19 a20 a21) w K=K (Eb16 x18 x19 a20 a21) w:=by kernel_rfl
theorem tb16 (x18 x19:Int) (a20 a21:Addr) (w:World) (K:YT):st157 16 (Eb16 x18 x19 a20 a21) w K=K (Eb17 x18 x19 a20 a21) w:=by kernel_rfl
theorem tb17 (x18 x19:Int) (a20 a21:Addr) (w:World) (K:YT):st157 17 (Eb17 x18 x19 a20 a21) w K=K (Eb18 x18 x19 a20 a21) w:=by kernel_rfl
theorem tb18 (x18 x19:Int) (a20 a21:Addr) (w:World) (K:YT):st157 18 (Eb18 x18 x19 a20 a21) w K=K (Eb19 x18 x19 a20 a21) w:=by kernel_rfl
theorem tb19 (x18 x19:Int) (a20 a21:Addr) (w:World) (K:YT):st157 19 (Eb19 x18 x19 a20 a21) w K=K (Eb20 x18 x19 a20 a21) w:=by kernel_rfl
theorem tb20 (x18 x19:Int) (a20 a21:Addr) (w:World) (K:YT):st157 20 (Eb20 x18 x19 a20 a21) w K=(∃ b:Bool,w.cell? (a20.add 9)=some (.bool b)∧K (((Eb20 x18 x19 a20 a21).put (some 49) (.bool false)).put (some 51) (.bool b)) w):=by kernel_rfl
theorem tb21 (x18 x19:Int) (a20 a21:Addr) (w:World) (K:YT):st157 21 (Eb21 x18 x19 a20 a21) w K=K (Eb22 x18 x19 a20 a21) w:=by kernel_rfl
theorem tb22 (x18 x19:Int) (a20 a21:Addr) (w:World) (K:YT):st157 22 (Eb22 x18 x19 a20 a21) w K=K (Eb23 x18 x19 a20 a21) w:=by kernel_rfl
theorem tb23 (x18 x19:Int) (a20 a21:Addr) (w:World) (K:YT):st157 23 (Eb23 x18 x19 a20 a21) w K=K (Eb24 x18 x19 a20 a21) w:=by kernel_rfl
theorem tb24 (x18 x19:Int) (a20 a21:Addr) (w:World) (K:YT):st157 24 (Eb24 x18 x19 a20 a21) w K=K (Eb25 x18 x19 a20 a21) w:=by kernel_rfl
theorem tb25 (x18 x19:Int) (a20 a21:Addr) (w:World) (K:YT):st157 25 (Eb25 x18 x19 a20 a21) w K=K (Eb26 x18 x19 a20 a21) w:=by kernel_rfl
theorem tb26 (x18 x19:Int) (a20 a21:Addr) (w:World) (K:YT):st157 26 (Eb26 x18 x19 a20 a21) w K=K (Eb27 x18 x19 a20 a21) w:=by kernel_rfl
theorem tb27 (x18 x19:Int) (a20 a21:Addr) (w:World) (K:YT):st157 27 (Eb27 x18 x19 a20 a21) w K=K (Eb28 x18 x19 a20 a21) w:=by kernel_rfl
theorem tb28 (x18 x19:Int) (a20 a21:Addr) (w:World) (K:YT):st157 28 (Eb28 x18 x19 a20 a21) w K=K (Eb29 x18 x19 a20 a21) w:=by kernel_rfl
theorem tb29 (x18 x19:Int) (a20 a21:Addr) (w:World) (K:YT):st157 29 (Eb29 x18 x19 a20 a21) w K=K (Eb30 x18 x19 a20 a21) w:=by kernel_rfl
theorem tb30 (x18 x19:Int) (a20 a21:Addr) (w:World) (K:YT):st157 30 (Eb30 x18 x19 a20 a21) w K=(∃ b:Bool,w.cell? (a20.add 10)=some (.bool b)∧K (((Eb30 x18 x19 a20 a21).put (some 59) (.bool false)).put (some 61) (.bool b)) w):=by kernel_rfl
theorem tb31 (x18 x19:Int) (a20 a21:Addr) (w:World) (K:YT):st157 31 (Eb31 x18 x19 a20 a21) w K=K (Eb32 x18 x19 a20 a21) w:=by kernel_rfl
theorem tb32 (x18 x19:Int) (a20 a21:Addr) (w:World) (K:YT):st157 32 (Eb32 x18 x19 a20 a21) w K=K (Eb33 x18 x19 a20 a21) w:=by kernel_rfl
theorem tb33 (x18 x19:Int) (a20 a21:Addr) (w:World) (K:YT):st157 33 (Eb33 x18 x19 a20 a21) w K=K (Eb34 x18 x19 a20 a21) w:=by kernel_rfl
theorem tb34 (x18 x19:Int) (a20 a21:Addr) (w:World) (K:YT):st157 34 (Eb34 x18 x19 a20 a21) w K=LdA 4 (a21.add 11) w (fun cs=>K (((Eb34 x18 x19 a20 a21).put (some 63) (.bool true)).put (some 65) (.agg cs)) w):=by kernel_rfl
theorem tb35 (x18 x19:Int) (a20 a21:Addr) (w:World) (K:YT):st157 35 (Eb35 x18 x19 a20 a21) w K=(∃ cs:Array Value,(∀ wq,(Instr.build 117 ([]:List (Nat × Value)).toArray).run P wq=.ok (.agg cs) wq)∧K (((Eb35 x18 x19 a20 a21).put (some 63) (.bool true)).put (some 66) (.agg cs)) w):=by kernel_rfl
theorem tb36 (x18 x19:Int) (a20 a21:Addr) (w:World) (K:YT):st157 36 (Eb36 x18 x19 a20 a21) w K=(∃ b:Bool,(∀ wq,(do eqGuard .neq 117 (.tmp 65) (.tmp 66) (.agg #[U 0,U 0,U 0,U 0]) (.agg #[U 0,U 0,U 0,U 0]); binOp .neq 117 (.agg #[U 0,U 0,U 0,U 0]) (.agg #[U 0,U 0,U 0,U 0]):Sem Value).run P wq=.ok (.bool b) wq)∧K (((Eb36 x18 x19 a20 a21).put (some 63) (.bool true)).put (some 67) (.bool b)) w):=by kernel_rfl
theorem tb37 (x18 x19:Int) (a20 a21:Addr) (w:World) (K:YT):st157 37 (Eb37 x18 x19 a20 a21) w K=K (Eb38 x18 x19 a20 a21) w:=by kernel_rfl
theorem tb38 (x18 x19:Int) (a20 a21:Addr) (w:World) (K:YT):st157 38 (Eb38 x18 x19 a20 a21) w K=K (Eb39 x18 x19 a20 a21) w:=by kernel_rfl
theorem qb1 (x18 x19:Int) (a20 a21:Addr):(Eb1 x18 x19 a20 a21).put (some 32) (.bool false)=Eb2 x18 x19 a20 a21:=by kernel_rfl
theorem qb5 (x18 x19:Int) (a20 a21:Addr):((Eb5 x18 x19 a20 a21).put (some 34) (.bool true)).put (some 36) (.int .i64 0)=Eb6 x18 x19 a20 a21:=by kernel_rfl
theorem qb10 (x18 x19:Int) (a20 a21:Addr):((Eb10 x18 x19 a20 a21).put (some 39) (.bool false)).put (some 41) (.bool true)=Eb11 x18 x19 a20 a21:=by kernel_rfl
theorem qb20 (x18 x19:Int) (a20 a21:Addr):((Eb20 x18 x19 a20 a21).put (some 49) (.bool false)).put (some 51) (.bool true)=Eb21 x18 x19 a20 a21:=by kernel_rfl
theorem qb30 (x18 x19:Int) (a20 a21:Addr):((Eb30 x18 x19 a20 a21).put (some 59) (.bool false)).put (some 61) (.bool false)=Eb31 x18 x19 a20 a21:=by kernel_rfl
theorem qb34 (x18 x19:Int) (a20 a21:Addr):((Eb34 x18 x19 a20 a21).put (some 63) (.bool true)).put (some 65) (.agg #[U 0,U 0,U 0,U 0])=Eb35 x18 x19 a20 a21:=by kernel_rfl
theorem qb35 (x18 x19:Int) (a20 a21:Addr):((Eb35 x18 x19 a20 a21).put (some 63) (.bool true)).put (some 66) (.agg #[U 0,U 0,U 0,U 0])=Eb36 x18 x19 a20 a21:=by kernel_rfl
theorem qb36 (x18 x19:Int) (a20 a21:Addr):((Eb36 x18 x19 a20 a21).put (some 63) (.bool true)).put (some 67) (.bool false)=Eb37 x18 x19 a20 a21:=by kernel_rfl
theorem wayb (x18 x19:Int) (a20 a21:Addr) (w:World) (K:YT) (c32:w.cell? (a20.add 1)=some (.bool false)) (c36:w.cell? (a21.add 2)=some (.int .i64 0)) (c41:w.cell? (a20.add 8)=some (.bool true)) (c51:w.cell? (a20.add 9)=some (.bool true)) (c61:w.cell? (a20.add 10)=some (.bool false)) (cV:∀ K:Array Value→Prop,K #[U 0,U 0,U 0,U 0]→LdA 4 (a21.add 11) w K) (hK:K (Eb39 x18 x19 a20 a21) w):sq157 0 (e157 x18 x19 a20 a21) w K:=by
 refine sq_step (i:=0) (j:=1) rfl (by decide) ?_
 rw [tb0]
 refine sq_step (i:=1) (j:=2) rfl (by decide) ?_
 rw [tb1]
 refine ⟨false,c32,?_⟩
 rw [qb1]
 refine sq_step (i:=2) (j:=3) rfl (by decide) ?_
 rw [tb2]
 refine sq_step (i:=3) (j:=4) rfl (by decide) ?_
 rw [tb3]
 refine sq_step (i:=4) (j:=5) rfl (by decide) ?_
 rw [tb4]
 refine sq_step (i:=5) (j:=6) rfl (by decide) ?_
 rw [tb5]
 refine ⟨0,c36,?_⟩
 rw [qb5]
 refine sq_step (i:=6) (j:=7) rfl (by decide) ?_
 rw [tb6]
 refine sq_step (i:=7) (j:=8) rfl (by decide) ?_
 rw [tb7]
 refine sq_step (i:=8) (j:=9) rfl (by decide) ?_
 rw [tb8]
 refine sq_step (i:=9) (j:=10) rfl (by decide) ?_
 rw [tb9]
 refine sq_step (i:=10) (j:=11) rfl (by decide) ?_
 rw [tb10]
 refine ⟨true,c41,?_⟩
 rw [qb10]
 refine sq_step (i:=11) (j:=12) rfl (by decide) ?_
 rw [tb11]
 refine sq_step (i:=12) (j:=13) rfl (by decide) ?_
 rw [tb12]
 refine sq_step (i:=13) (j:=14) rfl (by decide) ?_
 rw [tb13]
 refine sq_step (i:=14) (j:=15) rfl (by decide) ?_
 rw [tb14]
 refine sq_step (i:=15) (j:=16) rfl (by decide) ?_
 rw [tb15]
 refine sq_step (i:=16) (j:=17) rfl (by decide) ?_
 rw [tb16]
 refine sq_step (i:=17) (j:=18) rfl (by decide) ?_
 rw [tb17]
 refine sq_step (i:=18) (j:=19) rfl (by decide) ?_
 rw [tb18]
 refine sq_step (i:=19) (j:=20) rfl (by decide) ?_
 rw [tb19]
 refine sq_step (i:=20) (j:=21) rfl (by decide) ?_
 rw [tb20]
 refine ⟨true,c51,?_⟩
 rw [qb20]
 refine sq_step (i:=21) (j:=22) rfl (by decide) ?_
 rw [tb21]
 refine sq_step (i:=22) (j:=23) rfl (by decide) ?_
 rw [tb22]
 refine sq_step (i:=23) (j:=24) rfl (by decide) ?_
 rw [tb23]
 refine sq_step (i:=24) (j:=25) rfl (by decide) ?_
 rw [tb24]
 refine sq_step (i:=25) (j:=26) rfl (by decide) ?_
 rw [tb25]
 refine sq_step (i:=26) (j:=27) rfl (by decide) ?_
 rw [tb26]
 refine sq_step (i:=27) (j:=28) rfl (by decide) ?_
 rw [tb27]
 refine sq_step (i:=28) (j:=29) rfl (by decide) ?_
 rw [tb28]
 refine sq_step (i:=29) (j:=30) rfl (by decide) ?_
 rw [tb29]
 refine sq_step (i:=30) (j:=31) rfl (by decide) ?_
 rw [tb30]
 refine ⟨false,c61,?_⟩
 rw [qb30]
 refine sq_step (i:=31) (j:=32) rfl (by decide) ?_
 rw [tb31]
 refine sq_step (i:=32) (j:=33) rfl (by decide) ?_
 rw [tb32]
 refine sq_step (i:=33) (j:=34) rfl (by decide) ?_
 rw [tb33]
 refine sq_step (i:=34) (j:=35) rfl (by decide) ?_
 rw [tb34]
 refine cV _ ?_
 rw [qb34]
 refine sq_step (i:=35) (j:=36) rfl (by decide) ?_
 rw [tb35]
 refine ⟨_,bzero117,?_⟩
 rw [qb35]
 refine sq_step (i:=36) (j:=37) rfl (by decide) ?_
 rw [tb36]
 refine ⟨false,eq117_zero,?_⟩
 rw [qb36]
 refine sq_step (i:=37) (j:=38) rfl (by decide) ?_
 rw [tb37]
 refine sq_step (i:=38) (j:=39) rfl (by decide) ?_
 rw [tb38]
 exact sq_end hK
theorem endb (x18 x19:Int) (a20 a21:Addr) (w:World) (K:KT):f157_k6 K .normal (Eb39 x18 x19 a20 a21) w=f157_s2 false x18 x19 a20 a21 w K:=by kernel_rfl
theorem CS_region' {P:Program} {c:Code} {i:Nat} {ops:Array Oper} {r:Option Nat} {Lo X:List Nat} {K:Exit→YT} {e:Env} {w:World} (h:c=.region i ops false):CS P c r Lo X K e w=seqS P r ops ops.toList e w (K .normal):=by subst h; rfl
noncomputable def i157:Nat:=match cA c157 60 with
 | .region i _ _=>i
 | _=>0
theorem r157_region:∃ i,cA c157 60=.region i r157 false:=⟨i157,by kernel_rfl⟩
theorem e157_is (x18 x19:Int) (a20 a21:Addr):(Env.mk 104 [(2,(Value.int .i64 x18)),(1,(Value.int .i64 x19)),(7,(Value.pointer (some a20))),(3,(Value.pointer (some a21)))] [])=e157 x18 x19 a20 a21:=by kernel_rfl
theorem s1_way (x18 x19:Int) (a20 a21:Addr) (w:World) (K:KT):f157_s1 x18 x19 a20 a21 w K=sq157 0 (e157 x18 x19 a20 a21) w (f157_k6 K .normal):=by
 have h0:f157_s1 x18 x19 a20 a21 w K=CS P (cA c157 15) none [6] [6] (f157_kb K) (Env.mk 104 [(2,(Value.int .i64 x18)),(1,(Value.int .i64 x19)),(7,(Value.pointer (some a20))),(3,(Value.pointer (some a21)))] []) w:=by delta f157_s1; exact SGe
 have h1:CS P (cA c157 15) none [6] [6] (f157_kb K) (Env.mk 104 [(2,(Value.int .i64 x18)),(1,(Value.int .i64 x19)),(7,(Value.pointer (some a20))),(3,(Value.pointer (some a21)))] []) w=(CS P (cA c157 30) none [2,1,7,3] [6] (f157_k5 K) (Env.mk 104 [(2,(Value.int .i64 x18)),(1,(Value.int .i64 x19)),(7,(Value.pointer (some a20))),(3,(Value.pointer (some a21)))] []) w):=CS_seq' (a:=(cA c157 30)) (b:=(cA c157 31)) (by kernel_rfl) (by kernel_rfl)
 have h2:CS P (cA c157 30) none [2,1,7,3] [6] (f157_k5 K) (Env.mk 104 [(2,(Value.int .i64 x18)),(1,(Value.int .i64 x19)),(7,(Value.pointer (some a20))),(3,(Value.pointer (some a21)))] []) w=(CS P (cA c157 60) none [69,2,1,7,3] [6] (f157_k6 K) (Env.mk 104 [(2,(Value.int .i64 x18)),(1,(Value.int .i64 x19)),(7,(Value.pointer (some a20))),(3,(Value.pointer (some a21)))] []) w):=CS_seq' (a:=(cA c157 60)) (b:=(cA c157 61)) (by kernel_rfl) (by kernel_rfl)
 obtain ⟨i,hi⟩:=r157_region
 have h3:seqS P none r157 r157.toList (Env.mk 104 [(2,(Value.int .i64 x18)),(1,(Value.int .i64 x19)),(7,(Value.pointer (some a20))),(3,(Value.pointer (some a21)))] []) w (f157_k6 K .normal)=sq157 0 (e157 x18 x19 a20 a21) w (f157_k6 K .normal):=by rw [e157_is]; unfold sq157; rw [List.drop_zero]
 exact h0.trans (h1.trans (h2.trans ((CS_region' hi).trans h3)))
end Go.Fx.Tryz
namespace Go.Fx.Tryz
set_option maxRecDepth 100000
open Go Go.Fx Go.Proofs
noncomputable def c15:Code:=bodyOf Tryz.f15
noncomputable def rs15:List ResultVar:=Tryz.f15.results.toList
abbrev f15_kb (K:KT):Exit→YT:=bodyK P rs15 K
def f15 (w:World) (K:KT):Prop:=CS P c15 none [0] [0] (f15_kb K) (env0 202 []) w
abbrev f15_k2 (K:KT):Exit→YT:=kseq P (cA c15 14) (cA c15 15) none [0] [0] (f15_kb K)
def f15_s0 (a:Bool) (b:OA) (w:World) (K:KT):Prop:=SG P (cA c15 29) none [1] [0] (f15_k2 K) (Env.mk 202 [(24,(VB a)),(1,(VP b))] []) w
def f15_s1 (a:OA) (w:World) (K:KT):Prop:=SG P (cA c15 15) none [0] [0] (f15_kb K) (Env.mk 202 [(1,(VP a))] []) w
abbrev f15_k5 (K:KT):Exit→YT:=kseq P (cA c15 30) (cA c15 31) none [0] [0] (f15_kb K)
abbrev f15_k9 (K:KT):Exit→YT:=kseq P (cA c15 510) (cA c15 511) none [0] [0] (f15_kb K)
def f15_s2 (a:Bool) (b:OA) (w:World) (K:KT):Prop:=SG P (cA c15 1021) none [1] [0] (f15_k9 K) (Env.mk 202 [(86,(VB a)),(1,(VP b))] []) w
def f15_s3 (a:OA) (w:World) (K:KT):Prop:=SG P (cA c15 511) none [0] [0] (f15_kb K) (Env.mk 202 [(1,(VP a))] []) w
abbrev f15_k12 (K:KT):Exit→YT:=kseq P (cA c15 1022) (cA c15 1023) none [0] [0] (f15_kb K)
abbrev f15_k16 (K:KT):Exit→YT:=kseq P (cA c15 16382) (cA c15 16383) none [0] [0] (f15_kb K)
def f15_s4 (a:Bool) (b:OA) (w:World) (K:KT):Prop:=SG P (cA c15 32765) none [1] [0] (f15_k16 K) (Env.mk 202 [(133,(VB a)),(1,(VP b))] []) w
def f15_s5 (a:OA) (w:World) (K:KT):Prop:=SG P (cA c15 16383) none [0] [0] (f15_kb K) (Env.mk 202 [(1,(VP a))] []) w
abbrev f15_k19 (K:KT):Exit→YT:=kseq P (cA c15 32766) (cA c15 32767) none [0] [0] (f15_kb K)
abbrev f15_k23 (K:KT):Exit→YT:=kseq P (cA c15 524286) (cA c15 524287) none [0] [0] (f15_kb K)
def f15_s6 (a:Bool) (b:OA) (w:World) (K:KT):Prop:=SG P (cA c15 1048573) none [1] [0] (f15_k23 K) (Env.mk 202 [(176,(VB a)),(1,(VP b))] []) w
def f15_s7 (a:OA) (w:World) (K:KT):Prop:=SG P (cA c15 524287) none [0] [0] (f15_kb K) (Env.mk 202 [(1,(VP a))] []) w
abbrev f15_k26 (K:KT):Exit→YT:=kseq P (cA c15 1048574) (cA c15 1048575) none [0] [0] (f15_kb K)
def f15_s8 (a:Bool) (w:World) (K:KT):Prop:=SG P (cA c15 4194303) none [0] [0] (f15_kb K) (Env.mk 202 [(0,(VB a))] []) w
theorem f15_s8_eq (a:Bool) (w:World) (K:KT):f15_s8 a w K=(K (Value.bool a) w):=Eq.trans SGe (by kernel_rfl)
theorem f15_s7_eq (c:OA) (w:World) (K:KT):f15_s7 c w K=(CallL P 21 [(Value.pointer c),(Value.int .u32 256)] w (fun n o=>∃ p:Int,∃ g:Bool,n=(.tuple [(Value.int .u32 p),(Value.bool g)].toArray)∧CallL P 19 [(Value.int .u32 512)] o (fun q r=>∃ (h:OA) (i j:Nat),q=(.slice h i j)∧CallL P 49 [(Value.int .u32 700),(Value.slice h i j)] r (fun s t=>∃ k:Array Value,s=(.agg k)∧CallL P 18 [(Value.pointer c),(Value.agg k)] t (fun u d=>∃ v:Int,∃ (x:OA) (y z:Nat),∃ l:Int,u=(.tuple [(Value.int .u32 v),(Value.slice x y z),(Value.int .i64 l)].toArray)∧BIf (!g) (BIf ((l:Int) == 5) (CallL P 23 [(Value.pointer c)] d (fun a0 b0=>∃ e:Array Value,a0=(.agg e)∧∃ f:Array Value,(∀ wq,(Instr.build 47 [(0,(Value.int .i64 3)),(1,(Value.int .i64 267)),(3,(Value.int .i64 2)),(4,(Value.int .i64 1))].toArray).run P wq=.ok (.agg f) wq)∧∃ m:Bool,(∀ wq,(do eqGuard .eql 47 (.tmp 198) (.tmp 199) (Value.agg e) (Value.agg f); binOp .eql 47 (Value.agg e) (Value.agg f):Sem Value).run P wq=.ok (.bool m) wq)∧f15_s8 m b0 K)) (f15_s8 false d K)) (f15_s8 false d K)))))):=Eq.trans SGe (Eq.trans (CSs [1,9] (f15_k26 K) (by kernel_rfl)) (by kernel_rfl))
theorem f15_s6_eq (a:Bool) (c:OA) (w:World) (K:KT):f15_s6 a c w K=(BIf a (K (Value.bool false) w) (f15_s7 c w K)):=Eq.trans SGe (by kernel_rfl)
theorem f15_s5_eq (c:OA) (w:World) (K:KT):f15_s5 c w K=(CallL P 50 [(Value.int .u32 512)] w (fun b0 c0=>∃ (g:OA) (h i:Nat),b0=(.slice g h i)∧CallL P 49 [(Value.int .u32 600),(Value.slice g h i)] c0 (fun d0 e0=>∃ j:Array Value,d0=(.agg j)∧CallL P 18 [(Value.pointer c),(Value.agg j)] e0 (fun f0 g0=>∃ h0:Int,∃ (i0:OA) (j0 l0:Nat),∃ m0:Int,f0=(.tuple [(Value.int .u32 h0),(Value.slice i0 j0 l0),(Value.int .i64 m0)].toArray)∧CallL P 19 [(Value.int .u32 512)] g0 (fun n0 o0=>∃ (k:OA) (l m:Nat),n0=(.slice k l m)∧CallL P 49 [(Value.int .u32 700),(Value.slice k l m)] o0 (fun p0 q0=>∃ n:Array Value,p0=(.agg n)∧CallL P 18 [(Value.pointer c),(Value.agg n)] q0 (fun r0 s0=>∃ t0:Int,∃ (u0:OA) (v0 x0:Nat),∃ y0:Int,r0=(.tuple [(Value.int .u32 t0),(Value.slice u0 v0 x0),(Value.int .i64 y0)].toArray)∧CallL P 50 [(Value.int .u32 512)] s0 (fun z0 A0=>∃ (o:OA) (p q:Nat),z0=(.slice o p q)∧CallL P 49 [(Value.int .u32 800),(Value.slice o p q)] A0 (fun B0 C0=>∃ r:Array Value,B0=(.agg r)∧CallL P 18 [(Value.pointer c),(Value.agg r)] C0 (fun D0 E0=>∃ F0:Int,∃ (G0:OA) (H0 I0:Nat),∃ J0:Int,D0=(.tuple [(Value.int .u32 F0),(Value.slice G0 H0 I0),(Value.int .i64 J0)].toArray)∧CallL P 19 [(Value.int .u32 512)] E0 (fun L0 M0=>∃ (s:OA) (t u:Nat),L0=(.slice s t u)∧CallL P 49 [(Value.int .u32 900),(Value.slice s t u)] M0 (fun N0 O0=>∃ v:Array Value,N0=(.agg v)∧CallL P 18 [(Value.pointer c),(Value.agg v)] O0 (fun Q0 d=>∃ x:Int,∃ (f:OA) (e R0:Nat),∃ y:Int,Q0=(.tuple [(Value.int .u32 x),(Value.slice f e R0),(Value.int .i64 y)].toArray)∧BIf ((y:Int) != 0) (f15_s6 true c d K) (BIf ((x:Int) != 6) (f15_s6 true c d K) (BIf ((((e:Nat):Int):Int) != 2) (f15_s6 true c d K) (optS f (fun S0=>0≤(0:Int)∧(0:Int) < (e:Nat)∧∃ z:Int,d.cell? (S0.add (Int.toNat 0 * 1))=some (.int .u32 z)∧BIf ((z:Int) != 1) (f15_s6 true c d K) (optS f (fun T0=>0≤(1:Int)∧(1:Int) < (e:Nat)∧∃ a0:Int,d.cell? (T0.add (Int.toNat 1 * 1))=some (.int .u32 a0)∧f15_s6 ((a0:Int) != 3) c d K))))))))))))))))))):=Eq.trans SGe (Eq.trans (CSs [1] (f15_k19 K) (by kernel_rfl)) (by kernel_rfl))
theorem f15_s4_eq (a:Bool) (c:OA) (w:World) (K:KT):f15_s4 a c w K=(BIf a (K (Value.bool false) w) (f15_s5 c w K)):=Eq.trans SGe (by kernel_rfl)
theorem f15_s3_eq (c:OA) (w:World) (K:KT):f15_s3 c w K=(CallL P 41 [(Value.pointer c),(Value.int .u32 1),(Value.int .i64 8)] w (fun o0 p0=>∃ q0:Bool,∃ u:Int,o0=(.tuple [(Value.bool q0),(Value.int .i64 u)].toArray)∧CallL P 41 [(Value.pointer c),(Value.int .u32 3),(Value.int .i64 7)] p0 (fun r0 s0=>∃ t0:Bool,∃ v:Int,r0=(.tuple [(Value.bool t0),(Value.int .i64 v)].toArray)∧∃ x:Array Value,(∀ wq,(Instr.build 36 [(0,(Value.int .u32 515)),(1,(Value.int .i64 1))].toArray).run P wq=.ok (.agg x) wq)∧CallL P 20 [(Value.pointer c),(Value.agg x)] s0 (fun u0 v0=>∃ (y:OA) (i x0:Nat),u0=(.slice y i x0)∧CallL P 28 [(Value.pointer c),(Value.int .u32 1)] v0 (fun y0 z0=>∃ z:Array Value,∃ a0:Int,y0=(.tuple [(Value.agg z),(Value.int .i64 a0)].toArray)∧NewC (zcells P 41) 41 z0 (fun h A0=>StA 3 (Addr.mk h 0 none) z A0 (fun d=>BIf ((u:Int) != 1) ((f15_s4 true c d.drew K)∧((f15_s4 true c d.drew K)∧(f15_s4 true c d.drew K))) (BIf ((v:Int) != 211) ((f15_s4 true c d.drew K)∧((f15_s4 true c d.drew K)∧(f15_s4 true c d.drew K))) (BIf ((a0:Int) != 0) ((f15_s4 true c d.drew K)∧((f15_s4 true c d.drew K)∧(f15_s4 true c d.drew K))) (BIf ((((i:Nat):Int):Int) != 1) ((f15_s4 true c d.drew K)∧((f15_s4 true c d.drew K)∧(f15_s4 true c d.drew K))) (optS y (fun B0=>0≤(0:Int)∧(0:Int) < (i:Nat)∧∃ b0:Int,d.drew.cell? (B0.add (Int.toNat 0 * 1))=some (.int .u32 b0)∧BIf ((b0:Int) != 2) ((f15_s4 true c d.drew K)∧((f15_s4 true c d.drew K)∧(f15_s4 true c d.drew K))) (∃ (e:OA) (f g:Nat),d.drew.cell? ((Addr.mk h 0 none).add 2)=some (.slice e f g)∧(∃ j:ByteArray,∃ c0:World,(convert 38 9 (Value.slice e f g)).run P d.drew=.ok (.string j) c0∧CallL P 19 [(Value.int .u32 512)] c0 (fun C0 D0=>∃ (d0:OA) (e0 f0:Nat),C0=(.slice d0 e0 f0)∧∃ k:ByteArray,∃ g0:World,(convert 38 9 (Value.slice d0 e0 f0)).run P D0=.ok (.string k) g0∧∃ h0:Bool,(∀ wq,(do eqGuard .neq 9 (.tmp 129) (.tmp 131) (Value.string j) (Value.string k); binOp .neq 9 (Value.string j) (Value.string k):Sem Value).run P wq=.ok (.bool h0) wq)∧f15_s4 h0 c g0 K))∧(CallL P 19 [(Value.int .u32 512)] d.drew (fun E0 l=>∃ (m:OA) (n o:Nat),E0=(.slice m n o)∧l.cell? ((Addr.mk h 0 none).add 2)=some (.slice e f g)∧(∃ p:ByteArray,∃ i0:World,(convert 38 9 (Value.slice e f g)).run P l=.ok (.string p) i0∧∃ q:ByteArray,∃ j0:World,(convert 38 9 (Value.slice m n o)).run P i0=.ok (.string q) j0∧∃ l0:Bool,(∀ wq,(do eqGuard .neq 9 (.tmp 129) (.tmp 131) (Value.string p) (Value.string q); binOp .neq 9 (Value.string p) (Value.string q):Sem Value).run P wq=.ok (.bool l0) wq)∧f15_s4 l0 c j0 K)∧(∃ r:ByteArray,∃ s:World,(convert 38 9 (Value.slice m n o)).run P l=.ok (.string r) s∧s.cell? ((Addr.mk h 0 none).add 2)=some (.slice e f g)∧∃ t:ByteArray,∃ m0:World,(convert 38 9 (Value.slice e f g)).run P s=.ok (.string t) m0∧∃ n0:Bool,(∀ wq,(do eqGuard .neq 9 (.tmp 129) (.tmp 131) (Value.string t) (Value.string r); binOp .neq 9 (Value.string t) (Value.string r):Sem Value).run P wq=.ok (.bool n0) wq)∧f15_s4 n0 c m0 K)))))))))))))))):=Eq.trans SGe (Eq.trans (CSs [1,2] (f15_k12 K) (by kernel_rfl)) (by kernel_rfl))
theorem f15_s2_eq (a:Bool) (c:OA) (w:World) (K:KT):f15_s2 a c w K=(BIf a (K (Value.bool false) w) (f15_s3 c w K)):=Eq.trans SGe (by kernel_rfl)
theorem f15_s1_eq (c:OA) (w:World) (K:KT):f15_s1 c w K=(CallL P 19 [(Value.int .u32 512)] w (fun y z=>∃ (g:OA) (h i:Nat),y=(.slice g h i)∧CallL P 49 [(Value.int .u32 256),(Value.slice g h i)] z (fun a0 b0=>∃ j:Array Value,a0=(.agg j)∧CallL P 18 [(Value.pointer c),(Value.agg j)] b0 (fun c0 d0=>∃ k:Int,∃ (e0:OA) (f0 g0:Nat),∃ l:Int,c0=(.tuple [(Value.int .u32 k),(Value.slice e0 f0 g0),(Value.int .i64 l)].toArray)∧CallL P 19 [(Value.int .u32 256)] d0 (fun h0 i0=>∃ (m:OA) (n o:Nat),h0=(.slice m n o)∧CallL P 49 [(Value.int .u32 512),(Value.slice m n o)] i0 (fun j0 l0=>∃ p:Array Value,j0=(.agg p)∧CallL P 18 [(Value.pointer c),(Value.agg p)] l0 (fun m0 n0=>∃ q:Int,∃ (o0:OA) (p0 q0:Nat),∃ r:Int,m0=(.tuple [(Value.int .u32 q),(Value.slice o0 p0 q0),(Value.int .i64 r)].toArray)∧CallL P 21 [(Value.pointer c),(Value.int .u32 512)] n0 (fun r0 s0=>∃ s:Int,∃ t:Bool,r0=(.tuple [(Value.int .u32 s),(Value.bool t)].toArray)∧CallL P 41 [(Value.pointer c),(Value.int .u32 1),(Value.int .i64 7)] s0 (fun t0 d=>∃ u:Bool,∃ v:Int,t0=(.tuple [(Value.bool u),(Value.int .i64 v)].toArray)∧BIf ((l:Int) != 0) (f15_s2 true c d K) (BIf ((r:Int) != 0) (f15_s2 true c d K) (BIf ((v:Int) != 0) (f15_s2 true c d K) (BIf ((k:Int) != 1) (f15_s2 true c d K) (BIf ((q:Int) != 2) (f15_s2 true c d K) (BIf ((s:Int) != 2) (f15_s2 true c d K) (BIf (!t) (f15_s2 true c d K) (BIf (!u) (f15_s2 true c d K) (CallL P 23 [(Value.pointer c)] d (fun u0 v0=>∃ e:Array Value,u0=(.agg e)∧∃ f:Array Value,(∀ wq,(Instr.build 47 [(0,(Value.int .i64 2)),(1,(Value.int .i64 22)),(2,(Value.int .i64 1))].toArray).run P wq=.ok (.agg f) wq)∧∃ x:Bool,(∀ wq,(do eqGuard .neq 47 (.tmp 83) (.tmp 84) (Value.agg e) (Value.agg f); binOp .neq 47 (Value.agg e) (Value.agg f):Sem Value).run P wq=.ok (.bool x) wq)∧f15_s2 x c v0 K)))))))))))))))))):=Eq.trans SGe (Eq.trans (CSs [1,3,2] (f15_k5 K) (by kernel_rfl)) (by kernel_rfl))
theorem f15_s0_eq (a:Bool) (c:OA) (w:World) (K:KT):f15_s0 a c w K=(BIf a (K (Value.bool false) w) (f15_s1 c w K)):=Eq.trans SGe (by kernel_rfl)
theorem f15_eq (w:World) (K:KT):f15 w K=(∃ b:Array Value,(∀ wq,(Instr.build 27 [(0,(Value.int .i64 2)),(1,(Value.int .i64 256)),(2,(Value.int .i64 16))].toArray).run P wq=.ok (.agg b) wq)∧CallL P 16 [(Value.agg b)] w (fun e c=>∃ a:Option Addr,∃ d:Int,e=(.tuple [(Value.pointer a),(Value.int .i64 d)].toArray)∧BIf ((d:Int) != 0) (f15_s0 true a c K) (f15_s0 a.isNone a c K))):=by kernel_rfl
theorem f15_ok (w:World) (K:KT) (h:f15 w K):CallL P 15 [] w K:=okCS c15 Tryz.func15 (by kernel_rfl) (by kernel_rfl) h
noncomputable def c19:Code:=bodyOf Tryz.f19
noncomputable def rs19:List ResultVar:=Tryz.f19.results.toList
abbrev f19_kb (K:KT):Exit→YT:=bodyK P rs19 K
def f19 (a:Int) (w:World) (K:KT):Prop:=CS P c19 none [2] [2] (f19_kb K) (env0 7 [(Value.int .u32 a)]) w
theorem f19_eq (b:Int) (w:World) (K:KT):f19 b w K=(∃ a:Array Value,(∀ wq,(Instr.build 119 [(0,(Value.int .i64 40)),(8,(Value.int .i64 1)),(9,(Value.int .u32 b))].toArray).run P wq=.ok (.agg a) wq)∧sizesAre 15 [(Value.agg a)]∧NewC (([(Value.agg a)].map fun (v:Value)=>v.cells.toList).flatten.toArray) 119 w (fun f g=>CallL P 64 [(Value.slice (some (Addr.mk f 0 none)) 1 1)] g (fun h i=>∃ (c:OA) (d e:Nat),h=(.slice c d e)∧K (Value.slice c d e) i))):=by kernel_rfl
theorem f19_ok (a:Int) (w:World) (K:KT) (h:f19 a w K):CallL P 19 [(Value.int .u32 a)] w K:=okCS c19 Tryz.func19 (by kernel_rfl) (by kernel_rfl) h
noncomputable def c49:Code:=bodyOf Tryz.f49
noncomputable def rs49:List ResultVar:=Tryz.f49.results.toList
abbrev f49_kb (K:KT):Exit→YT:=bodyK P rs49 K
def f49 (a:Int) (b:OA) (c d:Nat) (w:World) (K:KT):Prop:=CS P c49 none [4] [4] (f49_kb K) (env0 11 [(Value.int .u32 a),(VS b c d)]) w
theorem f49_eq (a:Int) (c:OA) (d e:Nat) (w:World) (K:KT):f49 a c d e w K=(NewC (zcells P 41) 41 w (fun f i=>∃ b:Array Value,(∀ wq,(Instr.build 36 [(0,(Value.int .u32 a)),(1,(Value.int .i64 4))].toArray).run P wq=.ok (.agg b) wq)∧sizesAre 2 [(Value.agg b)]∧NewC (([(Value.agg b)].map fun (v:Value)=>v.cells.toList).flatten.toArray) 36 i (fun j k=>∃ g:Array Value,(∀ wq,(Instr.build 41 [(0,(Value.int .u32 a)),(1,(Value.slice (some (Addr.mk j 0 none)) 1 1)),(2,(Value.slice c d e))].toArray).run P wq=.ok (.agg g) wq)∧StA 3 (Addr.mk f 0 none) g k (fun h=>LdA 3 (Addr.mk f 0 none) h (fun l=>K (Value.agg l) h))))):=by kernel_rfl
theorem f49_ok (a:Int) (b:OA) (c d:Nat) (w:World) (K:KT) (h:f49 a b c d w K):CallL P 49 [(Value.int .u32 a),(Value.slice b c d)] w K:=okCS c49 Tryz.func49 (by kernel_rfl) (by kernel_rfl) h
noncomputable def c50:Code:=bodyOf Tryz.f50
noncomputable def rs50:List ResultVar:=Tryz.f50.results.toList
abbrev f50_kb (K:KT):Exit→YT:=bodyK P rs50 K
def f50 (a:Int) (w:World) (K:KT):Prop:=CS P c50 none [2] [2] (f50_kb K) (env0 20 [(Value.int .u32 a)]) w
abbrev f50_k2 (K:KT):Exit→YT:=kseq P (cA c50 14) (cA c50 15) none [2] [2] (f50_kb K)
abbrev f50_k4 (K:KT):Exit→YT:=kblock 0 (f50_k2 K)
def f50_lp0 (K:KT) (Y0:YT) (e:Env) (w:World):Prop:=Join (fun e w=>CS P (cA c50 116) none [4,3,2,0] [2,0,3] (kloop [4,3,2,0] Y0 (f50_k4 K)) e w) e w
abbrev f50_kl0 (K:KT) (Y0:YT):Exit→YT:=kloop [4,3,2,0] Y0 (f50_k4 K)
def f50_lb0 (a:Int) (b:OA) (c d:Nat) (f:OA) (g h:Nat) (i:Int) (w:World) (K:KT) (Y0:YT):Prop:=SG P (cA c50 116) none [4,3,2,0] [2,0,3] (f50_kl0 K Y0) (Env.mk 20 [(4,(VI a)),(3,(VS b c d)),(2,(VS f g h)),(0,(Value.int .u32 i))] []) w
def f50_s1 (a:OA) (b c:Nat) (d:OA) (f g:Nat) (h i:Int) (w:World) (K:KT) (Y0:YT):Prop:=SG P (cA c50 233) none [4,3,2,0] [2,0,3] (f50_kl0 K Y0) (Env.mk 20 [(3,(VS a b c)),(2,(VS d f g)),(0,(Value.int .u32 h)),(4,(VI i))] []) w
def f50_s2 (a:OA) (b c:Nat) (d:OA) (f g:Nat) (h i:Int) (w:World) (K:KT) (Y0:YT):Prop:=SG P (cA c50 467) none [4,3,2,0] [2,0,3] (f50_kl0 K Y0) (Env.mk 20 [(3,(VS a b c)),(2,(VS d f g)),(0,(Value.int .u32 h)),(4,(VI i))] []) w
theorem f50_s2_eq (a:OA) (b c:Nat) (d:OA) (e f:Nat) (g h:Int) (w:World) (K:KT) (Y0:YT):f50_s2 a b c d e f g h w K Y0=(Y0 (Env.mk 20 [(4,(Value.int .i64 (IntKind.wrap .i64 ((h:Int)+1)))),(3,(Value.slice a b c)),(2,(Value.slice d e f)),(0,(Value.int .u32 g))] []) w):=by kernel_rfl
theorem f50_s1_eq (b:OA) (c d:Nat) (e:OA) (f g:Nat) (h a:Int) (w:World) (K:KT) (Y0:YT):f50_s1 b c d e f g h a w K Y0=(∃ i:Array Value,(∀ wq,(Instr.build 119 [(0,(Value.int .i64 1))].toArray).run P wq=.ok (.agg i) wq)∧optS b (fun j=>0≤(a:Int)∧(a:Int) < (c:Nat)∧StA 15 (j.add (Int.toNat a * 15)) i w (fun k=>f50_s2 b c d e f g h a k K Y0))):=by kernel_rfl
def f50_s3 (a:Int) (b:OA) (c d:Nat) (w:World) (K:KT):Prop:=SG P (cA c50 15) none [2] [2] (f50_kb K) (Env.mk 20 [(0,(Value.int .u32 a)),(3,(VS b c d))] []) w
theorem f50_s3_eq (b:Int) (c:OA) (d e:Nat) (w:World) (K:KT):f50_s3 b c d e w K=(∃ a:Array Value,(∀ wq,(Instr.build 119 [(0,(Value.int .i64 40)),(8,(Value.int .i64 1)),(9,(Value.int .u32 b))].toArray).run P wq=.ok (.agg a) wq)∧sizesAre 15 [(Value.agg a)]∧NewC (([(Value.agg a)].map fun (v:Value)=>v.cells.toList).flatten.toArray) 119 w (fun m n=>∃ (f:OA) (g h:Nat),∃ i:World,(Builtin.append_ #[130,130] 130 [(Value.slice c d e),(Value.slice (some (Addr.mk m 0 none)) 1 1)].toArray).run P n=.ok (.slice f g h) i∧CallL P 64 [(Value.slice f g h)] i (fun o p=>∃ (j:OA) (k l:Nat),o=(.slice j k l)∧K (Value.slice j k l) p))):=by kernel_rfl
theorem f50_lb0_eq (a:Int) (b:OA) (c d:Nat) (f:OA) (g h:Nat) (e:Int) (w:World) (K:KT) (Y0:YT):f50_lb0 a b c d f g h e w K Y0=(BIf (decide ((a:Int) < 39)) (f50_s1 b c d f g h e a w K Y0) (f50_s3 e b c d w K)):=by kernel_rfl
theorem f50_eq (a:Int) (w:World) (K:KT):f50 a w K=(∃ (b:OA) (c d:Nat),∃ e:World,(Instr.makeSlice 130 (Value.int .i64 39) (Value.int .i64 39)).run P w=.ok (.slice b c d) e∧LoopE (f50_lp0 K) (Env.mk 20 [(4,(Value.int .i64 0)),(3,(Value.slice b c d)),(2,(Value.slice none 0 0)),(0,(Value.int .u32 a))] []) e):=by kernel_rfl
theorem f50_ok (a:Int) (w:World) (K:KT) (h:f50 a w K):CallL P 50 [(Value.int .u32 a)] w K:=okCS c50 Tryz.func50 (by kernel_rfl) (by kernel_rfl) h
noncomputable def c64:Code:=bodyOf Tryz.f64
noncomputable def rs64:List ResultVar:=Tryz.f64.results.toList
abbrev f64_kb (K:KT):Exit→YT:=bodyK P rs64 K
def f64 (a:OA) (b c:Nat) (w:World) (K:KT):Prop:=CS P c64 none [2] [2] (f64_kb K) (env0 13 [(VS a b c)]) w
theorem f64_eq (a:OA) (b c:Nat) (w:World) (K:KT):f64 a b c w K=(CallL P 112 [(Value.slice a b c)] w (fun g h=>∃ (d:OA) (e f:Nat),∃ i:Int,∃ j:Int,g=(.tuple [(Value.slice d e f),(Value.int .i64 i),(Value.int .i64 j)].toArray)∧K (Value.slice d e f) h)):=by kernel_rfl
theorem f64_ok (a:OA) (b c:Nat) (w:World) (K:KT) (h:f64 a b c w K):CallL P 64 [(Value.slice a b c)] w K:=okCS c64 Tryz.func64 (by kernel_rfl) (by kernel_rfl) h
noncomputable def c112:Code:=bodyOf Tryz.f112
noncomputable def rs112:List ResultVar:=Tryz.f112.results.toList
abbrev f112_kb (K:KT):Exit→YT:=bodyK P rs112 K
def f112 (a:OA) (b c:Nat) (w:World) (K:KT):Prop:=CS P c112 none [2,3,4] [2,3,4] (f112_kb K) (env0 67 [(VS a b c)]) w
def f112_s0 (a:OA) (b c:Nat) (w:World) (K:KT):Prop:=CS P (cA c112 1) none [2,3,4] [2,3,4] (f112_kb K) (Env.mk 67 [(0,(VS a b c))] []) w
abbrev f112_k0 (K:KT):Exit→YT:=kseq P (cA c112 2) (cA c112 3) none [2,3,4] [2,3,4] (f112_kb K)
def f112_s1 (a b:Int) (c:OA) (d e:Nat) (f:OA) (g h:Nat) (w:World) (K:KT):Prop:=CS P (cA c112 3) none [2,3,4] [2,3,4] (f112_kb K) (Env.mk 67 [(4,(VI a)),(3,(VI b)),(2,(VS c d e)),(0,(VS f g h))] []) w
abbrev f112_k1 (K:KT):Exit→YT:=kseq P (cA c112 6) (cA c112 7) none [2,3,4] [2,3,4] (f112_kb K)
def f112_s2 (a:OA) (b c:Nat) (d e:Int) (f:OA) (g h:Nat) (i:OA) (j k:Nat) (w:World) (K:KT):Prop:=CS P (cA c112 7) none [2,3,4] [2,3,4] (f112_kb K) (Env.mk 67 [(5,(VS a b c)),(4,(VI d)),(3,(VI e)),(2,(VS f g h)),(0,(VS i j k))] []) w
abbrev f112_k2 (K:KT):Exit→YT:=kseq P (cA c112 14) (cA c112 15) none [2,3,4] [2,3,4] (f112_kb K)
abbrev f112_k3 (K:KT):Exit→YT:=kseq P (cA c112 28) (cA c112 29) none [0,5] [2,3,4] (f112_k2 K)
def f112_s3 (a:Int) (b:OA) (c d:Nat) (e f:Int) (g:OA) (h i:Nat) (j:OA) (k l:Nat) (w:World) (K:KT):Prop:=CS P (cA c112 29) none [0,5] [2,3,4] (f112_k2 K) (Env.mk 67 [(6,(VI a)),(5,(VS b c d)),(4,(VI e)),(3,(VI f)),(2,(VS g h i)),(0,(VS j k l))] []) w
abbrev f112_k4 (K:KT):Exit→YT:=kblock 0 (f112_k2 K)
def f112_lp4 (K:KT) (Y4:YT) (e:Env) (w:World):Prop:=Join (fun e w=>CS P (cA c112 116) none [0,5,6,2,3,4] [2,3,4,0,5] (kloop [0,5,6,2,3,4] Y4 (f112_k4 K)) e w) e w
abbrev f112_kl4 (K:KT) (Y4:YT):Exit→YT:=kloop [0,5,6,2,3,4] Y4 (f112_k4 K)
def f112_lb4 (a:OA) (b c:Nat) (d:OA) (f g:Nat) (h:Int) (i:OA) (j k:Nat) (l m:Int) (w:World) (K:KT) (Y4:YT):Prop:=SG P (cA c112 116) none [0,5,6,2,3,4] [2,3,4,0,5] (f112_kl4 K Y4) (Env.mk 67 [(0,(VS a b c)),(5,(VS d f g)),(6,(VI h)),(2,(VS i j k)),(3,(VI l)),(4,(VI m))] []) w
abbrev f112_k5 (K:KT) (Y4:YT):Exit→YT:=kseq P (cA c112 232) (cA c112 233) none [0,5,6,2,3,4] [2,3,4,0,5] (f112_kl4 K Y4)
abbrev f112_k6 (K:KT) (Y4:YT):Exit→YT:=kseq P (cA c112 464) (cA c112 465) none [0,5,6,2,3,4] [2,3,4,0,5] (f112_k5 K Y4)
def f112_s5 (a:OA) (b c:Nat) (d:OA) (f g:Nat) (h:Int) (i:OA) (j k:Nat) (l m:Int) (w:World) (K:KT) (Y4:YT):Prop:=SG P (cA c112 233) none [0,5,6,2,3,4] [2,3,4,0,5] (f112_kl4 K Y4) (Env.mk 67 [(0,(VS a b c)),(5,(VS d f g)),(6,(VI h)),(2,(VS i j k)),(3,(VI l)),(4,(VI m))] []) w
abbrev f112_k7 (K:KT) (Y4:YT):Exit→YT:=kseq P (cA c112 466) (cA c112 467) none [0,5,6,2,3,4] [2,3,4,0,5] (f112_kl4 K Y4)
abbrev f112_k8 (K:KT) (Y4:YT):Exit→YT:=kblock 1 (f112_k7 K Y4)
abbrev f112_k9 (K:KT) (Y4:YT):Exit→YT:=kseq P (cA c112 1864) (cA c112 1865) none [0,5,2,3,4,6] [2,3,4,0,5,6] (f112_k8 K Y4)
abbrev f112_k10 (K:KT) (Y4:YT):Exit→YT:=kseq P (cA c112 3730) (cA c112 3731) none [0,5,2,3,4,6] [2,3,4,0,5,6] (f112_k8 K Y4)
def f112_s6 (a:Bool) (b:OA) (c d:Nat) (f:OA) (g h:Nat) (i:Int) (j:OA) (k l:Nat) (m n:Int) (o:OA) (p q:Nat) (w:World) (K:KT) (Y4:YT):Prop:=SG P (cA c112 7461) none [0,2,3,4,6,7,5] [2,3,4,0,5,6] (f112_k10 K Y4) (Env.mk 67 [(39,(VB a)),(0,(VS b c d)),(5,(VS f g h)),(6,(VI i)),(2,(VS j k l)),(3,(VI m)),(4,(VI n)),(7,(VS o p q))] []) w
def f112_s7 (a:OA) (b c:Nat) (d:OA) (f g:Nat) (h i j:Int) (k:OA) (l m:Nat) (n:OA) (o p:Nat) (w:World) (K:KT) (Y4:YT):Prop:=SG P (cA c112 3731) none [0,5,2,3,4,6] [2,3,4,0,5,6] (f112_k8 K Y4) (Env.mk 67 [(0,(VS a b c)),(2,(VS d f g)),(3,(VI h)),(4,(VI i)),(6,(VI j)),(7,(VS k l m)),(5,(VS n o p))] []) w
abbrev f112_k13 (K:KT) (Y4:YT):Exit→YT:=kseq P (cA c112 7462) (cA c112 7463) none [0,5,2,3,4,6] [2,3,4,0,5,6] (f112_k8 K Y4)
def f112_s8 (a:OA) (b c:Nat) (d:OA) (f g:Nat) (h:OA) (i j:Nat) (k l m:Int) (w:World) (K:KT) (Y4:YT):Prop:=SG P (cA c112 467) none [0,5,6,2,3,4] [2,3,4,0,5] (f112_kl4 K Y4) (Env.mk 67 [(0,(VS a b c)),(5,(VS d f g)),(2,(VS h i j)),(3,(VI k)),(4,(VI l)),(6,(VI m))] []) w
theorem f112_s8_eq (a:OA) (c d:Nat) (e:OA) (f g:Nat) (h:OA) (i j:Nat) (k l m:Int) (w:World) (K:KT) (Y4:YT):f112_s8 a c d e f g h i j k l m w K Y4=(Y4 (Env.mk 67 [(0,(Value.slice a c d)),(5,(Value.slice e f g)),(6,(Value.int .i64 (IntKind.wrap .i64 ((m:Int)+1)))),(2,(Value.slice h i j)),(3,(Value.int .i64 k)),(4,(Value.int .i64 l))] []) w):=Eq.trans SGe (by kernel_rfl)
theorem f112_s7_eq (d:OA) (e f:Nat) (g:OA) (h i:Nat) (j k l:Int) (o:OA) (p q:Nat) (m:OA) (c n:Nat) (w:World) (K:KT) (Y4:YT):f112_s7 d e f g h i j k l o p q m c n w K Y4=(BIf (decide ((((c:Nat):Int):Int)≤65536)) (∃ (r:OA) (s t:Nat),∃ u:World,(Builtin.append_ #[38,38] 38 [(Value.slice m c n),(Value.slice o p q)].toArray).run P w=.ok (.slice r s t) u∧f112_s8 d e f r s t g h i j k l u K Y4) (f112_s8 d e f m c n g h i j k l w K Y4)):=Eq.trans SGe (Eq.trans (CSs [43,0,2,3,4,6,7,5] (f112_k13 K Y4) (by kernel_rfl)) (by kernel_rfl))
theorem f112_s6_eq (c:Bool) (d:OA) (e f:Nat) (g:OA) (h i:Nat) (a:Int) (j:OA) (k l:Nat) (m n:Int) (o:OA) (p q:Nat) (w:World) (K:KT) (Y4:YT):f112_s6 c d e f g h i a j k l m n o p q w K Y4=(BIf c (K (Value.tuple [(Value.slice none 0 0),(Value.int .i64 a),(Value.int .i64 170)].toArray) w) (f112_s7 d e f j k l m n a o p q g h i w K Y4)):=Eq.trans SGe (by kernel_rfl)
theorem f112_s5_eq (e:OA) (d f:Nat) (g:OA) (h i:Nat) (c:Int) (j:OA) (k l:Nat) (m n:Int) (w:World) (K:KT) (Y4:YT):f112_s5 e d f g h i c j k l m n w K Y4=(optS e (fun x=>0≤(c:Int)∧(c:Int) < (d:Nat)∧LdA 15 (x.add (Int.toNat c * 15)) w (fun y=>CallL P 73 [(Value.agg y)] w (fun z r=>∃ (o:OA) (p q:Nat),∃ s:Int,z=(.tuple [(Value.slice o p q),(Value.int .i64 s)].toArray)∧BIf ((s:Int) != 0) (f112_s6 true e d f g h i c j k l m n o p q r K Y4) (optS e (fun a0=>0≤(c:Int)∧(c:Int) < (d:Nat)∧∃ t:Int,r.cell? (a0.add (Int.toNat c * 15))=some (.int .i64 t)∧CallL P 117 [(Value.int .i64 t)] r (fun b0 u=>∃ v:Bool,b0=(.bool v)∧BIf v (f112_s6 ((c:Int) != (IntKind.wrap .i64 ((((d:Nat):Int):Int) - 1))) e d f g h i c j k l m n o p q u K Y4) (f112_s6 false e d f g h i c j k l m n o p q u K Y4)))))))):=Eq.trans SGe (Eq.trans (CSs [0,5,2,3,4,6] (f112_k7 K Y4) (by kernel_rfl)) (Eq.trans (CSb 1 [2,3,4,0,5,6] (f112_k8 K Y4) (by kernel_rfl)) (Eq.trans (CSs [0,5,6,2,3,4,7,8] (f112_k9 K Y4) (by kernel_rfl)) (by kernel_rfl))))
def f112_s9 (a:OA) (b c:Nat) (d:OA) (f g:Nat) (w:World) (K:KT):Prop:=SG P (cA c112 15) none [2,3,4] [2,3,4] (f112_kb K) (Env.mk 67 [(0,(VS a b c)),(5,(VS d f g))] []) w
abbrev f112_k14 (K:KT):Exit→YT:=kseq P (cA c112 30) (cA c112 31) none [2,3,4] [2,3,4] (f112_kb K)
abbrev f112_k15 (K:KT):Exit→YT:=kseq P (cA c112 60) (cA c112 61) none [5] [2,3,4] (f112_k14 K)
def f112_s10 (a:Bool) (b:OA) (c d:Nat) (f:OA) (g h:Nat) (w:World) (K:KT):Prop:=SG P (cA c112 61) none [5] [2,3,4] (f112_k14 K) (Env.mk 67 [(60,(VB a)),(0,(VS b c d)),(5,(VS f g h))] []) w
def f112_s11 (a:OA) (b c:Nat) (w:World) (K:KT):Prop:=SG P (cA c112 31) none [2,3,4] [2,3,4] (f112_kb K) (Env.mk 67 [(5,(VS a b c))] []) w
abbrev f112_k17 (K:KT):Exit→YT:=kseq P (cA c112 62) (cA c112 63) none [2,3,4] [2,3,4] (f112_kb K)
abbrev f112_k18 (K:KT):Exit→YT:=kseq P (cA c112 124) (cA c112 125) none [5] [2,3,4] (f112_k17 K)
def f112_s12 (a:OA) (b c:Nat) (w:World) (K:KT):Prop:=SG P (cA c112 63) none [2,3,4] [2,3,4] (f112_kb K) (Env.mk 67 [(5,(VS a b c))] []) w
abbrev f112_k20 (K:KT):Exit→YT:=kseq P (cA c112 126) (cA c112 127) none [2,3,4] [2,3,4] (f112_kb K)
theorem f112_s12_eq (c:OA) (d e:Nat) (w:World) (K:KT):f112_s12 c d e w K=(K (Value.tuple [(Value.slice c d e),(Value.int .i64 0),(Value.int .i64 0)].toArray) w):=Eq.trans SGe (Eq.trans (CSs [2,3,4] (f112_k20 K) (by kernel_rfl)) (by kernel_rfl))
theorem f112_s11_eq (d:OA) (c e:Nat) (w:World) (K:KT):f112_s11 d c e w K=(BIf (decide ((((c:Nat):Int):Int) > 65536)) (K (Value.tuple [(Value.slice none 0 0),(Value.int .i64 0),(Value.int .i64 2)].toArray) w) (f112_s12 d c e w K)):=Eq.trans SGe (Eq.trans (CSs [5] (f112_k17 K) (by kernel_rfl)) (Eq.trans (CSs [65,5] (f112_k18 K) (by kernel_rfl)) (by kernel_rfl)))
theorem f112_s10_eq (a:Bool) (g:OA) (c h:Nat) (d:OA) (e f:Nat) (w:World) (K:KT):f112_s10 a g c h d e f w K=(BIf a (K (Value.tuple [(Value.slice none 0 0),(Value.int .i64 ((c:Nat):Int)),(Value.int .i64 170)].toArray) w) (f112_s11 d e f w K)):=Eq.trans SGe (by kernel_rfl)
theorem f112_s9_eq (d:OA) (c e:Nat) (f:OA) (g h:Nat) (w:World) (K:KT):f112_s9 d c e f g h w K=(BIf ((((c:Nat):Int):Int) == 0) (f112_s10 true d c e f g h w K) (optS d (fun k=>0≤((IntKind.wrap .i64 ((((c:Nat):Int):Int) - 1)):Int)∧((IntKind.wrap .i64 ((((c:Nat):Int):Int) - 1)):Int) < (c:Nat)∧∃ i:Int,w.cell? (k.add (Int.toNat (IntKind.wrap .i64 ((((c:Nat):Int):Int) - 1)) * 15))=some (.int .i64 i)∧CallL P 117 [(Value.int .i64 i)] w (fun l m=>∃ j:Bool,l=(.bool j)∧f112_s10 (!j) d c e f g h m K)))):=Eq.trans SGe (Eq.trans (CSs [5] (f112_k14 K) (by kernel_rfl)) (Eq.trans (CSs [60,0,5] (f112_k15 K) (by kernel_rfl)) (by kernel_rfl)))
theorem f112_lb4_eq (d:OA) (c e:Nat) (f:OA) (g h:Nat) (i:Int) (j:OA) (k l:Nat) (m n:Int) (w:World) (K:KT) (Y4:YT):f112_lb4 d c e f g h i j k l m n w K Y4=(BIf (decide ((i:Int) < ((c:Nat):Int))) (f112_s5 d c e f g h i j k l m n w K Y4) (f112_s9 d c e f g h w K)):=Eq.trans SGe (Eq.trans (CSs [0,5,6,2,3,4] (f112_k5 K Y4) (by kernel_rfl)) (Eq.trans (CSs [12,0,5,6,2,3,4] (f112_k6 K Y4) (by kernel_rfl)) (by kernel_rfl)))
theorem f112_s3_eq (a:Int) (c:OA) (d e:Nat) (f g:Int) (h:OA) (i j:Nat) (k:OA) (l m:Nat) (w:World) (K:KT):f112_s3 a c d e f g h i j k l m w K=(LoopE (f112_lp4 K) (Env.mk 67 [(0,(Value.slice k l m)),(5,(Value.slice c d e)),(6,(Value.int .i64 a)),(2,(Value.slice h i j)),(3,(Value.int .i64 g)),(4,(Value.int .i64 f))] []) w):=Eq.trans (b:=CS P (cA c112 29) none [0,5] [2,3,4] (f112_k2 K) (Env.mk 67 [(6,(VI a)),(5,(VS c d e)),(4,(VI f)),(3,(VI g)),(2,(VS h i j)),(0,(VS k l m))] []) w) (by kernel_rfl) (Eq.trans (CSb 0 [2,3,4,0,5] (f112_k4 K) (by kernel_rfl)) ((CS_loop' (b:=(cA c112 116)) (X':=[2,3,4,0,5]) (H:=[0,5,6,2,3,4]) (by kernel_rfl) (by kernel_rfl) (by kernel_rfl)).trans (by kernel_rfl)))
theorem f112_s2_eq (c:OA) (d e:Nat) (f g:Int) (h:OA) (i j:Nat) (k:OA) (l m:Nat) (w:World) (K:KT):f112_s2 c d e f g h i j k l m w K=(f112_s3 0 c d e f g h i j k l m w K):=Eq.trans (b:=CS P (cA c112 7) none [2,3,4] [2,3,4] (f112_kb K) (Env.mk 67 [(5,(VS c d e)),(4,(VI f)),(3,(VI g)),(2,(VS h i j)),(0,(VS k l m))] []) w) (by kernel_rfl) (Eq.trans (CSs [0,5] (f112_k2 K) (by kernel_rfl)) (Eq.trans (CSs [0,5,6,2,3,4] (f112_k3 K) (by kernel_rfl)) (by kernel_rfl)))
theorem f112_s1_eq (c d:Int) (e:OA) (f g:Nat) (h:OA) (i j:Nat) (w:World) (K:KT):f112_s1 c d e f g h i j w K=(f112_s2 none 0 0 c d e f g h i j w K):=Eq.trans (b:=CS P (cA c112 3) none [2,3,4] [2,3,4] (f112_kb K) (Env.mk 67 [(4,(VI c)),(3,(VI d)),(2,(VS e f g)),(0,(VS h i j))] []) w) (by kernel_rfl) (Eq.trans (CSs [0,5,2,3,4] (f112_k1 K) (by kernel_rfl)) (by kernel_rfl))
theorem f112_s0_eq (c:OA) (d e:Nat) (w:World) (K:KT):f112_s0 c d e w K=(f112_s1 0 0 none 0 0 c d e w K):=Eq.trans (b:=CS P (cA c112 1) none [2,3,4] [2,3,4] (f112_kb K) (Env.mk 67 [(0,(VS c d e))] []) w) (by kernel_rfl) (Eq.trans (CSs [0,2,3,4] (f112_k0 K) (by kernel_rfl)) (by kernel_rfl))
theorem f112_eq (a:OA) (b c:Nat) (w:World) (K:KT):f112 a b c w K=(f112_s0 a b c w K):=by kernel_rfl
theorem f112_ok (a:OA) (b c:Nat) (w:World) (K:KT) (h:f112 a b c w K):CallL P 112 [(Value.slice a b c)] w K:=okCS c112 Tryz.func112 (by kernel_rfl) (by kernel_rfl) h
noncomputable def c73:Code:=bodyOf Tryz.f73
noncomputable def rs73:List ResultVar:=Tryz.f73.results.toList
abbrev f73_kb (K:KT):Exit→YT:=bodyK P rs73 K
def f73 (a:Array Value) (w:World) (K:KT):Prop:=CS P c73 none [2,3] [2,3] (f73_kb K) (env0 110 [(Value.agg a)]) w
def f73_s0 (a:Addr) (w:World) (K:KT):Prop:=SG P (cA c73 7) none [2,3] [2,3] (f73_kb K) (Env.mk 110 [(1,(VP (some a)))] []) w
def f73_s1 (a b:Addr) (c:OA) (d f:Nat) (w:World) (K:KT):Prop:=SG P (cA c73 63) none [2,3] [2,3] (f73_kb K) (Env.mk 110 [(1,(VP (some a))),(4,(VP (some b))),(6,(VS c d f))] []) w
def f73_s2 (a b:Addr) (c:OA) (d f:Nat) (w:World) (K:KT):Prop:=SG P (cA c73 127) none [2,3] [2,3] (f73_kb K) (Env.mk 110 [(1,(VP (some a))),(4,(VP (some b))),(6,(VS c d f))] []) w
def f73_s3 (a b:Addr) (c:OA) (d f:Nat) (w:World) (K:KT):Prop:=SG P (cA c73 255) none [2,3] [2,3] (f73_kb K) (Env.mk 110 [(1,(VP (some a))),(4,(VP (some b))),(6,(VS c d f))] []) w
def f73_s4 (a b:Addr) (c:OA) (d f:Nat) (w:World) (K:KT):Prop:=SG P (cA c73 511) none [2,3] [2,3] (f73_kb K) (Env.mk 110 [(1,(VP (some a))),(4,(VP (some b))),(6,(VS c d f))] []) w
def f73_s5 (a b:Addr) (c:OA) (d f:Nat) (w:World) (K:KT):Prop:=SG P (cA c73 1023) none [2,3] [2,3] (f73_kb K) (Env.mk 110 [(1,(VP (some a))),(4,(VP (some b))),(6,(VS c d f))] []) w
def f73_s6 (a b:Addr) (c:OA) (d f:Nat) (w:World) (K:KT):Prop:=SG P (cA c73 2047) none [2,3] [2,3] (f73_kb K) (Env.mk 110 [(1,(VP (some a))),(4,(VP (some b))),(6,(VS c d f))] []) w
def f73_s7 (a b:Addr) (c:OA) (d f:Nat) (w:World) (K:KT):Prop:=SG P (cA c73 4095) none [2,3] [2,3] (f73_kb K) (Env.mk 110 [(1,(VP (some a))),(4,(VP (some b))),(6,(VS c d f))] []) w
def f73_s8 (a b:Addr) (c:OA) (d f:Nat) (w:World) (K:KT):Prop:=SG P (cA c73 8191) none [2,3] [2,3] (f73_kb K) (Env.mk 110 [(1,(VP (some a))),(4,(VP (some b))),(6,(VS c d f))] []) w
def f73_s9 (a b:Addr) (c:OA) (d f:Nat) (w:World) (K:KT):Prop:=SG P (cA c73 16383) none [2,3] [2,3] (f73_kb K) (Env.mk 110 [(1,(VP (some a))),(4,(VP (some b))),(6,(VS c d f))] []) w
def f73_s10 (a:Addr) (b:OA) (c d:Nat) (f:Addr) (w:World) (K:KT):Prop:=SG P (cA c73 32767) none [2,3] [2,3] (f73_kb K) (Env.mk 110 [(1,(VP (some a))),(6,(VS b c d)),(4,(VP (some f)))] []) w
def f73_s11 (a:OA) (b c:Nat) (w:World) (K:KT):Prop:=SG P (cA c73 65535) none [2,3] [2,3] (f73_kb K) (Env.mk 110 [(6,(VS a b c))] []) w
theorem f73_s11_eq (a:OA) (b c:Nat) (w:World) (K:KT):f73_s11 a b c w K=(K (Value.tuple [(Value.slice a b c),(Value.int .i64 0)].toArray) w):=by kernel_rfl
theorem f73_s10_eq (d:Addr) (a:OA) (b c:Nat) (e:Addr) (w:World) (K:KT):f73_s10 d a b c e w K=(∃ f:Bool,w.cell? (e.add 10)=some (.bool f)∧BIf f (LdA 4 (d.add 11) w (fun n=>CallL P 121 [(Value.agg n)] w (fun o p=>∃ (g:OA) (h i:Nat),o=(.slice g h i)∧∃ (j:OA) (k l:Nat),∃ m:World,(Builtin.append_ #[38,38] 38 [(Value.slice a b c),(Value.slice g h i)].toArray).run P p=.ok (.slice j k l) m∧f73_s11 j k l m K))) (f73_s11 a b c w K)):=by kernel_rfl
theorem f73_s9_eq (a b:Addr) (c:OA) (d e:Nat) (w:World) (K:KT):f73_s9 a b c d e w K=(∃ f:Bool,w.cell? (b.add 9)=some (.bool f)∧BIf f (∃ g:Int,w.cell? (a.add 10)=some (.int .u32 g)∧CallL P 120 [(Value.int .u32 g),(Value.int .i64 4)] w (fun o p=>∃ (h:OA) (i j:Nat),o=(.slice h i j)∧∃ (k:OA) (l m:Nat),∃ n:World,(Builtin.append_ #[38,38] 38 [(Value.slice c d e),(Value.slice h i j)].toArray).run P p=.ok (.slice k l m) n∧f73_s10 a k l m b n K)) (f73_s10 a c d e b w K)):=by kernel_rfl
theorem f73_s8_eq (a b:Addr) (c:OA) (d e:Nat) (w:World) (K:KT):f73_s8 a b c d e w K=(∃ f:Bool,w.cell? (b.add 8)=some (.bool f)∧BIf f (∃ g:Int,w.cell? (a.add 9)=some (.int .u32 g)∧CallL P 120 [(Value.int .u32 g),(Value.int .i64 4)] w (fun o p=>∃ (h:OA) (i j:Nat),o=(.slice h i j)∧∃ (k:OA) (l m:Nat),∃ n:World,(Builtin.append_ #[38,38] 38 [(Value.slice c d e),(Value.slice h i j)].toArray).run P p=.ok (.slice k l m) n∧f73_s9 a b k l m n K)) (f73_s9 a b c d e w K)):=by kernel_rfl
theorem f73_s7_eq (a b:Addr) (c:OA) (d e:Nat) (w:World) (K:KT):f73_s7 a b c d e w K=(∃ f:Bool,w.cell? (b.add 7)=some (.bool f)∧BIf f (∃ g:Int,w.cell? (a.add 8)=some (.int .i64 g)∧CallL P 120 [(Value.int .u32 (IntKind.wrap .u32 g)),(Value.int .i64 2)] w (fun o p=>∃ (h:OA) (i j:Nat),o=(.slice h i j)∧∃ (k:OA) (l m:Nat),∃ n:World,(Builtin.append_ #[38,38] 38 [(Value.slice c d e),(Value.slice h i j)].toArray).run P p=.ok (.slice k l m) n∧f73_s8 a b k l m n K)) (f73_s8 a b c d e w K)):=by kernel_rfl
theorem f73_s6_eq (a b:Addr) (c:OA) (d e:Nat) (w:World) (K:KT):f73_s6 a b c d e w K=(∃ g:Int,w.cell? (b.add 6)=some (.int .i64 g)∧BIf ((g:Int) != 0) (∃ f:Int,w.cell? (a.add 7)=some (.int .i64 f)∧sizesAre 1 [(Value.int .u8 (IntKind.wrap .u8 f))]∧NewC (([(Value.int .u8 (IntKind.wrap .u8 f))].map fun (v:Value)=>v.cells.toList).flatten.toArray) 5 w (fun l m=>∃ (h:OA) (i j:Nat),∃ k:World,(Builtin.append_ #[38,38] 38 [(Value.slice c d e),(Value.slice (some (Addr.mk l 0 none)) 1 1)].toArray).run P m=.ok (.slice h i j) k∧f73_s7 a b h i j k K)) (f73_s7 a b c d e w K)):=by kernel_rfl
theorem f73_s5_eq (a b:Addr) (c:OA) (d e:Nat) (w:World) (K:KT):f73_s5 a b c d e w K=(∃ g:Int,w.cell? (b.add 5)=some (.int .i64 g)∧BIf ((g:Int) != 0) (∃ f:Int,w.cell? (a.add 6)=some (.int .i64 f)∧sizesAre 1 [(Value.int .u8 (IntKind.wrap .u8 f))]∧NewC (([(Value.int .u8 (IntKind.wrap .u8 f))].map fun (v:Value)=>v.cells.toList).flatten.toArray) 5 w (fun l m=>∃ (h:OA) (i j:Nat),∃ k:World,(Builtin.append_ #[38,38] 38 [(Value.slice c d e),(Value.slice (some (Addr.mk l 0 none)) 1 1)].toArray).run P m=.ok (.slice h i j) k∧f73_s6 a b h i j k K)) (f73_s6 a b c d e w K)):=by kernel_rfl
theorem f73_s4_eq (a b:Addr) (c:OA) (d e:Nat) (w:World) (K:KT):f73_s4 a b c d e w K=(∃ g:Int,w.cell? (b.add 4)=some (.int .i64 g)∧BIf ((g:Int) != 0) (∃ f:Int,w.cell? (a.add 5)=some (.int .i64 f)∧sizesAre 1 [(Value.int .u8 (IntKind.wrap .u8 f))]∧NewC (([(Value.int .u8 (IntKind.wrap .u8 f))].map fun (v:Value)=>v.cells.toList).flatten.toArray) 5 w (fun l m=>∃ (h:OA) (i j:Nat),∃ k:World,(Builtin.append_ #[38,38] 38 [(Value.slice c d e),(Value.slice (some (Addr.mk l 0 none)) 1 1)].toArray).run P m=.ok (.slice h i j) k∧f73_s5 a b h i j k K)) (f73_s5 a b c d e w K)):=by kernel_rfl
theorem f73_s3_eq (a b:Addr) (c:OA) (d e:Nat) (w:World) (K:KT):f73_s3 a b c d e w K=(∃ g:Int,w.cell? (b.add 3)=some (.int .i64 g)∧BIf ((g:Int) != 0) (∃ f:Int,w.cell? (a.add 4)=some (.int .i64 f)∧sizesAre 1 [(Value.int .u8 (IntKind.wrap .u8 f))]∧NewC (([(Value.int .u8 (IntKind.wrap .u8 f))].map fun (v:Value)=>v.cells.toList).flatten.toArray) 5 w (fun l m=>∃ (h:OA) (i j:Nat),∃ k:World,(Builtin.append_ #[38,38] 38 [(Value.slice c d e),(Value.slice (some (Addr.mk l 0 none)) 1 1)].toArray).run P m=.ok (.slice h i j) k∧f73_s4 a b h i j k K)) (f73_s4 a b c d e w K)):=by kernel_rfl
theorem f73_s2_eq (a b:Addr) (c:OA) (d e:Nat) (w:World) (K:KT):f73_s2 a b c d e w K=(∃ g:Bool,w.cell? (b.add 2)=some (.bool g)∧BIf g (∃ f:Int,w.cell? (a.add 3)=some (.int .i64 f)∧sizesAre 1 [(Value.int .u8 (IntKind.wrap .u8 f))]∧NewC (([(Value.int .u8 (IntKind.wrap .u8 f))].map fun (v:Value)=>v.cells.toList).flatten.toArray) 5 w (fun l m=>∃ (h:OA) (i j:Nat),∃ k:World,(Builtin.append_ #[38,38] 38 [(Value.slice c d e),(Value.slice (some (Addr.mk l 0 none)) 1 1)].toArray).run P m=.ok (.slice h i j) k∧f73_s3 a b h i j k K)) (f73_s3 a b c d e w K)):=by kernel_rfl
theorem f73_s1_eq (a b:Addr) (c:OA) (d e:Nat) (w:World) (K:KT):f73_s1 a b c d e w K=(∃ g:Bool,w.cell? (b.add 1)=some (.bool g)∧BIf g (∃ f:Int,w.cell? (a.add 2)=some (.int .i64 f)∧sizesAre 1 [(Value.int .u8 (IntKind.wrap .u8 f))]∧NewC (([(Value.int .u8 (IntKind.wrap .u8 f))].map fun (v:Value)=>v.cells.toList).flatten.toArray) 5 w (fun l m=>∃ (h:OA) (i j:Nat),∃ k:World,(Builtin.append_ #[38,38] 38 [(Value.slice c d e),(Value.slice (some (Addr.mk l 0 none)) 1 1)].toArray).run P m=.ok (.slice h i j) k∧f73_s2 a b h i j k K)) (f73_s2 a b c d e w K)):=by kernel_rfl
theorem f73_s0_eq (a:Addr) (w:World) (K:KT):f73_s0 a w K=(∃ f:Int,w.cell? a=some (.int .i64 f)∧CallL P 119 [(Value.int .i64 f)] w (fun o p=>∃ g:Array Value,∃ q:Bool,o=(.tuple [(Value.agg g),(Value.bool q)].toArray)∧NewC (zcells P 172) 172 p (fun b r=>StA 11 (Addr.mk b 0 none) g r (fun h=>∃ d:Int,h.cell? a=some (.int .i64 d)∧sizesAre 1 [(Value.int .u8 (IntKind.wrap .u8 d))]∧NewC (([(Value.int .u8 (IntKind.wrap .u8 d))].map fun (v:Value)=>v.cells.toList).flatten.toArray) 5 h (fun i c=>∃ j:Bool,c.cell? (Addr.mk b 0 none)=some (.bool j)∧BIf j (∃ e:Int,c.cell? (a.add 1)=some (.int .i64 e)∧sizesAre 1 [(Value.int .u8 (IntKind.wrap .u8 e))]∧NewC (([(Value.int .u8 (IntKind.wrap .u8 e))].map fun (v:Value)=>v.cells.toList).flatten.toArray) 5 c (fun s t=>∃ (k:OA) (l m:Nat),∃ n:World,(Builtin.append_ #[38,38] 38 [(Value.slice (some (Addr.mk i 0 none)) 1 1),(Value.slice (some (Addr.mk s 0 none)) 1 1)].toArray).run P t=.ok (.slice k l m) n∧f73_s1 a (Addr.mk b 0 none) k l m n K)) (f73_s1 a (Addr.mk b 0 none) (some (Addr.mk i 0 none)) 1 1 c K)))))):=by kernel_rfl
theorem f73_eq (a:Array Value) (w:World) (K:KT):f73 a w K=(NewC a 119 w (fun b c=>LdA 15 (Addr.mk b 0 none) c (fun f=>CallL P 118 [(Value.agg f)] c (fun g d=>∃ e:Bool,g=(.bool e)∧BIf (!e) (K (Value.tuple [(Value.slice none 0 0),(Value.int .i64 170)].toArray) d) (f73_s0 (Addr.mk b 0 none) d K))))):=by kernel_rfl
theorem f73_ok (a:Array Value) (w:World) (K:KT) (h:f73 a w K):CallL P 73 [(Value.agg a)] w K:=okCS c73 Tryz.func73 (by kernel_rfl) (by kernel_rfl) h
end Go.Fx.Tryz
namespace Go.Fx.Tryz
open Go Go.Fx Go.Fx.Ch
open Go.Proofs
set_option linter.all false
set_option maxRecDepth 20000
variable {w0 w:World} {H X G:HBL} {K:KT}
def X1:HI:={ op:=1 }
def X2 (at_:Int):HI:={ op:=40,k:=1,i:=at_ }
theorem splice_whole {cs vs:List Value} (h:vs.length=cs.length):splice cs 0 vs=vs:=by
 rw [splice_eq _ _ _ (by omega)]
 simp [h]
def Wcs:Int→List Value
 | 1=>[.bool false,.bool false,.bool false,J 1,J 0,J 0,J 0,.bool false,.bool true,.bool false,.bool false]
 | _=>[.bool false,.bool false,.bool false,J 0,J 0,J 0,J 0,.bool true,.bool true,.bool true,.bool false]
def Is2 (x:HI):Prop:=x=X1∨∃ a,x=X2 a
theorem within190 {x a b:Int} (hK:K (.bool (decide (a≤x) && decide (x≤b))) w):CallL P 190 [J x,J a,J b] w K:=by
 refine f190_ok _ _ _ _ _ ?_
 rw [f190_eq,BIf_iff]
 refine ⟨fun h=>?_,fun h=>?_⟩ <;> rw [f190_s0_eq]
 ·have:decide (a≤x)=true:=h
  rw [this,Bool.true_and] at hK; exact hK
 ·have:decide (a≤x)=false:=h
  rw [this,Bool.false_and] at hK; exact hK
theorem ends117 {x:Int} (hK:K (.bool (x == 40 || x == 41)) w):CallL P 117 [J x] w K:=by
 refine f117_ok _ _ _ ?_
 rw [f117_eq]
 cases h:(x == 40) <;> rw [h] at hK <;> simp only [BIf_true,BIf_false,f117_s0_eq]
 ·exact hK
 ·exact hK
theorem zcells172:zcells P 172=#[.bool false,.bool false,.bool false,J 0,J 0,J 0,J 0,.bool false,.bool false,.bool false,.bool false]:=by kernel_rfl
theorem bform1 (wq:World):(Instr.build 172 [(3,J 1),(8,.bool true)].toArray).run P wq=.ok (.agg (Wcs 1).toArray) wq:=by kernel_rfl
theorem bform40 (wq:World):(Instr.build 172 [(7,.bool true),(8,.bool true),(9,.bool true)].toArray).run P wq=.ok (.agg (Wcs 40).toArray) wq:=by kernel_rfl
theorem Wcs_one (x:Int):∀ v∈(Wcs x).toArray.toList,v.oneCell'=true:=by
 unfold Wcs
 split <;> simp [Value.oneCell']
theorem Wcs_len (x:Int):(Wcs x).length=11:=by unfold Wcs; split <;> rfl
theorem take11 (x:Int):(Wcs x).take 11=Wcs x:=List.take_of_length_le (by rw [Wcs_len]; exact Nat.le_refl _)
theorem forms119 (h:St w0 w H) {op:Int} (ho:op=1∨op=40) (hK:∀ w',St w0 w' H→K (.tuple [.agg (Wcs op).toArray,.bool true].toArray) w'):CallL P 119 [J op] w K:=by
 refine f119_ok _ _ _ ?_
 rw [f119_eq,f119_s0_eq,zcells172]
 refine h.newC fun n2 w3 hn2 h3=>?_
 have out:∀ {w4:World},St w0 w4 ((n2,Cs [.bool false,.bool false,.bool false,J 0,J 0,J 0,J 0,.bool false,.bool false,.bool false,.bool false] 172)::H)→StA 11 (Addr.mk n2 0 none) (Wcs op).toArray w4 (fun w10=>LdA 11 (Addr.mk n2 0 none) w10 (fun cs11=>K (.tuple [.agg cs11,.bool true].toArray) w10)):=fun {w4} h4=>by
  refine h4.stA (k:=0) rfl (by simp [Wcs_len]) (by simp) (Wcs_one op) fun w10 h10=>h10.ldA (k:=0) rfl (by simp [splice_length]) ?_
  have:=hK w10 (h10.tail hn2)
  rw [splice_whole (by simp [Wcs_len])]
  simpa [Wcs_len,take11] using this
 rw [f119_s1_eq]
 rcases ho with rfl | rfl
 ·simp only [f119_s2_eq,Int.reduceBEq,BIf_true,BIf_false]
  exact ⟨_,bform1,out h3⟩
 ·simp only [f119_s2_eq,f119_s3_eq,f119_s4_eq,f119_s5_eq,f119_s6_eq,f119_s7_eq,f119_s8_eq,f119_s9_eq,f119_s10_eq,f119_s11_eq,Int.reduceBEq,BIf_true,BIf_false]
  exact ⟨_,bform40,out h3⟩
theorem HIcs_one' (x:HI):∀ v∈(HIcs x).toArray.toList,v.oneCell'=true:=by simp [HIcs,Value.oneCell']
theorem form180 (h:St w0 w H) {x:HI} (ho:x.op=1∨x.op=40) (hK:∀ w',St w0 w' H→K (.tuple [.agg (Wcs x.op).toArray,.bool true].toArray) w'):CallL P 180 [.agg (HIcs x).toArray] w K:=by
 refine f180_ok _ _ _ ?_
 rw [f180_eq,zcells172]
 refine h.newC fun n1 w2 hn1 h2=>h2.newC fun n3 w4 hn3 h4=>⟨x.op,h4.cell (k:=1) rfl,?_⟩
 refine forms119 h4 ho fun w7 h7=>⟨_,_,rfl,?_⟩
 refine h7.newC fun n10 w11 hn10 h11=>h11.stA (k:=0) rfl (by simp [Wcs_len]) (by simp) (Wcs_one _) fun w12 h12=>⟨x.op,h12.cell (k:=2) rfl,?_⟩
 have hne:(x.op == 34)=false:=by rcases ho with h | h <;> rw [h] <;> decide
 simp only [hne,BIf_false]
 rw [f180_s0_eq,BIf_false,f180_s1_eq]
 rw [splice_whole (by simp [Wcs_len])] at h12
 refine h12.ldA (k:=0) rfl (by simp [Wcs_len]) ?_
 rw [List.drop_zero,List.take_of_length_le (by simp [Wcs_len])]
 refine h12.stA (k:=1) rfl (by simp [Wcs_len]) (by simp) (Wcs_one _) fun w24 h24=>h24.ldA (k:=1) rfl (by simp [splice_length]) ?_
 rw [splice_whole (by simp [Wcs_len])]
 have:=hK w24 (((h24.tail hn10).tail hn3).tail hn1)
 simpa [Wcs_len,take11] using this
theorem subs181 (h:St w0 w H) {x:HI} (ho:x.op=1∨x.op=40) (hs:x.sub=0) (hK:∀ w',St w0 w' H→K (.bool true) w'):CallL P 181 [.agg (HIcs x).toArray] w K:=by
 refine f181_ok _ _ _ ?_
 rw [f181_eq,f181_s0_eq]
 refine h.newC fun n2 w3 hn2 h3=>?_
 rw [f181_s1_eq]
 refine ⟨x.op,h3.cell (k:=0) rfl,?_⟩
 have c1:w3.cell? ((Addr.mk n2 0 none).add 1)=some (J 0):=by rw [add_lit',h3.cell (k:=0) rfl,← hs]; rfl
 have hK:=hK w3 (h3.tail hn2)
 rcases ho with h | h <;> rw [h] <;> simp only [f181_s2_eq,f181_s3_eq,Int.reduceBEq,BIf_true,BIf_false,f181_s9_eq] <;> exact ⟨0,c1,hK⟩
theorem types182 (h:St w0 w H) {x:HI} (ho:x.op=1∨x.op=40) (hs:x.ty=0) (hK:∀ w',St w0 w' H→K (.bool true) w'):CallL P 182 [.agg (HIcs x).toArray] w K:=by
 refine f182_ok _ _ _ ?_
 rw [f182_eq,f182_s0_eq]
 refine h.newC fun n2 w3 hn2 h3=>?_
 rw [f182_s1_eq]
 refine ⟨x.op,h3.cell (k:=0) rfl,?_⟩
 have c1:w3.cell? ((Addr.mk n2 0 none).add 3)=some (J 0):=by rw [add_lit',h3.cell (k:=0) rfl,← hs]; rfl
 have hK:=hK w3 (h3.tail hn2)
 rcases ho with h | h <;> rw [h] <;> simp only [f182_s2_eq,f182_s3_eq,Int.reduceBEq,BIf_true,BIf_false,f182_s4_eq] <;> exact ⟨0,c1,hK⟩
theorem numbers183 (h:St w0 w H) {x:HI} (ho:x.op=1∧x.k=0∨x.op=40∧x.k=1) (hK:∀ w',St w0 w' H→K (.bool true) w'):CallL P 183 [.agg (HIcs x).toArray] w K:=by
 refine f183_ok _ _ _ ?_
 rw [f183_eq,f183_s0_eq]
 refine h.newC fun n2 w3 hn2 h3=>?_
 rw [f183_s1_eq]
 refine ⟨x.op,h3.cell (k:=0) rfl,?_⟩
 have c1:w3.cell? ((Addr.mk n2 0 none).add 8)=some (J x.k):=by rw [add_lit']; exact h3.cell (k:=0) rfl
 have hK:=hK w3 (h3.tail hn2)
 rcases ho with ⟨h,hk⟩ | ⟨h,hk⟩ <;> rw [h] <;> rw [hk] at c1
 ·simp only [f183_s2_eq,f183_s3_eq,f183_s4_eq,f183_s5_eq,f183_s8_eq,f183_s9_eq,f183_s10_eq,Int.reduceBEq,BIf_true,BIf_false,f183_s12_eq]
  exact ⟨0,c1,hK⟩
 ·simp only [f183_s2_eq,f183_s3_eq,f183_s4_eq,f183_s5_eq,f183_s8_eq,f183_s9_eq,f183_s10_eq,Int.reduceBEq,BIf_true,BIf_false,f183_s12_eq]
  refine ⟨1,c1,within190 ⟨_,rfl,?_⟩⟩
  exact hK
theorem register184 {n k a b:Int} (hn:n=0) (hk:k=0∨k=1) (ha:0 < a) (hK:K (.bool true) w):CallL P 184 [J n,J k,J a,J b] w K:=by
 refine f184_ok _ _ _ _ _ _ ?_
 subst hn
 rw [f184_eq]
 rcases hk with rfl | rfl
 ·simp only [Int.reduceBEq,BIf_true]; exact hK
 ·simp only [Int.reduceBEq,BIf_false]
  rw [f184_s0_eq]
  simp only [Int.reduceBEq,BIf_false]
  rw [f184_s2_eq]
  simp only [ge_iff_le,Int.le_refl,decide_true,BIf_true]
  rw [f184_s3_eq,decide_eq_true ha]
  exact hK
theorem is118 (h:St w0 w H) {x:HI} (hx:Is2 x) (hK:∀ w',St w0 w' H→K (.bool true) w'):CallL P 118 [.agg (HIcs x).toArray] w K:=by
 have ho:x.op=1∧x.k=0∨x.op=40∧x.k=1:=by
  rcases hx with rfl | ⟨a,rfl⟩
  ·exact .inl ⟨rfl,rfl⟩
  ·exact .inr ⟨rfl,rfl⟩
 have ho1:x.op=1∨x.op=40:=ho.imp And.left And.left
 have hz:x.sub=0∧x.frm=0∧x.ty=0∧x.d=0∧x.a=0∧x.b=0∧x.c=0∧x.chain=0∧x.v0=0∧x.v1=0∧x.v2=0∧x.v3=0:=by
  rcases hx with rfl | ⟨a,rfl⟩ <;> exact ⟨rfl,rfl,rfl,rfl,rfl,rfl,rfl,rfl,rfl,rfl,rfl,rfl⟩
 obtain ⟨z1,z2,z3,z4,z5,z6,z7,z8,z9,z10,z11,z12⟩:=hz
 refine f118_ok _ _ _ ?_
 rw [f118_eq]
 refine h.newC fun n1 w2 hn1 h2=>?_
 have h2:St w0 w2 ((n1,Cs (HIcs x) 119)::H):=h2
 refine h2.ldA (k:=0) rfl (by simp [HIcs]) ?_
 refine f157_ok _ _ _ _ _ ?_
 rw [f157_eq]
 refine h2.newC fun n3 w4 hn3 h4=>?_
 have h4:St w0 w4 ((n3,Cs (HIcs x) 119)::(n1,Cs (HIcs x) 119)::H):=h4
 refine h4.ldA (k:=0) rfl (by simp [HIcs]) ?_
 refine form180 (x:=x) h4 ho1 fun w7 h7=>⟨_,_,rfl,?_⟩
 rw [zcells172]
 refine h7.newC fun n10 w11 hn10 h11=>h11.stA (k:=0) rfl (by simp [Wcs_len]) (by simp) (Wcs_one _) fun w12 h12=>?_
 rw [splice_whole (by simp [Wcs_len])] at h12
 have h12:St w0 w12 ((n10,Cs (Wcs x.op) 172)::(n3,Cs (HIcs x) 119)::(n1,Cs (HIcs x) 119)::H):=h12
 simp only [Bool.not_true,BIf_false]
 refine h12.ldA (k:=1) rfl (by simp [HIcs]) ?_
 refine subs181 (x:=x) h12 ho1 z1 fun w100 h100=>⟨_,rfl,?_⟩
 simp only [Bool.not_true,BIf_false]
 refine h100.ldA (k:=1) rfl (by simp [HIcs]) ?_
 refine types182 (x:=x) h100 ho1 z3 fun w104 h104=>⟨_,rfl,?_⟩
 simp only [Bool.not_true,BIf_false]
 refine h104.ldA (k:=1) rfl (by simp [HIcs]) ?_
 refine numbers183 (x:=x) h104 ho fun w108 h108=>⟨_,rfl,?_⟩
 rw [Bool.not_true,f157_s0_eq,BIf_false,s1_way]
 have cx:∀ i,w108.cell? ((Addr.mk n3 0 none).add i)=(HIcs x)[i]?:=fun i=>by rw [add_lit',h108.cell (k:=1) rfl,Nat.zero_add]
 have cf:∀ i,w108.cell? ((Addr.mk n10 0 none).add i)=(Wcs x.op)[i]?:=fun i=>by rw [add_lit',h108.cell (k:=0) rfl,Nat.zero_add]
 have cV:∀ K:Array Value→Prop,K #[U 0,U 0,U 0,U 0]→LdA 4 ((Addr.mk n3 0 none).add 11) w108 K:=fun K hK=>by
  rw [add_lit']
  refine h108.ldA (k:=1) rfl (by simp [HIcs]) ?_
  have:((HIcs x).drop (0+11)).take 4=[U 0,U 0,U 0,U 0]:=by simp [HIcs,z9,z10,z11,z12]
  rw [this]; exact hK
 have fin:f157_s2 false 6 12 (Addr.mk n10 0 none) (Addr.mk n3 0 none) w108 (fun r5 w5=>∃ b6:Bool,r5=Value.bool b6∧K (Value.bool b6) w5):=by
  rw [f157_s2_eq,BIf_false,f157_s3_eq]
  have hd:(Wcs x.op)[3]?=some (J 0)∨(Wcs x.op)[3]?=some (J 1):=by rcases ho1 with h | h <;> rw [h] <;> simp [Wcs]
  have hf:(Wcs x.op)[4]?=some (J 0)∧(Wcs x.op)[5]?=some (J 0)∧(Wcs x.op)[6]?=some (J 0):=by rcases ho1 with h | h <;> rw [h] <;> simp [Wcs]
  obtain ⟨k,hk,hc⟩:∃ k:Int,(k=0∨k=1)∧w108.cell? ((Addr.mk n10 0 none).add 3)=some (J k):=by
   rcases hd with hd | hd
   ·exact ⟨0,.inl rfl,by rw [cf]; exact hd⟩
   ·exact ⟨1,.inr rfl,by rw [cf]; exact hd⟩
  refine ⟨x.d,by rw [cx]; rfl,k,hc,register184 z4 hk (by decide) ⟨_,rfl,?_⟩⟩
  simp only [BIf_true]
  refine ⟨x.a,by rw [cx]; rfl,0,by rw [cf]; exact hf.1,register184 z5 (.inl rfl) (by decide) ⟨_,rfl,?_⟩⟩
  simp only [BIf_true]
  refine ⟨x.b,by rw [cx]; rfl,0,by rw [cf]; exact hf.2.1,register184 z6 (.inl rfl) (by decide) ⟨_,rfl,?_⟩⟩
  simp only [BIf_true]
  refine ⟨x.c,by rw [cx]; rfl,0,by rw [cf]; exact hf.2.2,register184 z7 (.inl rfl) (by decide) ⟨_,rfl,?_⟩⟩
  rw [f157_s4_eq]
  exact ⟨_,rfl,hK w108 (((h108.tail hn10).tail hn3).tail hn1)⟩
 rcases ho1 with h1 | h1
 ·refine waya 6 12 (Addr.mk n10 0 none) (Addr.mk n3 0 none) w108 _ ?_ ?_ ?_ ?_ ?_ ?_ cV ?_
  ·rw [cf,h1]; rfl
  ·rw [cx,← z2]; rfl
  ·rw [cf,h1]; rfl
  ·rw [cf,h1]; rfl
  ·rw [cx,← z8]; rfl
  ·rw [cf,h1]; rfl
  ·rw [enda]; exact fin
 ·refine wayb 6 12 (Addr.mk n10 0 none) (Addr.mk n3 0 none) w108 _ ?_ ?_ ?_ ?_ ?_ cV ?_
  ·rw [cf,h1]; rfl
  ·rw [cx,← z2]; rfl
  ·rw [cf,h1]; rfl
  ·rw [cf,h1]; rfl
  ·rw [cf,h1]; rfl
  ·rw [endb]; exact fin
def leN (x:Int) (n:Nat):List Int:=(List.range n).map fun i=>x / 2 ^ (8 * i) % 256
theorem leN_succ (x:Int) (n:Nat):leN x (n+1)=leN x n++[x / 2 ^ (8 * n) % 256]:=by
 unfold leN
 rw [List.range_succ,List.map_append]
 rfl
theorem leN_len (x:Int) (n:Nat):(leN x n).length=n:=by simp [leN]
theorem wrap_u8 (x:Int):IntKind.wrap .u8 x=x % 256:=by simp [IntKind.wrap,IntKind.bits,IntKind.signed]
theorem bytes120_ok {x:Int} (hx:isW x) {n:Nat} (hn:n≤4) (h:St w0 w H) (hK:∀ w' ov L,SlO 1 5 ov n ((leN x n).map B) L→New w0 L→St w0 w' (L++H)→K ov w'):CallL P 120 [U x,J n] w K:=by
 refine f120_ok _ _ _ _ ?_
 rw [f120_eq]
 refine ⟨fun m e w'=>∃ (j:Nat) (a:Option Addr) (c:Nat) (L:HBL),j≤n∧m=n - j∧e=Env.mk 22 [(6,J j),(0,U x),(5,.slice a j c),(4,.slice none 0 0),(1,J n)] []∧SlO 1 5 (.slice a j c) j ((leN x j).map B) L∧New w0 L∧St w0 w' (L++H),⟨_,0,none,0,[],by omega,rfl,rfl,SlO.nil 1 5,New.nil _,h⟩,?_⟩
 rintro m e w' ⟨j,a,c,L,hj,rfl,rfl,hS,hN,hs⟩
 show f120_lb0 ..
 rw [f120_lb0_eq,BIf_iff]
 refine ⟨fun hlt=>?_,fun hge=>?_⟩
 ·have hlt:j < n:=by have:=of_decide_eq_true hlt; omega
  rw [f120_s1_eq]
  have e1:IntKind.wrap .i64 ((8:Int) * (j:Int))=((8 * j:Nat):Int):=by rw [wrap_i64 (by omega) (by omega)]; omega
  have e2:IntKind.wrap .u64 ((8 * j:Nat):Int)=((8 * j:Nat):Int):=wrap_u64 (by omega) (by omega)
  rw [e1,e2,Int.toNat_natCast]
  have e3:min (8 * j) (IntKind.bits .u32)=8 * j:=by
   have:IntKind.bits .u32=32:=rfl
   omega
  rw [e3,wrap_u8,Int.fdiv_eq_ediv_of_nonneg _ (Int.le_of_lt (Int.pow_pos (by decide)))]
  generalize hv:x / 2 ^ (8 * j) % 256=v
  refine ⟨by omega,⟨rfl,trivial⟩,hs.newC fun n15 w13 hn15 h13=>?_⟩
  have h13:St w0 w13 ([(n15,Cs [B (v)] 5)]++(L++H)):=h13
  obtain ⟨g,cap,w17,L',hr,hS',h17,hN'⟩:=St.append (P:=P) 38 38 5 Tryz.t5 (B 0) 1 1 Tryz.underlying38 (by kernel_rfl) rfl rfl rfl rfl (by omega) (A:=[(n15,Cs [B (v)] 5)]) (news:=[B (v)]) h13 hS hN (j:=0) rfl rfl (fun u hu=>by rw [List.mem_singleton.1 hu]; rfl) (by simp [maxLen]; omega) (by omega)
  refine ⟨_,_,_,w17,hr,?_⟩
  rw [f120_s2_eq]
  refine ⟨n - (j+1),by omega,j+1,some ⟨g,0,none⟩,cap,L',by omega,rfl,by rw [wrap_i64 (by omega) (by omega)]; rfl,?_,hN',St.tail (H:=L'++H) h17 hn15⟩
  rw [leN_succ,List.map_append,hv]
  exact hS'
 ·have:j=n:=by have:=of_decide_eq_false hge; omega
  subst this
  rw [f120_s3_eq]
  exact hK w' _ L hS hN hs
theorem enc_num {x:Int} {n:Nat} (hx:isW x) (hn:n≤4) {o:List Int} {a:Option Addr} {c:Nat} {Lo:HBL} {Q:Option Addr→Nat→Nat→World→Prop} (h:St w0 w (Lo++H)) (hS:SlO 1 5 (.slice a o.length c) o.length (o.map B) Lo) (hN:New w0 Lo) (ho:o.length < 1000)
  (hQ:∀ w' a' c' Lo',SlO 1 5 (.slice a' (o++leN x n).length c') (o++leN x n).length ((o++leN x n).map B) Lo'→New w0 Lo'→St w0 w' (Lo'++H)→Q a' (o++leN x n).length c' w') :
  CallL P 120 [U x,J n] w (fun r w1=>∃ (sa:Option Addr) (sl sc:Nat),r=.slice sa sl sc∧∃ (ta:Option Addr) (tl tc:Nat),∃ w2:World,(Builtin.append_ #[38,38] 38 [.slice a o.length c,.slice sa sl sc].toArray).run P w1=.ok (.slice ta tl tc) w2∧Q ta tl tc w2):=by
 refine bytes120_ok hx hn h fun w1 ov M hM hMN h1=>?_
 obtain ⟨sa,sc,e⟩:=hM.form
 subst e
 have h2:St w0 w1 ([]++(Lo++(M++H))):=h1.perm (perm_by fun c=>by simp only [List.nil_append,List.map_append,List.sum_append]; omega)
 obtain ⟨v',w',L',hr,hS',h3,hN'⟩:=St.appendN (P:=P) 38 38 5 Tryz.t5 (B 0) 1 1 Tryz.underlying38 (by kernel_rfl) rfl rfl rfl rfl (by omega) h2 hS hN hM (fun u hu=>h2.has _ _ (List.mem_append_right [] (List.mem_append_right Lo (List.mem_append_left _ hu)))) (one_B _) (by simp [maxLen]; omega) (by omega)
 have hle:(o++leN x n).length=o.length+n:=by rw [List.length_append,leN_len]
 rw [← hle,← List.map_append] at hS'
 obtain ⟨ta,tc,e⟩:=hS'.form
 subst e
 refine ⟨sa,n,sc,rfl,ta,_,tc,w',hr,hQ w' ta tc L' hS' hN' ?_⟩
 have h4:St w0 w' (M++(L'++H)):=St.perm (H:=[]++(L'++(M++H))) h3 (perm_by fun c=>by simp only [List.nil_append,List.map_append,List.sum_append]; omega)
 exact h4.sub hMN
def encF (x:HI):List Int:=if x.op=1 then [1,0]++leN x.i 4 else [40]++leN 1 2++leN x.i 4++leN 0 4
theorem encode73 {x:HI} (hx:Is2 x) (hi:isW x.i) (h:St w0 w H) (hK:∀ w' a c L,SlO 1 5 (.slice a (encF x).length c) (encF x).length ((encF x).map B) L→New w0 L→St w0 w' (L++H)→K (.tuple [.slice a (encF x).length c,J 0].toArray) w'):CallL P 73 [.agg (HIcs x).toArray] w K:=by
 refine f73_ok _ _ _ ?_
 rw [f73_eq]
 refine h.newC fun n1 w2 hn1 h2=>?_
 have h2:St w0 w2 ((n1,Cs (HIcs x) 119)::H):=h2
 refine h2.ldA (k:=0) rfl (by simp [HIcs]) ?_
 refine is118 h2 hx fun w5 h5=>⟨_,rfl,?_⟩
 simp only [Bool.not_true,BIf_false]
 rw [f73_s0_eq]
 have ho1:x.op=1∨x.op=40:=by
  rcases hx with rfl | ⟨a,rfl⟩
  ·exact .inl rfl
  ·exact .inr rfl
 refine ⟨x.op,h5.cell (k:=0) rfl,forms119 h5 ho1 fun w10 h10=>⟨_,_,rfl,?_⟩⟩
 rw [zcells172]
 refine h10.newC fun n13 w14 hn13 h14=>h14.stA (k:=0) rfl (by simp [Wcs_len]) (by simp) (Wcs_one _) fun w15 h15=>?_
 rw [splice_whole (by simp [Wcs_len])] at h15
 have h15:St w0 w15 ((n13,Cs (Wcs x.op) 172)::(n1,Cs (HIcs x) 119)::H):=h15
 refine ⟨x.op,h15.cell (k:=1) rfl,⟨rfl,trivial⟩,h15.newC fun n20 w18 hn20 h18=>?_⟩
 rw [wrap_u8] at h18
 have h18:St w0 w18 ([(n20,Cs [B (x.op % 256)] 5)]++((n13,Cs (Wcs x.op) 172)::(n1,Cs (HIcs x) 119)::H)):=h18
 have hS:SlO 1 5 (.slice (some ⟨n20,0,none⟩) 1 1) 1 ([x.op % 256].map B) [(n20,Cs [B (x.op % 256)] 5)]:=⟨rfl,.inr ⟨n20,1,_,rfl,rfl,Nat.le_refl _,by decide,rfl,rfl⟩⟩
 have hN:New w0 [(n20,Cs [B (x.op % 256)] 5)]:=fun y hy=>by rw [List.mem_singleton.1 hy]; exact hn20
 have cf:∀ {w2:World} {L:HBL} (i:Nat),St w0 w2 (L++((n13,Cs (Wcs x.op) 172)::(n1,Cs (HIcs x) 119)::H))→w2.cell? ((Addr.mk n13 0 none).add i)=(Wcs x.op)[i]?:=fun {w2 L} i h2=>by
  rw [add_lit',cell_of (h2.has _ _ (List.mem_append_right L (.head _))),Nat.zero_add]
 have cx:∀ {w2:World} {L:HBL} (i:Nat),St w0 w2 (L++((n13,Cs (Wcs x.op) 172)::(n1,Cs (HIcs x) 119)::H))→w2.cell? ((Addr.mk n1 0 none).add i)=(HIcs x)[i]?:=fun {w2 L} i h2=>by
  rw [add_lit',cell_of (h2.has _ _ (List.mem_append_right L (.tail _ (.head _)))),Nat.zero_add]
 have fin:∀ {w2:World} {a:Option Addr} {c:Nat} {L:HBL} {o:List Int},o=encF x→SlO 1 5 (.slice a o.length c) o.length (o.map B) L→New w0 L→St w0 w2 (L++((n13,Cs (Wcs x.op) 172)::(n1,Cs (HIcs x) 119)::H))→f73_s10 (Addr.mk n1 0 none) a o.length c (Addr.mk n13 0 none) w2 K:=fun {w2 a c L o} ho hS hN h2=>by
  subst ho
  have hv:(Wcs x.op)[10]?=some (.bool false):=by rcases ho1 with h | h <;> rw [h] <;> rfl
  rw [f73_s10_eq]
  refine ⟨false,by rw [cf 10 h2]; exact hv,?_⟩
  rw [BIf_false,f73_s11_eq]
  have h3:St w0 w2 ((n13,Cs (Wcs x.op) 172)::(n1,Cs (HIcs x) 119)::(L++H)):=h2.perm (perm_by fun c=>by simp only [List.map_append,List.map_cons,List.sum_append,List.sum_cons]; omega)
  exact hK w2 a c L hS hN ((h3.tail hn13).tail hn1)
 have h0:w18.cell? (Addr.mk n13 0 none)=some (.bool false):=by
  have:=cf 0 h18
  rw [add_lit'] at this
  rw [this]
  rcases ho1 with h | h <;> rw [h] <;> rfl
 refine ⟨false,h0,?_⟩
 rw [BIf_false,f73_s1_eq]
 have hf:(Wcs x.op)[1]?=some (.bool false)∧(Wcs x.op)[2]?=some (.bool false)∧(Wcs x.op)[4]?=some (J 0)∧(Wcs x.op)[5]?=some (J 0)∧(Wcs x.op)[6]?=some (J 0)∧(Wcs x.op)[8]?=some (.bool true):=by
  rcases ho1 with h | h <;> rw [h] <;> exact ⟨rfl,rfl,rfl,rfl,rfl,rfl⟩
 refine ⟨false,by rw [cf 1 h18]; exact hf.1,?_⟩
 rw [BIf_false,f73_s2_eq]
 refine ⟨false,by rw [cf 2 h18]; exact hf.2.1,?_⟩
 rw [BIf_false,f73_s3_eq]
 have regs:∀ {w2:World} {a:Option Addr} {n c:Nat} {L:HBL},St w0 w2 (L++((n13,Cs (Wcs x.op) 172)::(n1,Cs (HIcs x) 119)::H))→f73_s7 (Addr.mk n1 0 none) (Addr.mk n13 0 none) a n c w2 K→f73_s4 (Addr.mk n1 0 none) (Addr.mk n13 0 none) a n c w2 K:=fun {w2 a n c L} h2 hk=>by
  rw [f73_s4_eq]
  refine ⟨0,by rw [cf 4 h2]; exact hf.2.2.1,?_⟩
  simp only [show ((0:Int) != 0)=false from rfl,BIf_false]
  rw [f73_s5_eq]
  refine ⟨0,by rw [cf 5 h2]; exact hf.2.2.2.1,?_⟩
  simp only [show ((0:Int) != 0)=false from rfl,BIf_false]
  rw [f73_s6_eq]
  refine ⟨0,by rw [cf 6 h2]; exact hf.2.2.2.2.1,?_⟩
  simp only [show ((0:Int) != 0)=false from rfl,BIf_false]
  exact hk
 rcases hx with rfl | ⟨at_,rfl⟩
 ·-- a set
  refine ⟨1,by rw [cf 3 h18]; rfl,?_⟩
  simp only [show ((1:Int) != 0)=true from rfl,BIf_true]
  refine ⟨0,by rw [cx 4 h18]; rfl,⟨rfl,trivial⟩,h18.newC fun n59 w57 hn59 h57=>?_⟩
  rw [wrap_u8] at h57
  have h57:St w0 w57 ([(n59,Cs [B (0 % 256)] 5)]++([(n20,Cs [B (1 % 256)] 5)]++((n13,Cs (Wcs 1) 172)::(n1,Cs (HIcs X1) 119)::H))):=h57
  obtain ⟨g,cap,w61,L',hr,hS',h61,hN'⟩:=St.append (P:=P) 38 38 5 Tryz.t5 (B 0) 1 1 Tryz.underlying38 (by kernel_rfl) rfl rfl rfl rfl (by omega) (A:=[(n59,Cs [B (0 % 256)] 5)]) (news:=[B (0 % 256)]) h57 hS hN (j:=0) rfl rfl (fun u hu=>by rw [List.mem_singleton.1 hu]; rfl) (by simp [maxLen]) (by omega)
  refine ⟨_,_,_,w61,hr,?_⟩
  have h62:St w0 w61 (L'++((n13,Cs (Wcs 1) 172)::(n1,Cs (HIcs X1) 119)::H)):=St.tail h61 hn59
  refine regs h62 ?_
  rw [f73_s7_eq]
  refine ⟨false,by rw [cf 7 h62]; rfl,?_⟩
  rw [BIf_false,f73_s8_eq]
  refine ⟨true,by rw [cf 8 h62]; rfl,?_⟩
  rw [BIf_true]
  refine ⟨0,by rw [cx 9 h62]; rfl,?_⟩
  refine enc_num (n:=4) (o:=[1,0]) isW0 (by omega) h62 hS' hN' (by decide) fun w2 a c L hS2 hN2 h2=>?_
  rw [f73_s9_eq]
  refine ⟨false,by rw [cf 9 h2]; rfl,?_⟩
  rw [BIf_false]
  exact fin rfl hS2 hN2 h2
 ·-- an end
  refine ⟨0,by rw [cf 3 h18]; rfl,?_⟩
  simp only [show ((0:Int) != 0)=false from rfl,BIf_false]
  refine regs h18 ?_
  rw [f73_s7_eq]
  refine ⟨true,by rw [cf 7 h18]; rfl,?_⟩
  rw [BIf_true]
  refine ⟨1,by rw [cx 8 h18]; rfl,?_⟩
  rw [wrap_u32 (by decide) (by decide)]
  refine enc_num (n:=2) (o:=[40]) ⟨by decide,by decide⟩ (by omega) h18 hS hN (by decide) fun w2 a c L hS2 hN2 h2=>?_
  rw [f73_s8_eq]
  refine ⟨true,by rw [cf 8 h2]; rfl,?_⟩
  rw [BIf_true]
  refine ⟨at_,by rw [cx 9 h2]; rfl,?_⟩
  refine enc_num (n:=4) (o:=[40]++leN 1 2) hi (by omega) h2 hS2 hN2 (by decide) fun w3 a3 c3 L3 hS3 hN3 h3=>?_
  rw [f73_s9_eq]
  refine ⟨true,by rw [cf 9 h3]; rfl,?_⟩
  rw [BIf_true]
  refine ⟨0,by rw [cx 10 h3]; rfl,?_⟩
  refine enc_num (n:=4) (o:=[40]++leN 1 2++leN at_ 4) isW0 (by omega) h3 hS3 hN3 (by simp [leN_len]) fun w4 a4 c4 L4 hS4 hN4 h4=>?_
  exact fin rfl hS4 hN4 h4
def codeF (l:List HI):List Int:=(l.map encF).flatten
def insns (n:Nat) (at_:Int):List HI:=List.replicate n X1++[X2 at_]
theorem insns_len (n:Nat) (at_:Int):(insns n at_).length=n+1:=by simp [insns]
theorem insns_at {n:Nat} {at_:Int} {i:Nat} (hi:i < (insns n at_).length):(insns n at_)[i]=if i < n then X1 else X2 at_:=by
 simp only [insns,List.getElem_append,List.length_replicate,List.getElem_replicate]
 split
 ·rfl
 ·have:i - n=0:=by rw [insns_len] at hi; omega
  simp [this]
theorem encF_len {x:HI} (hx:Is2 x):(encF x).length≤11:=by
 rcases hx with rfl | ⟨a,rfl⟩ <;> simp [encF,leN_len,X1,X2]
theorem codeF_len {l:List HI} (hx:∀ x∈l,Is2 x):(codeF l).length≤11 * l.length:=by
 induction l with
 | nil=>simp [codeF]
 | cons x r ih=>
  have h1:=ih fun y hy=>hx y (.tail _ hy)
  have h2:=encF_len (hx x (.head _))
  unfold codeF at *
  simp only [List.map_cons,List.flatten_cons,List.length_append,List.length_cons]
  omega
theorem codeF_snoc (l:List HI) (x:HI):codeF (l++[x])=codeF l++encF x:=by simp [codeF]
theorem code112_ok {n:Nat} {at_:Int} {a:Option Addr} {c:Nat} (hn:n≤39) (hat:isW at_) (h:St w0 w H) (hrow:∀ w',St w0 w' H→Row w' 15 (.slice a (insns n at_).length c) (insns n at_).length ((insns n at_).map HIcs).flatten)
  (hK:∀ w' ov L,SlO 1 5 ov (codeF (insns n at_)).length ((codeF (insns n at_)).map B) L→New w0 L→St w0 w' (L++H)→K (.tuple [ov,J 0,J 0].toArray) w'):CallL P 112 [.slice a (insns n at_).length c] w K:=by
 have hlen:=insns_len n at_
 have hat':∀ {i:Nat} (hi:i < (insns n at_).length),(insns n at_)[i]=if i < n then X1 else X2 at_:=insns_at
 generalize insns n at_=l at *
 have hIs:∀ {i:Nat} (hi:i < l.length),Is2 l[i]∧isW l[i].i:=fun {i} hi=>by
  rw [hat' hi]
  split
  ·exact ⟨.inl rfl,isW0⟩
  ·exact ⟨.inr ⟨_,rfl⟩,hat⟩
 have hall:∀ x∈l,Is2 x:=fun x hx=>by
  obtain ⟨i,hi,rfl⟩:=List.getElem_of_mem hx
  exact (hIs hi).1
 have hop:∀ {w2:World} {i:Nat} (hi:i < l.length),St w0 w2 H→∃ ad,a=some ad∧w2.cell? (ad.add (i * 15))=some (J l[i].op)∧∀ K:Array Value→Prop,K (HIcs l[i]).toArray→LdA 15 (ad.add (i * 15)) w2 K:=fun {w2 i} hi h2=>by
  obtain ⟨ad,cp,hac,hld⟩:=(hrow w2 h2).ldA hi
  injection hac with hac _ _
  rw [flat_at HIcs 15 (fun x=>rfl) l hi] at hld
  refine ⟨ad,hac,?_,hld⟩
  obtain ⟨cs,hsz,hcs,hc0⟩:=hld (fun cs=>cs=(HIcs l[i]).toArray) rfl
  have:=hcs 0 (by decide)
  rw [hc0] at this
  have e:(ad.add (i * 15)).add 0=ad.add (i * 15):=by rw [add_add']; rfl
  rw [e] at this
  rw [this]; rfl
 refine f112_ok _ _ _ _ _ ?_
 rw [f112_eq,f112_s0_eq,f112_s1_eq,f112_s2_eq,f112_s3_eq]
 have hcl:∀ j,(codeF (l.take j)).length≤440:=fun j=>by
  have h1:=codeF_len (l:=l.take j) fun x hx=>hall x (List.mem_of_mem_take hx)
  have h2:(l.take j).length≤l.length:=by rw [List.length_take]; omega
  omega
 refine ⟨fun m e w'=>∃ (j:Nat) (oa:Option Addr) (oc:Nat) (L:HBL),j≤l.length∧m=l.length - j∧e=Env.mk 67 [(0,.slice a l.length c),(5,.slice oa (codeF (l.take j)).length oc),(6,J j),(2,.slice none 0 0),(3,J 0),(4,J 0)] []∧
  SlO 1 5 (.slice oa (codeF (l.take j)).length oc) (codeF (l.take j)).length ((codeF (l.take j)).map B) L∧New w0 L∧St w0 w' (L++H),⟨_,0,none,0,[],by omega,rfl,rfl,SlO.nil 1 5,New.nil _,h⟩,?_⟩
 rintro m e w' ⟨j,oa,oc,L,hj,rfl,rfl,hS,hN,hs⟩
 show f112_lb4 ..
 rw [f112_lb4_eq,BIf_iff]
 refine ⟨fun hlt=>?_,fun hge=>?_⟩
 ·have hlt:j < l.length:=by have:=of_decide_eq_true hlt; omega
  rw [f112_s5_eq]
  obtain ⟨ad,rfl,hc,hld⟩:=hop hlt (hs.sub hN)
  refine ⟨by omega,by omega,?_⟩
  rw [Int.toNat_natCast]
  refine hld _ ?_
  refine encode73 (hIs hlt).1 (hIs hlt).2 hs fun w32 ba bc M hM hMN h32=>⟨_,_,_,_,rfl,?_⟩
  simp only [show ((0:Int) != 0)=false from rfl,BIf_false]
  obtain ⟨ad2,e2,hc2,_⟩:=hop hlt ((h32.sub hMN).sub hN)
  cases e2
  refine ⟨by omega,by omega,l[j].op,hc2,?_⟩
  refine ends117 ⟨_,rfl,?_⟩
  have s6:f112_s6 false (some ad) l.length c oa (codeF (l.take j)).length oc j none 0 0 0 0 ba (encF l[j]).length bc w32 K (fun e' w'=>∃ m,m < l.length - j∧∃ (j:Nat) (oa:Option Addr) (oc:Nat) (L:HBL),j≤l.length∧m=l.length - j∧e'=Env.mk 67 [(0,.slice (some ad) l.length c),(5,.slice oa (codeF (l.take j)).length oc),(6,J j),(2,.slice none 0 0),(3,J 0),(4,J 0)] []∧
    SlO 1 5 (.slice oa (codeF (l.take j)).length oc) (codeF (l.take j)).length ((codeF (l.take j)).map B) L∧New w0 L∧St w0 w' (L++H)):=by
   rw [f112_s6_eq,BIf_false,f112_s7_eq]
   have hle:=hcl j
   rw [decide_eq_true (by omega),BIf_true]
   have h33:St w0 w32 ([]++(L++(M++H))):=h32.perm (perm_by fun c=>by simp only [List.nil_append,List.map_append,List.sum_append]; omega)
   have hel:=encF_len (hIs hlt).1
   obtain ⟨v',w2,L',hr,hS',h34,hN'⟩:=St.appendN (P:=P) 38 38 5 Tryz.t5 (B 0) 1 1 Tryz.underlying38 (by kernel_rfl) rfl rfl rfl rfl (by omega) h33 hS hN hM (fun u hu=>h33.has _ _ (List.mem_append_right [] (List.mem_append_right L (List.mem_append_left _ hu)))) (one_B _) (by simp [maxLen]; omega) (by omega)
   have hst:codeF (l.take (j+1))=codeF (l.take j)++encF l[j]:=by rw [take_succ' l hlt,codeF_snoc]
   have hsl:(codeF (l.take (j+1))).length=(codeF (l.take j)).length+(encF l[j]).length:=by rw [hst,List.length_append]
   rw [← hsl,← List.map_append,← hst] at hS'
   obtain ⟨ta,tc,e⟩:=hS'.form
   subst e
   refine ⟨ta,_,tc,w2,hr,?_⟩
   rw [f112_s8_eq]
   have h35:St w0 w2 (M++(L'++H)):=St.perm (H:=[]++(L'++(M++H))) h34 (perm_by fun c=>by simp only [List.nil_append,List.map_append,List.sum_append]; omega)
   exact ⟨l.length - (j+1),by omega,j+1,ta,tc,L',by omega,rfl,by rw [wrap_i64 (by omega) (by omega)]; rfl,hS',hN',h35.sub hMN⟩
  rw [BIf_iff]
  refine ⟨fun hb=>?_,fun _=>s6⟩
  have hjn:¬ j < n:=fun hh=>by
   rw [hat' hlt,if_pos hh] at hb
   exact absurd hb (by decide)
  have:((j:Int) != IntKind.wrap .i64 (((l.length:Nat):Int) - 1))=false:=by
   rw [wrap_i64 (by omega) (by omega)]
   simp
   omega
  rw [this]
  exact s6
 ·have:j=l.length:=by have:=of_decide_eq_false hge; omega
  subst this
  rw [List.take_length] at hS ⊢
  rw [f112_s9_eq]
  have hne:(((l.length:Nat):Int) == 0)=false:=beq_eq_false_iff_ne.2 (by omega)
  rw [hne,BIf_false]
  have hlt:l.length - 1 < l.length:=by omega
  obtain ⟨ad,rfl,hc,_⟩:=hop hlt (hs.sub hN)
  have ew:IntKind.wrap .i64 (((l.length:Nat):Int) - 1)=((l.length - 1:Nat):Int):=by rw [wrap_i64 (by omega) (by omega)]; omega
  rw [ew]
  refine ⟨by omega,by omega,_,by rw [Int.toNat_natCast]; exact hc,ends117 ⟨_,rfl,?_⟩⟩
  have hnl:¬ l.length - 1 < n:=by omega
  have hlast:l[l.length - 1].op=40:=by rw [hat' hlt,if_neg hnl]; rfl
  rw [hlast]
  simp only [show ((40:Int) == 40)=true from rfl,Bool.true_or,Bool.not_true]
  rw [f112_s10_eq,BIf_false,f112_s11_eq]
  have hle:=codeF_len hall
  have hd:decide ((((codeF l).length:Nat):Int) > 65536)=false:=decide_eq_false (by omega)
  rw [hd,BIf_false,f112_s12_eq]
  exact hK w' _ L hS hN hs
theorem code64_ok {n:Nat} {at_:Int} {a:Option Addr} {c:Nat} (hn:n≤39) (hat:isW at_) (h:St w0 w H) (hrow:∀ w',St w0 w' H→Row w' 15 (.slice a (insns n at_).length c) (insns n at_).length ((insns n at_).map HIcs).flatten)
  (hK:∀ w' ov L,SlO 1 5 ov (codeF (insns n at_)).length ((codeF (insns n at_)).map B) L→New w0 L→St w0 w' (L++H)→K ov w'):CallL P 64 [.slice a (insns n at_).length c] w K:=by
 refine f64_ok _ _ _ _ _ ?_
 rw [f64_eq]
 refine code112_ok hn hat h hrow fun w' ov L hS hN hs=>?_
 obtain ⟨oa,oc,e⟩:=hS.form
 subst e
 exact ⟨_,_,_,_,_,rfl,hK w' _ L hS hN hs⟩
theorem bX2 (at_:Int) (wq:World):(Instr.build 119 [(0,J 40),(8,J 1),(9,U at_)].toArray).run P wq=.ok (.agg (HIcs (X2 at_)).toArray) wq:=by kernel_rfl
theorem bX1 (wq:World):(Instr.build 119 [(0,J 1)].toArray).run P wq=.ok (.agg (HIcs X1).toArray) wq:=by kernel_rfl
theorem to19_ok {at_:Int} (hat:isW at_) (h:St w0 w H) (hK:∀ w' ov L,SlO 1 5 ov (codeF (insns 0 at_)).length ((codeF (insns 0 at_)).map B) L→New w0 L→St w0 w' (L++H)→K ov w'):CallL P 19 [U at_] w K:=by
 refine f19_ok _ _ _ ?_
 rw [f19_eq]
 refine ⟨_,bX2 at_,⟨rfl,trivial⟩,h.newC fun n5 w3 hn5 h3=>?_⟩
 have h3:St w0 w3 ((n5,Cs (HIcs (X2 at_)) 119)::H):=h3
 have hrow:∀ w',St w0 w' ((n5,Cs (HIcs (X2 at_)) 119)::H)→Row w' 15 (.slice (some (Addr.mk n5 0 none)) 1 1) 1 (HIcs (X2 at_)):=fun w' h'=>⟨rfl,.inr ⟨_,_,rfl,fun i hi=>by rw [add_lit',h'.cell (k:=0) rfl,Nat.zero_add]⟩⟩
 refine code64_ok (n:=0) (at_:=at_) (by omega) hat h3 (by simpa [insns] using hrow) fun w7 ov L hS hN h7=>?_
 obtain ⟨oa,oc,e⟩:=hS.form
 subst e
 refine ⟨_,_,_,rfl,hK w7 _ L hS hN ?_⟩
 have h8:St w0 w7 ((n5,Cs (HIcs (X2 at_)) 119)::(L++H)):=h7.perm (perm_by fun c=>by simp only [List.map_append,List.map_cons,List.sum_append,List.sum_cons]; omega)
 exact h8.tail hn5
theorem X1s_len (j:Nat):((List.replicate j X1).map HIcs).flatten.length=j * 15:=by
 induction j with
 | zero=>rfl
 | succ j ih=>
  rw [List.replicate_succ,List.map_cons,List.flatten_cons,List.length_append,ih]
  show 15+_=_
  omega
theorem X1s_succ (j:Nat):((List.replicate (j+1) X1).map HIcs).flatten=((List.replicate j X1).map HIcs).flatten++HIcs X1:=by
 rw [List.replicate_succ',List.map_append,List.flatten_append]
 simp
theorem zI119:∃ z,Tryz.t119.zero=some z∧z.cells.size=15:=⟨.agg (HIcs {}).toArray,by kernel_rfl,rfl⟩
theorem long50_ok {at_:Int} (hat:isW at_) (h:St w0 w H) (hK:∀ w' ov L,SlO 1 5 ov (codeF (insns 39 at_)).length ((codeF (insns 39 at_)).map B) L→New w0 L→St w0 w' (L++H)→K ov w'):CallL P 50 [U at_] w K:=by
 refine f50_ok _ _ _ ?_
 rw [f50_eq]
 obtain ⟨z,hz,hzs⟩:=zI119
 have hr:=run_make (P:=P) w 130 119 Tryz.t119 z Tryz.underlying130 (by kernel_rfl) hz .i64 .i64 39 39 (by decide) (by decide) (by show ((96:Nat):Int) * _≤_; decide) (by decide)
 rw [show Tryz.t119.size=15 from rfl] at hr
 refine ⟨_,_,_,_,hr,?_⟩
 have hg:=h.le
 have hsz:(madeCells z.cells (Int.toNat 39 * 15)).size=585:=by rw [size_madeCells]; rfl
 generalize hcs:madeCells z.cells (Int.toNat 39 * 15)=cs0 at *
 have h1:St w0 (w.alloc (.cells cs0 119)) ((w.heap.size,Cs cs0.toList 119)::H):=by
  have:=h.alloc (.cells cs0 119)
  have e:Obj.cells cs0 119 (0,0)=Cs cs0.toList 119:=by unfold Cs; rw [Array.toArray_toList]
  rw [e] at this
  exact this
 have hl0:cs0.toList.length=585:=by rw [Array.length_toList]; exact hsz
 generalize cs0.toList=c0 at *
 generalize w.heap.size=g at *
 refine ⟨fun m e w'=>∃ (j:Nat) (cs:List Value),j≤39∧m=39 - j∧e=Env.mk 20 [(4,J j),(3,.slice (some ⟨g,0,none⟩) 39 39),(2,.slice none 0 0),(0,U at_)] []∧cs.length=585∧cs.take (j * 15)=((List.replicate j X1).map HIcs).flatten∧St w0 w' ((g,Cs cs 119)::H),⟨_,0,c0,by omega,rfl,rfl,hl0,rfl,h1⟩,?_⟩
 rintro m e w' ⟨j,cs,hj,rfl,rfl,hl,ht,hs⟩
 show f50_lb0 ..
 rw [f50_lb0_eq,BIf_iff]
 refine ⟨fun hlt=>?_,fun hge=>?_⟩
 ·have hlt:j < 39:=by have:=of_decide_eq_true hlt; omega
  rw [f50_s1_eq]
  refine ⟨_,bX1,by omega,by omega,?_⟩
  rw [add_lit',Int.toNat_natCast,Nat.zero_add]
  refine hs.stA (k:=0) rfl rfl (by omega) (HIcs_one' X1) fun w13 h13=>?_
  rw [f50_s2_eq]
  have hle:(HIcs X1).length=15:=rfl
  refine ⟨39 - (j+1),by omega,j+1,splice cs (j * 15) (HIcs X1),by omega,rfl,by rw [wrap_i64 (by omega) (by omega)]; rfl,by rw [splice_length]; exact hl,?_,h13⟩
  have hta:(cs.take (j * 15)).length=j * 15:=by rw [List.length_take]; omega
  rw [X1s_succ,← ht,splice_eq _ _ _ (by omega)]
  rw [List.take_append_of_le_length (by rw [List.length_append,hta,hle]; omega),List.take_of_length_le (by rw [List.length_append,hta,hle]; omega)]
 ·have hj39:j=39:=by have:=of_decide_eq_false hge; omega
  subst hj39
  rw [f50_s3_eq]
  refine ⟨_,bX2 at_,⟨rfl,trivial⟩,hs.newC fun n24 w22 hn24 h22=>?_⟩
  have h22:St w0 w22 ([(n24,Cs (HIcs (X2 at_)) 119)]++([(g,Cs cs 119)]++H)):=h22
  have hS:SlO 15 119 (.slice (some ⟨g,0,none⟩) 39 39) 39 ((List.replicate 39 X1).map HIcs).flatten [(g,Cs cs 119)]:=⟨X1s_len 39,.inr ⟨g,39,cs,rfl,rfl,Nat.le_refl _,by decide,hl,ht⟩⟩
  have hN:New w0 [(g,Cs cs 119)]:=fun x hx=>by rw [List.mem_singleton.1 hx]; exact hg
  obtain ⟨ga,cap,w26,L',hr2,hS2,h26,hN2⟩:=St.append (P:=P) 130 130 119 Tryz.t119 z 15 96 Tryz.underlying130 (by kernel_rfl) hz rfl rfl hzs (by omega) (A:=[(n24,Cs (HIcs (X2 at_)) 119)]) (news:=HIcs (X2 at_)) h22 hS hN (j:=0) rfl rfl (by have:=HIcs_one' (X2 at_); simpa using this) (by simp [maxLen]) (by omega)
  have hx:((List.replicate 39 X1).map HIcs).flatten++HIcs (X2 at_)=((insns 39 at_).map HIcs).flatten:=by
   unfold insns
   rw [List.map_append,List.flatten_append]
   simp
  rw [hx] at hS2
  have hl40:(insns 39 at_).length=39+1:=insns_len 39 at_
  refine ⟨_,_,_,w26,hr2,?_⟩
  have h27:St w0 w26 (L'++H):=St.tail h26 hn24
  rw [← hl40] at hS2 ⊢
  refine code64_ok (n:=39) (at_:=at_) (by omega) hat h27 (fun w' h'=>hS2.row fun u hu=>h'.has _ _ (List.mem_append_left _ hu)) fun w7 ov L hSo hNo h7=>?_
  obtain ⟨oa,oc,e⟩:=hSo.form
  subst e
  refine ⟨_,_,_,rfl,hK w7 _ L hSo hNo ?_⟩
  have h8:St w0 w7 (L'++(L++H)):=h7.perm (perm_by fun c=>by simp only [List.map_append,List.sum_append]; omega)
  exact h8.sub hN2
theorem bspan (a b:Int) (wq:World):(Instr.build 36 [(0,U a),(1,J b)].toArray).run P wq=.ok (.agg #[U a,J b]) wq:=by kernel_rfl
theorem btrans (a:Int) (n8:Nat) (ca:Option Addr) (cl cc:Nat) (wq:World):(Instr.build 41 [(0,U a),(1,.slice (some (Addr.mk n8 0 none)) 1 1),(2,.slice ca cl cc)].toArray).run P wq=.ok (.agg (Tcs a (.slice (some (Addr.mk n8 0 none)) 1 1) (.slice ca cl cc)).toArray) wq:=by kernel_rfl
theorem one49_ok {at_:Int} {ca:Option Addr} {cl cc:Nat} (h:St w0 w H) (hK:∀ w' n8,w0.heap.size≤n8→St w0 w' ((n8,Cs [U at_,J 4] 36)::H)→K (.agg (Tcs at_ (.slice (some ⟨n8,0,none⟩) 1 1) (.slice ca cl cc)).toArray) w'):CallL P 49 [U at_,.slice ca cl cc] w K:=by
 refine f49_ok _ _ _ _ _ _ ?_
 rw [f49_eq,zcells41]
 refine h.newC fun n2 w3 hn2 h3=>⟨_,bspan at_ 4,⟨rfl,trivial⟩,h3.newC fun n8 w6 hn8 h6=>⟨_,btrans at_ n8 ca cl cc,?_⟩⟩
 have h6:St w0 w6 ((n8,Cs [U at_,J 4] 36)::(n2,Cs [U 0,.slice none 0 0,.slice none 0 0] 41)::H):=h6
 refine h6.stA (k:=1) rfl rfl (by simp) (by simp [Tcs,Value.oneCell']) fun w10 h10=>h10.ldA (k:=1) rfl (by simp [splice_length,Tcs]) ?_
 have h11:St w0 w10 ((n2,Cs (Tcs at_ (.slice (some ⟨n8,0,none⟩) 1 1) (.slice ca cl cc)) 41)::(n8,Cs [U at_,J 4] 36)::H):=St.perm (H:=(n8,Cs [U at_,J 4] 36)::(n2,Cs (Tcs at_ (.slice (some ⟨n8,0,none⟩) 1 1) (.slice ca cl cc)) 41)::H) h10 (List.Perm.swap _ _ _)
 exact hK w10 n8 hn8 (h11.tail hn2)
end Go.Fx.Tryz
namespace Go.Fx.Ch
open Go.Fx.Tryz
set_option linter.all false
set_option maxRecDepth 100000
def c1:List Int:=codeF (insns 0 512)
def c2:List Int:=codeF (insns 0 256)
def c3:List Int:=codeF (insns 39 512)
def T4 (a:Int) (c:List Int):TR:=⟨a,[(a,4)],c⟩
def S0:CState:=newS 2 256 4
def S1:CState:=⟨256,4,[(1,⟨256,[(256,4)],c1⟩)],[[1],[]],[0,0,0,0,0,0,0,0,1,0,0,0,0,0,0,0],[],0,1,0,0⟩
def S2:CState:=⟨256,4,[(1,⟨256,[(256,4)],c1⟩),(2,⟨512,[(512,4)],c2⟩)],[[1,2],[]],[0,2,0,0,0,0,0,0,1,0,0,0,0,0,0,0],[],0,2,0,0⟩
def S3:CState:=⟨256,4,[(1,⟨256,[(256,4)],patchB c1 7 2⟩),(2,⟨512,[(512,4)],c2⟩)],[[1,2],[]],[0,2,0,0,0,0,0,0,1,0,0,0,0,0,0,0],[(2,[(1,7)])],0,2,0,0⟩
def S4:CState:=⟨256,4,[(1,⟨256,[(256,4)],c1⟩)],[[1],[]],[0,0,0,0,0,0,0,0,1,0,0,0,0,0,0,0],[],0,2,0,1⟩
def S5:CState:=⟨256,4,[(1,⟨256,[(256,4)],c1⟩),(3,⟨600,[(600,4)],c3⟩)],[[1,3],[]],[0,0,0,0,0,0,0,0,1,0,0,3,0,0,0,0],[],0,3,0,1⟩
def S6:CState:=⟨256,4,[(1,⟨256,[(256,4)],c1⟩),(3,⟨600,[(600,4)],c3⟩),(4,⟨700,[(700,4)],c1⟩)],[[1,3],[4]],[0,0,4,0,0,0,0,0,1,0,0,3,0,0,0,0],[],1,4,0,1⟩
def S7:CState:=⟨256,4,[(1,⟨256,[(256,4)],c1⟩),(3,⟨600,[(600,4)],c3⟩),(4,⟨700,[(700,4)],c1⟩),(5,⟨800,[(800,4)],c3⟩)],[[1,3],[4,5]],[0,0,4,0,0,0,0,0,1,5,0,3,0,0,0,0],[],1,5,0,1⟩
def S8:CState:=⟨256,4,[(4,⟨700,[(700,4)],c1⟩),(5,⟨800,[(800,4)],c3⟩),(6,⟨900,[(900,4)],c1⟩)],[[6],[4,5]],[6,0,4,0,0,0,0,0,0,5,0,0,0,0,0,0],[],0,6,2,1⟩
structure PutIs (s:CState) (t:TR) (g:List Int) (s':CState):Prop where
 err:putErr s t=0
 ev:∃ s1,evD t.code.length 5 s=some (g,s1)∧addS s1 t=s'∧s1.given+1=s'.given
theorem p1:PutIs S0 (T4 256 c1) [] S1:=⟨by kernel_rfl,S0,by kernel_rfl,by kernel_rfl,by kernel_rfl⟩
theorem p2:PutIs S1 (T4 512 c2) [] S2:=⟨by kernel_rfl,S1,by kernel_rfl,by kernel_rfl,by kernel_rfl⟩
theorem p3:chainS S2 1 7=(S3,true,0):=by kernel_rfl
theorem p4:chainS S3 1 8=(S3,false,1):=by kernel_rfl
theorem p5:chainS S3 3 7=(S3,false,211):=by kernel_rfl
theorem p6:isort ((S3.items.map (·.1)).filter (metBy S3 (515,1)))=[2]∧detF S3 [2]=true∧({ forgetD S3 [2] with dr:=1 }:CState)=S4∧(forgetD S3 [2]).dr=0:=⟨by kernel_rfl,by kernel_rfl,by kernel_rfl,by kernel_rfl⟩
theorem p7:PutIs S4 (T4 600 c3) [] S5:=⟨by kernel_rfl,S4,by kernel_rfl,by kernel_rfl,by kernel_rfl⟩
theorem p8:PutIs S5 (T4 700 c1) [] S6:=⟨by kernel_rfl,nextS S5,by kernel_rfl,by kernel_rfl,by kernel_rfl⟩
theorem p9:PutIs S6 (T4 800 c3) [] S7:=⟨by kernel_rfl,S6,by kernel_rfl,by kernel_rfl,by kernel_rfl⟩
def S7e:CState:=⟨256,4,[(4,⟨700,[(700,4)],c1⟩),(5,⟨800,[(800,4)],c3⟩)],[[],[4,5]],[0,0,4,0,0,0,0,0,0,5,0,0,0,0,0,0],[],0,5,2,1⟩
theorem p10:PutIs S7 (T4 900 c1) [1,3] S8:=⟨by kernel_rfl,S7e,by kernel_rfl,by kernel_rfl,by kernel_rfl⟩
theorem p11:putErr S8 (T4 700 c1)=5:=by kernel_rfl
theorem p12:(lookS S2 512).1=2∧(lookS S8 256).1=0:=⟨by kernel_rfl,by kernel_rfl⟩
theorem p13:bytesN S3=22∧chainedN S3=1∧bytesN S8=267∧chainedN S8=0:=⟨by kernel_rfl,by kernel_rfl,by kernel_rfl,by kernel_rfl⟩
theorem c1_len:c1.length=11:=by kernel_rfl
theorem c3_len:c3.length=245:=by kernel_rfl
theorem c1_b:c1.all (fun b=>decide (0≤b) && decide (b < 256))=true:=by kernel_rfl
theorem c2_b:c2.all (fun b=>decide (0≤b) && decide (b < 256))=true:=by kernel_rfl
theorem c3_b:c3.all (fun b=>decide (0≤b) && decide (b < 256))=true:=by kernel_rfl
end Go.Fx.Ch
namespace Go.Fx.Tryz
open Go Go.Fx Go.Fx.Ch
open Go.Proofs
set_option linter.all false
set_option maxRecDepth 20000
variable {w0 w:World} {H X G:HBL} {K:KT} {s s':CState} {L:Lay} {q:LB}
theorem bytes_all {c:List Int} (h:c.all (fun b=>decide (0≤b) && decide (b < 256))=true):∀ b∈c,0≤b∧b < 256:=fun b hb=>by
 have:=List.all_eq_true.1 h b hb
 simpa using this
def Makes (w0:World) (f:FuncId) (a:Int) (c:List Int):Prop:=∀ (w:World) (H:HBL) (K:KT),St w0 w H→(∀ w' ov N,SlO 1 5 ov c.length (c.map B) N→New w0 N→St w0 w' (N++H)→K ov w')→CallL P f [U a] w K
theorem makes1:Makes w0 19 512 c1:=fun w H K h hK=>to19_ok ⟨by decide,by decide⟩ h hK
theorem makes2:Makes w0 19 256 c2:=fun w H K h hK=>to19_ok ⟨by decide,by decide⟩ h hK
theorem makes3:Makes w0 50 512 c3:=fun w H K h hK=>long50_ok ⟨by decide,by decide⟩ h hK
theorem span_row {n8:Nat} {b:Int} {Y:HBL}:Spans w0 ((n8,Cs [U b,J 4] 36)::Y) (.slice (some ⟨n8,0,none⟩) 1 1) [(b,4)]:=
 ⟨fun w' h'=>⟨rfl,.inr ⟨_,_,rfl,fun i hi=>by rw [add_lit',h'.cell (k:=0) rfl,Nat.zero_add]; rfl⟩⟩,by simp⟩
theorem code_row {c:List Int} {ov:Value} {n8:Nat} {o:Obj} {N Y:HBL} (hS:SlO 1 5 ov c.length (c.map B) N) (hb:∀ b∈c,0≤b∧b < 256) (hl:c.length < 1000000):Bytes w0 ((n8,o)::(N++Y)) ov c:=
 (BytesM.of hS hb hl).bytes fun u hu=>.tail _ (List.mem_append_left _ hu)
theorem put_one {f:FuncId} {a b:Int} {c:List Int} {g:List Int} (hf:Makes w0 f a c) (hb:∀ b∈c,0≤b∧b < 256) (hl:c.length < 1000000) (hbW:isW b) (hp:PutIs s (T4 b c) g s') (hg0:0≤s.given) (hg1:s.given≤2147483647) (hgl:g.length < 1000)
  (hL:L.Ok w0 q s) (hg:Glob H) (hX:New w0 X) (h:St w0 w (L.bl q s++(X++H))) {Q:Int→Option Addr→Nat→Nat→Int→World→Prop}
  (hQ:∀ (w':World) (L':Lay) (X':HBL) (sa:Option Addr) (sc:Nat),L'.Ok w0 q s'→New w0 X'→St w0 w' (L'.bl q s'++(X'++H))→(∃ N,(∀ u∈N,u∈X')∧SlO 1 24 (.slice sa g.length sc) g.length ((sortI g).map U) N)→Q s'.given sa g.length sc 0 w') :
  CallL P f [U a] w (fun r8 w9=>∃ (sa:Option Addr) (sl sc:Nat),r8=.slice sa sl sc∧CallL P 49 [U b,.slice sa sl sc] w9 (fun r11 w12=>∃ cs13:Array Value,r11=.agg cs13∧CallL P 18 [.pointer (some ⟨q.cb,0,none⟩),.agg cs13] w12 (fun r14 w15=>∃ x16:Int,∃ (ta:Option Addr) (tl tc:Nat),∃ x18:Int,r14=(.tuple [U x16,.slice ta tl tc,J x18].toArray)∧Q x16 ta tl tc x18 w15))):=by
 refine hf _ _ _ h fun w9 ov N hS hN h9=>?_
 obtain ⟨sa,sc,e⟩:=hS.form
 subst e
 refine ⟨_,_,_,rfl,one49_ok h9 fun w12 n8 hn8 h12=>⟨_,rfl,?_⟩⟩
 have h13:St w0 w12 (L.bl q s++((n8,Cs [U b,J 4] 36)::(N++(X++H)))):=h12.perm (perm_by fun c=>by simp only [List.map_append,List.map_cons,List.sum_append,List.sum_cons]; omega)
 have hg2:Glob ((n8,Cs [U b,J 4] 36)::(N++(X++H))):=hg.mono fun u hu=>.tail _ (List.mem_append_right _ (List.mem_append_right _ hu))
 obtain ⟨s1,hev,hadd,hgiv⟩:=hp.ev
 have hspec:=evD_spec 5 s (g,s1) hev
 refine put_ok (t:=T4 b c) h13 hL hg2 span_row (code_row hS hb hl) hbW hg0 hg1 (fun _=>⟨5,hspec.1 0 (by simp only; omega)⟩) (fun hne=>absurd hp.err hne) fun _ w' L' gone s1' ov' N' hE hok hS' hN' hs'=>?_
 obtain ⟨rfl,rfl⟩:=hspec.2 _ _ hE
 obtain ⟨ta,tc,e⟩:=hS'.form
 subst e
 rw [hadd] at hok hs'
 rw [hgiv]
 refine ⟨_,_,_,_,_,rfl,hQ w' L' (N'++((n8,Cs [U b,J 4] 36)::(N++X))) ta tc hok ?_ ?_ ⟨N',fun u hu=>List.mem_append_left _ hu,hS'⟩⟩
 ·refine New.append hN' (fun u hu=>?_)
  rcases List.mem_cons.1 hu with rfl | hu
  ·exact hn8
  ·exact New.append hN hX u hu
 ·exact hs'.perm (perm_by fun c=>by simp only [List.map_append,List.map_cons,List.sum_append,List.sum_cons]; omega)
theorem put_no {f:FuncId} {a b:Int} {c:List Int} (hf:Makes w0 f a c) (hb:∀ b∈c,0≤b∧b < 256) (hl:c.length < 1000000) (hbW:isW b) (hp:putErr s (T4 b c)=5) (hg0:0≤s.given) (hg1:s.given≤2147483647)
  (hL:L.Ok w0 q s) (hg:Glob H) (hX:New w0 X) (h:St w0 w (L.bl q s++(X++H))) {Q:Int→Option Addr→Nat→Nat→Int→World→Prop}
  (hQ:∀ (w':World) (X':HBL),New w0 X'→St w0 w' (L.bl q s++(X'++H))→Q 0 none 0 0 5 w') :
  CallL P f [U a] w (fun r8 w9=>∃ (sa:Option Addr) (sl sc:Nat),r8=.slice sa sl sc∧CallL P 49 [U b,.slice sa sl sc] w9 (fun r11 w12=>∃ cs13:Array Value,r11=.agg cs13∧CallL P 18 [.pointer (some ⟨q.cb,0,none⟩),.agg cs13] w12 (fun r14 w15=>∃ x16:Int,∃ (ta:Option Addr) (tl tc:Nat),∃ x18:Int,r14=(.tuple [U x16,.slice ta tl tc,J x18].toArray)∧Q x16 ta tl tc x18 w15))):=by
 refine hf _ _ _ h fun w9 ov N hS hN h9=>?_
 obtain ⟨sa,sc,e⟩:=hS.form
 subst e
 refine ⟨_,_,_,rfl,one49_ok h9 fun w12 n8 hn8 h12=>⟨_,rfl,?_⟩⟩
 have h13:St w0 w12 (L.bl q s++((n8,Cs [U b,J 4] 36)::(N++(X++H)))):=h12.perm (perm_by fun c=>by simp only [List.map_append,List.map_cons,List.sum_append,List.sum_cons]; omega)
 have hg2:Glob ((n8,Cs [U b,J 4] 36)::(N++(X++H))):=hg.mono fun u hu=>.tail _ (List.mem_append_right _ (List.mem_append_right _ hu))
 refine put_ok (t:=T4 b c) h13 hL hg2 span_row (code_row hS hb hl) hbW hg0 hg1 (fun h0=>by rw [hp] at h0; cases h0) (fun _ w' hs'=>?_) fun h0=>by rw [hp] at h0; cases h0
 rw [hp]
 refine ⟨_,_,_,_,_,rfl,hQ w' ((n8,Cs [U b,J 4] 36)::(N++X)) (fun u hu=>?_) ?_⟩
 ·rcases List.mem_cons.1 hu with rfl | hu
  ·exact hn8
  ·exact New.append hN hX u hu
 ·exact hs'.perm (perm_by fun c=>by simp only [List.map_append,List.map_cons,List.sum_append,List.sum_cons]; omega)
theorem heldN_le {s:CState} {b:Int} (h0:0≤b) (h:∀ p∈s.hold,(p.2.length:Int)≤b) (c:Int):heldN s c≤b:=by
 unfold heldN
 cases hl:lk s.hold c with
 | none=>exact h0
 | some v=>
  obtain ⟨a,r,e,_⟩:=lk_split hl
  exact h (c,v) (by rw [e]; simp)
theorem conv38 {c:List Int} {ov:Value} {N:HBL} (hS:SlO 1 5 ov c.length (c.map B) N) (hN:∀ u∈N,w.heap[u.1]?=some u.2) (hc:0 < c.length):(convert 38 9 ov).run P w=.ok (.string (strOfNums c)) w:=by
 rcases hS.2 with ⟨_,h0,_⟩ | ⟨g,cap,cur,rfl,rfl,h3,h4,h5,h6⟩
 ·omega
 refine run_convert_bytes_arg w 38 5 Tryz.underlying38 (by kernel_rfl) g 0 c.length cap c rfl (fun i hi=>?_) 9 (by kernel_rfl)
 have hb:=hN (g,Cs cur 5) (.head _)
 rw [cell_of hb,Nat.zero_add]
 have:=congrArg (fun l=>l[i]?) h6
 simp only [Nat.mul_one,List.getElem?_take,hi,if_true,List.getElem?_map,List.getElem?_eq_getElem hi,Option.map_some] at this
 rw [this]
 simp [List.getD,List.getElem?_eq_getElem hi]
theorem str_neq (wq:World):(do eqGuard .neq 9 (.tmp 129) (.tmp 131) (.string (strOfNums c1)) (.string (strOfNums c1)); binOp .neq 9 (.string (strOfNums c1)) (.string (strOfNums c1)):Sem Value).run P wq=.ok (.bool false) wq:=by kernel_rfl
theorem st_neq (wq:World):(do eqGuard .neq 47 (.tmp 83) (.tmp 84) (.agg #[J 2,J 22,J 1,J 0,J 0]) (.agg #[J 2,J 22,J 1,J 0,J 0]); binOp .neq 47 (.agg #[J 2,J 22,J 1,J 0,J 0]) (.agg #[J 2,J 22,J 1,J 0,J 0]):Sem Value).run P wq=.ok (.bool false) wq:=by kernel_rfl
theorem st_eql (wq:World):(do eqGuard .eql 47 (.tmp 198) (.tmp 199) (.agg #[J 3,J 267,J 0,J 2,J 1]) (.agg #[J 3,J 267,J 0,J 2,J 1]); binOp .eql 47 (.agg #[J 3,J 267,J 0,J 2,J 1]) (.agg #[J 3,J 267,J 0,J 2,J 1]):Sem Value).run P wq=.ok (.bool true) wq:=by kernel_rfl
theorem bst1 (wq:World):(Instr.build 47 [(0,J 2),(1,J 22),(2,J 1)].toArray).run P wq=.ok (.agg #[J 2,J 22,J 1,J 0,J 0]) wq:=by kernel_rfl
theorem bst2 (wq:World):(Instr.build 47 [(0,J 3),(1,J 267),(3,J 2),(4,J 1)].toArray).run P wq=.ok (.agg #[J 3,J 267,J 0,J 2,J 1]) wq:=by kernel_rfl
theorem bconf (wq:World):(Instr.build 27 [(0,J 2),(1,J 256),(2,J 16)].toArray).run P wq=.ok (.agg #[J 2,J 256,J 16]) wq:=by kernel_rfl
theorem sane_s7 (hL:L.Ok w0 q S8) (hg:Glob H) (hX:New w0 X) (h:St w0 w (L.bl q S8++(X++H))) (hK:∀ w',St w0 w' H→K (.bool true) w'):f15_s7 (some ⟨q.cb,0,none⟩) w K:=by
 rw [f15_s7_eq]
 have hg2:Glob (X++H):=hg.mono fun u hu=>List.mem_append_right _ hu
 refine find_ok h hL hg2 (by decide) (by decide) fun w111 h111=>⟨_,_,rfl,?_⟩
 rw [p12.2]
 refine put_no makes1 (bytes_all c1_b) (by rw [c1_len]; decide) ⟨by decide,by decide⟩ p11 (by decide) (by decide) hL hg hX h111 fun w121 X' hX' h121=>?_
 simp only [show ((0:Int) != 0)=false from rfl,Bool.not_false,BIf_true,show ((5:Int) == 5)=true from rfl]
 have hf:=fitB_fit (by kernel_rfl:fitB S8=true)
 refine stat_ok h121 hL hf.rows (by decide) (heldN_le (by decide) (by intro p hp; cases hp)) fun w126 h126=>⟨_,rfl,_,bst2,?_⟩
 have e1:(#[J S8.items.length,J (bytesN S8),J (chainedN S8),J S8.ev,J S8.dr]:Array Value)=#[J 3,J 267,J 0,J 2,J 1]:=by rw [p13.2.2.1,p13.2.2.2]; rfl
 rw [e1]
 refine ⟨true,st_eql,?_⟩
 rw [f15_s8_eq]
 exact hK w126 ((h126.sub hL.newB).sub hX')
theorem sane_s5 (hL:L.Ok w0 q S4) (hg:Glob H) (hX:New w0 X) (h:St w0 w (L.bl q S4++(X++H))) (hK:∀ w',St w0 w' H→K (.bool true) w'):f15_s5 (some ⟨q.cb,0,none⟩) w K:=by
 rw [f15_s5_eq]
 refine put_one makes3 (bytes_all c3_b) (by rw [c3_len]; decide) ⟨by decide,by decide⟩ p7 (by decide) (by decide) (by decide) hL hg hX h fun w70 L5 X5 _ _ hL5 hX5 h5 _=>?_
 refine put_one makes1 (bytes_all c1_b) (by rw [c1_len]; decide) ⟨by decide,by decide⟩ p8 (by decide) (by decide) (by decide) hL5 hg hX5 h5 fun w81 L6 X6 _ _ hL6 hX6 h6 _=>?_
 refine put_one makes3 (bytes_all c3_b) (by rw [c3_len]; decide) ⟨by decide,by decide⟩ p9 (by decide) (by decide) (by decide) hL6 hg hX6 h6 fun w92 L7 X7 _ _ hL7 hX7 h7 _=>?_
 refine put_one makes1 (bytes_all c1_b) (by rw [c1_len]; decide) ⟨by decide,by decide⟩ p10 (by decide) (by decide) (by decide) hL7 hg hX7 h7 fun w103 L8 X8 sa sc hL8 hX8 h8 hN=>?_
 obtain ⟨N,hNX,hS⟩:=hN
 have hso:sortI [1,3]=[1,3]:=by rw [sortI_isort]; rfl
 rw [hso] at hS
 have hrow:Row w103 1 (.slice sa [1,3].length sc) 2 (([1,3]:List Int).map U):=hS.row fun u hu=>h8.has _ _ (List.mem_append_right _ (List.mem_append_left _ (hNX u hu)))
 obtain ⟨ad,cp,hac,_⟩:=Row.ldA (i:=0) hrow (by decide)
 injection hac with hac _ _
 subst hac
 have c0:=row1_cell (r:=[1,3]) (i:=0) hrow (by decide)
 have c1':=row1_cell (r:=[1,3]) (i:=1) hrow (by decide)
 have hs8:S8.given=6:=rfl
 simp only [hs8,show ((0:Int) != 0)=false from rfl,show ((6:Int) != 6)=false from rfl,BIf_false]
 have hl2:((([1,3]:List Int).length:Nat):Int)=2:=rfl
 simp only [hl2,show ((2:Int) != 2)=false from rfl,BIf_false]
 refine ⟨by decide,by decide,1,c0,?_⟩
 simp only [show ((1:Int) != 1)=false from rfl,BIf_false]
 refine ⟨by decide,by decide,3,c1',?_⟩
 simp only [show ((3:Int) != 3)=false from rfl]
 rw [f15_s6_eq,BIf_false]
 exact sane_s7 hL8 hg hX8 h8 hK
theorem sane_s3 (hL:L.Ok w0 q S3) (hg:Glob H) (hX:New w0 X) (h:St w0 w (L.bl q S3++(X++H))) (hK:∀ w',St w0 w' H→K (.bool true) w'):f15_s3 (some ⟨q.cb,0,none⟩) w K:=by
 rw [f15_s3_eq]
 have hg2:Glob (X++H):=hg.mono fun u hu=>List.mem_append_right _ hu
 have hf:=fitB_fit (by kernel_rfl:fitB S3=true)
 refine chain_ok (id:=1) (slot:=8) h hL hg2 hf.table ?_
 rw [p4]
 intro w42 L2 hL2 h2
 refine ⟨_,_,rfl,?_⟩
 refine chain_ok (id:=3) (slot:=7) h2 hL2 hg2 hf.table ?_
 rw [p5]
 intro w46 L3 hL3 h3
 refine ⟨_,_,rfl,_,bspan 515 1,?_⟩
 refine drop_ok (r:=(515,1)) h3 hL3 hg2 (by decide) (by decide) (by decide) fun w51 L4 s4 ov N hF hL4 hS hN h4=>?_
 have hdl:dropL S3 (515,1)=[2]:=by unfold dropL; rw [sortI_isort]; exact p6.1
 rw [hdl] at hF hL4 hS h4
 have hs4:({ s4 with dr:=s4.dr+(([2]:List Int).length:Nat) }:CState)=S4:=by
  rw [hF.det p6.2.1,p6.2.2.2]
  exact p6.2.2.1
 rw [hs4] at hL4 h4
 obtain ⟨la,lc,e⟩:=hS.form
 subst e
 refine ⟨_,_,_,rfl,?_⟩
 have h5:St w0 w51 (L4.bl q S4++(N++(X++H))):=h4.perm (perm_by fun c=>by simp only [List.map_append,List.sum_append]; omega)
 refine get_ok (id:=1) h5 hL4 (fun h0=>by cases h0) fun t ht w54 sv' cv' A M hSA hAN hSM hMN h6=>⟨_,_,rfl,?_⟩
 have ht':t=T4 256 c1:=by
  have:lk S4.items 1=some (T4 256 c1):=by rfl
  rw [this] at ht
  exact (Option.some.inj ht).symm
 subst ht'
 obtain ⟨sa,sc,e⟩:=hSA.form
 subst e
 obtain ⟨ca,cc,e⟩:=hSM.form
 subst e
 rw [zcells41]
 refine h6.newC fun n57 w58 hn57 h58=>h58.stA (k:=0) rfl rfl (by simp) (by simp [Tcs,Value.oneCell']) fun w59 h59=>?_
 have h59:St w0 w59 ((n57,Cs (Tcs (T4 256 c1).at_ (.slice sa (T4 256 c1).sp.length sc) (.slice ca (T4 256 c1).code.length cc)) 41)::(M++(A++(L4.bl q S4++(N++(X++H)))))):=h59
 have h60:=h59.drew
 have hl1:((([2]:List Int).length:Nat):Int)=1:=rfl
 simp only [show ((1:Int) != 1)=false from rfl,show ((211:Int) != 211)=false from rfl,show ((0:Int) != 0)=false from rfl,hl1,BIf_false]
 have hrow:Row w59.drew 1 (.slice la [2].length lc) 1 (([2]:List Int).map U):=hS.row fun u hu=>h60.has _ _ (.tail _ (List.mem_append_right _ (List.mem_append_right _ (List.mem_append_right _ (List.mem_append_left _ hu)))))
 obtain ⟨ad,cp,hac,_⟩:=Row.ldA (i:=0) hrow (by decide)
 injection hac with hac _ _
 subst hac
 have c0:=row1_cell (r:=[2]) (i:=0) hrow (by decide)
 refine ⟨by decide,by decide,2,c0,?_⟩
 simp only [show ((2:Int) != 2)=false from rfl,BIf_false]
 refine ⟨ca,(T4 256 c1).code.length,cc,by rw [add_lit']; exact h60.cell (k:=0) rfl,?_⟩
 have hpos:0 < c1.length:=by rw [c1_len]; decide
 have hc1:∀ {w2:World} {Z:HBL},St w0 w2 (Z++((n57,Cs (Tcs (T4 256 c1).at_ (.slice sa (T4 256 c1).sp.length sc) (.slice ca (T4 256 c1).code.length cc)) 41)::(M++(A++(L4.bl q S4++(N++(X++H)))))))→(convert 38 9 (.slice ca (T4 256 c1).code.length cc)).run P w2=.ok (.string (strOfNums c1)) w2:=fun {w2 Z} h2=>
  conv38 (c:=c1) hSM (fun u hu=>h2.has _ _ (List.mem_append_right _ (.tail _ (List.mem_append_left _ hu)))) hpos
 have fin:∀ {w2:World} {Z:HBL},New w0 Z→St w0 w2 (Z++((n57,Cs (Tcs (T4 256 c1).at_ (.slice sa (T4 256 c1).sp.length sc) (.slice ca (T4 256 c1).code.length cc)) 41)::(M++(A++(L4.bl q S4++(N++(X++H)))))))→f15_s4 false (some ⟨q.cb,0,none⟩) w2 K:=fun {w2 Z} hZ h2=>by
  rw [f15_s4_eq,BIf_false]
  have h3:St w0 w2 (Z++((n57,Cs (Tcs (T4 256 c1).at_ (.slice sa (T4 256 c1).sp.length sc) (.slice ca (T4 256 c1).code.length cc)) 41)::(M++(A++(L4.bl q S4++((N++X)++H)))))):=h2.perm (perm_by fun c=>by simp only [List.map_append,List.map_cons,List.sum_append,List.sum_cons]; omega)
  exact sane_s5 hL4 hg (New.append hN hX) ((((h3.sub hZ).tail hn57).sub hMN).sub hAN) hK
 refine ⟨⟨_,_,hc1 (Z:=[]) h60,?_⟩,?_⟩
 ·refine makes1 _ _ _ h60 fun w141 ov2 Z hSZ hZ h141=>?_
  obtain ⟨za,zc,e⟩:=hSZ.form
  subst e
  exact ⟨_,_,_,rfl,_,_,conv38 hSZ (fun u hu=>h141.has _ _ (List.mem_append_left _ hu)) hpos,false,str_neq,fin hZ h141⟩
 ·refine makes1 _ _ _ h60 fun w147 ov2 Z hSZ hZ h147=>?_
  obtain ⟨za,zc,e⟩:=hSZ.form
  subst e
  have hm:(n57,Cs (Tcs (T4 256 c1).at_ (.slice sa (T4 256 c1).sp.length sc) (.slice ca (T4 256 c1).code.length cc)) 41)∈(Z++((n57,Cs (Tcs (T4 256 c1).at_ (.slice sa (T4 256 c1).sp.length sc) (.slice ca (T4 256 c1).code.length cc)) 41)::(M++(A++(L4.bl q S4++(N++(X++H))))))):=List.mem_append_right _ (.head _)
  have hcell:w147.cell? ((Addr.mk n57 0 none).add 2)=some (.slice ca (T4 256 c1).code.length cc):=by rw [add_lit',cell_of (h147.has _ _ hm)]; rfl
  have hz:=conv38 (w:=w147) hSZ (fun u hu=>h147.has _ _ (List.mem_append_left _ hu)) hpos
  exact ⟨_,_,_,rfl,hcell,⟨_,_,hc1 h147,_,_,hz,false,str_neq,fin hZ h147⟩,⟨_,_,hz,hcell,_,_,hc1 h147,false,str_neq,fin hZ h147⟩⟩
theorem sane_ok (h:St w0 w H) (hg:Glob H) (hK:∀ w',St w0 w' H→K (.bool true) w'):CallL P 15 [] w K:=by
 refine f15_ok _ _ ?_
 rw [f15_eq]
 refine ⟨_,bconf,?_⟩
 refine new_ok h (fun hc=>by exact absurd hc (by decide)) fun n k hn hk _ _ hk4 hk16 _ _ _ w2 q L hL h2=>⟨_,_,rfl,?_⟩
 have hn2:n=2:=by omega
 have hk4':k=4:=by
  rcases k_cases hk4 hk16 with rfl | rfl | rfl | rfl | rfl | rfl | rfl | rfl | rfl | rfl | rfl | rfl | rfl <;> first | rfl | (exact absurd hk (by decide))
 subst hn2; subst hk4'
 have hL:L.Ok w0 q S0:=hL
 have h2:St w0 w2 (L.bl q S0++([]++H)):=h2
 simp only [show ((0:Int) != 0)=false from rfl,BIf_false,Option.isNone_some]
 rw [f15_s0_eq,BIf_false,f15_s1_eq]
 refine put_one makes1 (bytes_all c1_b) (by rw [c1_len]; decide) ⟨by decide,by decide⟩ p1 (by decide) (by decide) (by decide) hL hg (New.nil _) h2 fun w15 L1 X1 _ _ hL1 hX1 h15 _=>?_
 refine put_one makes2 (bytes_all c2_b) (by decide) ⟨by decide,by decide⟩ p2 (by decide) (by decide) (by decide) hL1 hg hX1 h15 fun w26 L2 X2 _ _ hL2 hX2 h26 _=>?_
 have hg2:Glob (X2++H):=hg.mono fun u hu=>List.mem_append_right _ hu
 refine find_ok h26 hL2 hg2 (by decide) (by decide) fun w31 h31=>⟨_,_,rfl,?_⟩
 have hf:=fitB_fit (by kernel_rfl:fitB S2=true)
 refine chain_ok (id:=1) (slot:=7) h31 hL2 hg2 hf.table ?_
 rw [p3,p12.1]
 intro w35 L3 hL3 h35
 refine ⟨_,_,rfl,?_⟩
 have g1:S1.given=1:=rfl
 have g2:S2.given=2:=rfl
 simp only [g1,g2,show ((0:Int) != 0)=false from rfl,show ((1:Int) != 1)=false from rfl,show ((2:Int) != 2)=false from rfl,show ((2:Int) != 0)=true from rfl,Bool.not_true,BIf_false]
 have hf3:=fitB_fit (by kernel_rfl:fitB S3=true)
 refine stat_ok h35 hL3 hf3.rows (by decide) (heldN_le (by decide) (by decide)) fun w160 h160=>⟨_,rfl,_,bst1,?_⟩
 have e1:(#[J S3.items.length,J (bytesN S3),J (chainedN S3),J S3.ev,J S3.dr]:Array Value)=#[J 2,J 22,J 1,J 0,J 0]:=by rw [p13.1,p13.2.1]; rfl
 have h160:St w0 w160 (L3.bl q S3++(X2++H)):=h160
 show ∃ b163:Bool,_∧_
 refine ⟨false,?_,?_⟩
 ·show ∀ wq,(do eqGuard .neq 47 (.tmp 83) (.tmp 84) (.agg #[J S3.items.length,J (bytesN S3),J (chainedN S3),J S3.ev,J S3.dr]) (.agg #[J 2,J 22,J 1,J 0,J 0]); binOp .neq 47 (.agg #[J S3.items.length,J (bytesN S3),J (chainedN S3),J S3.ev,J S3.dr]) (.agg #[J 2,J 22,J 1,J 0,J 0]):Sem Value).run P wq=.ok (.bool false) wq
  rw [e1]; exact st_neq
 rw [f15_s2_eq,BIf_false]
 exact sane_s3 hL3 hg hX2 h160 hK
end Go.Fx.Tryz
namespace Go.Fx.Tryz
set_option maxRecDepth 100000
open Go Go.Fx Go.Proofs
noncomputable def c11:Code:=bodyOf Tryz.f11
noncomputable def rs11:List ResultVar:=Tryz.f11.results.toList
abbrev f11_kb (K:KT):Exit→YT:=bodyK P rs11 K
def f11 (a:Array Value) (w:World) (K:KT):Prop:=CS P c11 none [2] [2] (f11_kb K) (env0 118 [(Value.agg a)]) w
def f11_s0 (a:Addr) (w:World) (K:KT):Prop:=SG P (cA c11 7) none [2] [2] (f11_kb K) (Env.mk 118 [(1,(VP (some a)))] []) w
abbrev f11_k4 (K:KT):Exit→YT:=kseq P (cA c11 14) (cA c11 15) none [2] [2] (f11_kb K)
abbrev f11_k11 (K:KT):Exit→YT:=kseq P (cA c11 2046) (cA c11 2047) none [2] [2] (f11_kb K)
def f11_s1 (a:Bool) (b:OA) (w:World) (K:KT):Prop:=SG P (cA c11 4093) none [3] [2] (f11_k11 K) (Env.mk 118 [(99,(VB a)),(3,(VP b))] []) w
def f11_s2 (a:OA) (w:World) (K:KT):Prop:=SG P (cA c11 2047) none [2] [2] (f11_kb K) (Env.mk 118 [(3,(VP a))] []) w
abbrev f11_k14 (K:KT):Exit→YT:=kseq P (cA c11 4094) (cA c11 4095) none [2] [2] (f11_kb K)
def f11_s3 (a:Bool) (w:World) (K:KT):Prop:=SG P (cA c11 4095) none [2] [2] (f11_kb K) (Env.mk 118 [(2,(VB a))] []) w
theorem f11_s3_eq (a:Bool) (w:World) (K:KT):f11_s3 a w K=(K (Value.bool a) w):=Eq.trans SGe (by kernel_rfl)
theorem f11_s2_eq (c:OA) (w:World) (K:KT):f11_s2 c w K=(CallL P 15 [] w (fun o f=>∃ g:Bool,o=(.bool g)∧BIf g (CallL P 23 [(Value.pointer c)] f (fun p h=>∃ d:Array Value,p=(.agg d)∧∃ e:Array Value,(∀ wq,(Instr.build 47 [].toArray).run P wq=.ok (.agg e) wq)∧∃ i:Bool,(∀ wq,(do eqGuard .eql 47 (.tmp 103) (.tmp 104) (Value.agg d) (Value.agg e); binOp .eql 47 (Value.agg d) (Value.agg e):Sem Value).run P wq=.ok (.bool i) wq)∧BIf i (CallL P 39 [(Value.pointer c)] h (fun q j=>∃ k:Option Addr,q=(.pointer k)∧BIf k.isNone (CallL P 35 [(Value.pointer c)] j (fun r s=>∃ l:Array Value,r=(.agg l)∧∃ m:Array Value,(∀ wq,(Instr.build 73 [].toArray).run P wq=.ok (.agg m) wq)∧CallL P 37 [(Value.agg l),(Value.agg m)] s (fun t u=>∃ n:Bool,t=(.bool n)∧f11_s3 n u K))) (f11_s3 false j K))) (f11_s3 false h K))) (f11_s3 false f K))):=Eq.trans SGe (Eq.trans (CSs [2] (f11_k14 K) (by kernel_rfl)) (by kernel_rfl))
theorem f11_s1_eq (a:Bool) (c:OA) (w:World) (K:KT):f11_s1 a c w K=(BIf a (K (Value.bool false) w) (f11_s2 c w K)):=Eq.trans SGe (by kernel_rfl)
theorem f11_s0_eq (c:Addr) (w:World) (K:KT):f11_s0 c w K=(LdA 3 (c.add 1) w (fun c0=>CallL P 18 [(Value.pointer none),(Value.agg c0)] w (fun d0 h=>∃ e0:Int,∃ (f0:OA) (g0 h0:Nat),∃ i:Int,d0=(.tuple [(Value.int .u32 e0),(Value.slice f0 g0 h0),(Value.int .i64 i)].toArray)∧∃ j:Int,h.cell? (c.add 5)=some (.int .u32 j)∧CallL P 28 [(Value.pointer none),(Value.int .u32 j)] h (fun i0 j0=>∃ k:Array Value,∃ l:Int,i0=(.tuple [(Value.agg k),(Value.int .i64 l)].toArray)∧NewC (zcells P 41) 41 j0 (fun l0 m0=>StA 3 (Addr.mk l0 0 none) k m0 (fun e=>∃ m:Int,e.cell? (c.add 5)=some (.int .u32 m)∧∃ n:Int,e.cell? (c.add 6)=some (.int .i64 n)∧CallL P 41 [(Value.pointer none),(Value.int .u32 m),(Value.int .i64 n)] e (fun n0 f=>∃ o0:Bool,∃ o:Int,n0=(.tuple [(Value.bool o0),(Value.int .i64 o)].toArray)∧∃ p:Int,f.cell? (c.add 5)=some (.int .u32 p)∧∃ q:Int,f.cell? (c.add 6)=some (.int .i64 q)∧CallL P 42 [(Value.pointer none),(Value.int .u32 p),(Value.int .i64 q)] f (fun p0 r=>∃ s:Int,p0=(.int .i64 s)∧∃ t:Int,r.cell? (c.add 4)=some (.int .u32 t)∧CallL P 21 [(Value.pointer none),(Value.int .u32 t)] r (fun q0 r0=>∃ u:Int,∃ v:Bool,q0=(.tuple [(Value.int .u32 u),(Value.bool v)].toArray)∧CallL P 31 [(Value.pointer none)] r0 (fun s0 d=>s0=(.tuple [].toArray)∧BIf ((i:Int) != 5) (f11_s1 true none d K) (BIf ((l:Int) != 5) (f11_s1 true none d K) (BIf ((o:Int) != 5) (f11_s1 true none d K) (BIf ((s:Int) != 5) (f11_s1 true none d K) (BIf ((u:Int) != 0) (f11_s1 true none d K) (BIf v (f11_s1 true none d K) (∃ x:Int,d.cell? (c.add 4)=some (.int .u32 x)∧CallL P 22 [(Value.pointer none),(Value.int .u32 x)] d (fun t0 g=>∃ y:Int,t0=(.int .i64 y)∧BIf ((y:Int) != 0) (f11_s1 true none g K) (LdA 2 (c.add 7) g (fun u0=>CallL P 20 [(Value.pointer none),(Value.agg u0)] g (fun v0 z=>∃ (x0:OA) (a0 y0:Nat),v0=(.slice x0 a0 y0)∧BIf (decide ((((a0:Nat):Int):Int) > 0)) (f11_s1 true none z K) (CallL P 27 [(Value.pointer none)] z (fun z0 A0=>∃ (B0:OA) (b0 C0:Nat),z0=(.slice B0 b0 C0)∧f11_s1 (decide ((((b0:Nat):Int):Int) > 0)) none A0 K)))))))))))))))))))))):=Eq.trans SGe (Eq.trans (CSs [3,1] (f11_k4 K) (by kernel_rfl)) (by kernel_rfl))
theorem f11_eq (a:Array Value) (w:World) (K:KT):f11 a w K=(NewC a 67 w (fun b c=>LdA 3 ((Addr.mk b 0 none).add 1) c (fun g=>CallL P 36 [(Value.agg g)] c (fun h d=>∃ e:Bool,h=(.bool e)∧BIf (!e) (CallL P 15 [] d (fun i j=>∃ f:Bool,i=(.bool f)∧K (Value.bool f) j)) (f11_s0 (Addr.mk b 0 none) d K))))):=by kernel_rfl
theorem f11_ok (a:Array Value) (w:World) (K:KT) (h:f11 a w K):CallL P 11 [(Value.agg a)] w K:=okCS c11 Tryz.func11 (by kernel_rfl) (by kernel_rfl) h
noncomputable def c36:Code:=bodyOf Tryz.f36
noncomputable def rs36:List ResultVar:=Tryz.f36.results.toList
abbrev f36_kb (K:KT):Exit→YT:=bodyK P rs36 K
def f36 (a:Array Value) (w:World) (K:KT):Prop:=CS P c36 none [2] [2] (f36_kb K) (env0 13 [(Value.agg a)]) w
def f36_s0 (a:Bool) (w:World) (K:KT):Prop:=SG P (cA c36 7) none [2] [2] (f36_kb K) (Env.mk 13 [(2,(VB a))] []) w
theorem f36_s0_eq (a:Bool) (w:World) (K:KT):f36_s0 a w K=(K (Value.bool a) w):=by kernel_rfl
theorem f36_eq (b:Array Value) (w:World) (K:KT):f36 b w K=(NewC b 41 w (fun c a=>∃ (f:OA) (d g:Nat),a.cell? ((Addr.mk c 0 none).add 2)=some (.slice f d g)∧BIf (decide ((((d:Nat):Int):Int)≤5000)) (∃ (h:OA) (e i:Nat),a.cell? ((Addr.mk c 0 none).add 1)=some (.slice h e i)∧f36_s0 (decide ((((e:Nat):Int):Int)≤200)) a K) (f36_s0 false a K))):=by kernel_rfl
theorem f36_ok (a:Array Value) (w:World) (K:KT) (h:f36 a w K):CallL P 36 [(Value.agg a)] w K:=okCS c36 Tryz.func36 (by kernel_rfl) (by kernel_rfl) h
noncomputable def c76:Code:=bodyOf Tryz.f76
noncomputable def rs76:List ResultVar:=Tryz.f76.results.toList
abbrev f76_kb (K:KT):Exit→YT:=bodyK P rs76 K
def f76 (a:OA) (b c:Nat) (d:OA) (e f:Nat) (w:World) (K:KT):Prop:=CS P c76 none [4] [4] (f76_kb K) (env0 26 [(VS a b c),(VS d e f)]) w
def f76_s0 (a:OA) (b c:Nat) (d:OA) (f g:Nat) (h:Bool) (w:World) (K:KT):Prop:=SG P (cA c76 7) none [4] [4] (f76_kb K) (Env.mk 26 [(1,(VS a b c)),(0,(VS d f g)),(4,(VB h))] []) w
abbrev f76_k4 (K:KT):Exit→YT:=kseq P (cA c76 14) (cA c76 15) none [4] [4] (f76_kb K)
abbrev f76_k6 (K:KT):Exit→YT:=kblock 0 (f76_k4 K)
def f76_lp1 (K:KT) (Y1:YT) (e:Env) (w:World):Prop:=Join (fun e w=>CS P (cA c76 116) none [5,1,0,4] [4] (kloop [5,1,0,4] Y1 (f76_k6 K)) e w) e w
abbrev f76_kl1 (K:KT) (Y1:YT):Exit→YT:=kloop [5,1,0,4] Y1 (f76_k6 K)
def f76_lb1 (a:Int) (b:OA) (c d:Nat) (f:OA) (g h:Nat) (i:Bool) (w:World) (K:KT) (Y1:YT):Prop:=SG P (cA c76 116) none [5,1,0,4] [4] (f76_kl1 K Y1) (Env.mk 26 [(5,(VI a)),(1,(VS b c d)),(0,(VS f g h)),(4,(VB i))] []) w
def f76_s2 (a:OA) (b c:Nat) (d:OA) (f g:Nat) (h:Int) (i:Bool) (w:World) (K:KT) (Y1:YT):Prop:=SG P (cA c76 233) none [5,1,0,4] [4] (f76_kl1 K Y1) (Env.mk 26 [(1,(VS a b c)),(0,(VS d f g)),(5,(VI h)),(4,(VB i))] []) w
def f76_s4 (w:World) (K:KT):Prop:=SG P (cA c76 15) none [4] [4] (f76_kb K) (Env.mk 26 [] []) w
theorem f76_s4_eq (w:World) (K:KT):f76_s4 w K=(K (Value.bool true) w):=by kernel_rfl
theorem f76_lb1_eq (a:Int) (c:OA) (d e:Nat) (f:OA) (b g:Nat) (h:Bool) (w:World) (K:KT) (Y1:YT):f76_lb1 a c d e f b g h w K Y1=(BIf (decide ((a:Int) < ((b:Nat):Int))) (f76_s2 c d e f b g a h w K Y1) (f76_s4 w K)):=by kernel_rfl
theorem f76_s0_eq (a:OA) (b c:Nat) (d:OA) (e f:Nat) (g:Bool) (w:World) (K:KT):f76_s0 a b c d e f g w K=(LoopE (f76_lp1 K) (Env.mk 26 [(5,(Value.int .i64 0)),(1,(Value.slice a b c)),(0,(Value.slice d e f)),(4,(Value.bool g))] []) w):=by kernel_rfl
theorem f76_eq (c:OA) (a d:Nat) (e:OA) (b f:Nat) (w:World) (K:KT):f76 c a d e b f w K=(BIf ((((a:Nat):Int):Int) != ((b:Nat):Int)) (K (Value.bool false) w) (f76_s0 e b f c a d false w K)):=by kernel_rfl
theorem f76_ok (a:OA) (b c:Nat) (d:OA) (e f:Nat) (w:World) (K:KT) (h:f76 a b c d e f w K):CallL P 76 [(Value.slice a b c),(Value.slice d e f)] w K:=okCS c76 Tryz.func76 (by kernel_rfl) (by kernel_rfl) h
noncomputable def c37:Code:=bodyOf Tryz.f37
noncomputable def rs37:List ResultVar:=Tryz.f37.results.toList
abbrev f37_kb (K:KT):Exit→YT:=bodyK P rs37 K
def f37 (a b:Array Value) (w:World) (K:KT):Prop:=CS P c37 none [4] [4] (f37_kb K) (env0 128 [(Value.agg a),(Value.agg b)]) w
def f37_s0 (a b:Array Value) (w:World) (K:KT):Prop:=CS P (cA c37 1) none [4] [4] (f37_kb K) (Env.mk 128 [(0,(Value.agg a)),(1,(Value.agg b))] []) w
abbrev f37_k0 (K:KT):Exit→YT:=kseq P (cA c37 2) (cA c37 3) none [4] [4] (f37_kb K)
def f37_s1 (a b:Addr) (c d:Array Value) (w:World) (K:KT):Prop:=CS P (cA c37 3) none [4] [4] (f37_kb K) (Env.mk 128 [(4,(VB false)),(3,(VP (some a))),(2,(VP (some b))),(0,(Value.agg c)),(1,(Value.agg d))] []) w
abbrev f37_k1 (K:KT):Exit→YT:=kseq P (cA c37 6) (cA c37 7) none [4] [4] (f37_kb K)
abbrev f37_k2 (K:KT):Exit→YT:=kseq P (cA c37 12) (cA c37 13) none [3,2,4] [4] (f37_k1 K)
def f37_s2 (a:Bool) (b c:Addr) (d:Bool) (w:World) (K:KT):Prop:=SG P (cA c37 13) none [3,2,4] [4] (f37_k1 K) (Env.mk 128 [(56,(VB a)),(3,(VP (some b))),(2,(VP (some c))),(4,(VB d))] []) w
def f37_s3 (a b:Addr) (c:Bool) (w:World) (K:KT):Prop:=SG P (cA c37 7) none [4] [4] (f37_kb K) (Env.mk 128 [(3,(VP (some a))),(2,(VP (some b))),(4,(VB c))] []) w
abbrev f37_k4 (K:KT):Exit→YT:=kseq P (cA c37 14) (cA c37 15) none [4] [4] (f37_kb K)
abbrev f37_k5 (K:KT):Exit→YT:=kseq P (cA c37 28) (cA c37 29) none [] [4] (f37_k4 K)
def f37_s4 (a:Int) (b c:Addr) (d:Bool) (w:World) (K:KT):Prop:=CS P (cA c37 29) none [] [4] (f37_k4 K) (Env.mk 128 [(5,(VI a)),(3,(VP (some b))),(2,(VP (some c))),(4,(VB d))] []) w
abbrev f37_k6 (K:KT):Exit→YT:=kblock 0 (f37_k4 K)
def f37_lp5 (K:KT) (Y5:YT) (e:Env) (w:World):Prop:=Join (fun e w=>CS P (cA c37 116) none [5,3,2,4] [4] (kloop [5,3,2,4] Y5 (f37_k6 K)) e w) e w
abbrev f37_kl5 (K:KT) (Y5:YT):Exit→YT:=kloop [5,3,2,4] Y5 (f37_k6 K)
def f37_lb5 (a:Int) (b c:Addr) (d:Bool) (w:World) (K:KT) (Y5:YT):Prop:=SG P (cA c37 116) none [5,3,2,4] [4] (f37_kl5 K Y5) (Env.mk 128 [(5,(VI a)),(3,(VP (some b))),(2,(VP (some c))),(4,(VB d))] []) w
abbrev f37_k7 (K:KT) (Y5:YT):Exit→YT:=kseq P (cA c37 232) (cA c37 233) none [5,3,2,4] [4] (f37_kl5 K Y5)
abbrev f37_k8 (K:KT) (Y5:YT):Exit→YT:=kseq P (cA c37 464) (cA c37 465) none [3,2,5,4] [4] (f37_k7 K Y5)
def f37_s6 (a b:Addr) (c:Int) (d:Bool) (w:World) (K:KT) (Y5:YT):Prop:=SG P (cA c37 233) none [5,3,2,4] [4] (f37_kl5 K Y5) (Env.mk 128 [(3,(VP (some a))),(2,(VP (some b))),(5,(VI c)),(4,(VB d))] []) w
def f37_s14 (w:World) (K:KT):Prop:=SG P (cA c37 15) none [4] [4] (f37_kb K) (Env.mk 128 [] []) w
abbrev f37_k22 (K:KT):Exit→YT:=kseq P (cA c37 30) (cA c37 31) none [4] [4] (f37_kb K)
theorem f37_s14_eq (w:World) (K:KT):f37_s14 w K=(K (Value.bool true) w):=Eq.trans SGe (Eq.trans (CSs [4] (f37_k22 K) (by kernel_rfl)) (by kernel_rfl))
theorem f37_lb5_eq (c:Int) (e d:Addr) (f:Bool) (w:World) (K:KT) (Y5:YT):f37_lb5 c e d f w K Y5=(∃ (h:OA) (g i:Nat),w.cell? (d.add 3)=some (.slice h g i)∧BIf (decide ((c:Int) < ((g:Nat):Int))) (f37_s6 e d c f w K Y5) (f37_s14 w K)):=Eq.trans SGe (Eq.trans (CSs [3,2,5,4] (f37_k7 K Y5) (by kernel_rfl)) (Eq.trans (CSs [61,3,2,5,4] (f37_k8 K Y5) (by kernel_rfl)) (by kernel_rfl)))
theorem f37_s4_eq (a:Int) (c d:Addr) (e:Bool) (w:World) (K:KT):f37_s4 a c d e w K=(LoopE (f37_lp5 K) (Env.mk 128 [(5,(Value.int .i64 a)),(3,(Value.pointer (some c))),(2,(Value.pointer (some d))),(4,(Value.bool e))] []) w):=Eq.trans (b:=CS P (cA c37 29) none [] [4] (f37_k4 K) (Env.mk 128 [(5,(VI a)),(3,(VP (some c))),(2,(VP (some d))),(4,(VB e))] []) w) (by kernel_rfl) (Eq.trans (CSb 0 [4] (f37_k6 K) (by kernel_rfl)) ((CS_loop' (b:=(cA c37 116)) (X':=[4]) (H:=[5,3,2,4]) (by kernel_rfl) (by kernel_rfl) (by kernel_rfl)).trans (by kernel_rfl)))
theorem f37_s3_eq (c d:Addr) (e:Bool) (w:World) (K:KT):f37_s3 c d e w K=(f37_s4 0 c d e w K):=Eq.trans SGe (Eq.trans (CSs [] (f37_k4 K) (by kernel_rfl)) (Eq.trans (CSs [5,3,2,4] (f37_k5 K) (by kernel_rfl)) (by kernel_rfl)))
theorem f37_s2_eq (a:Bool) (c d:Addr) (e:Bool) (w:World) (K:KT):f37_s2 a c d e w K=(BIf a (K (Value.bool false) w) (f37_s3 c d e w K)):=Eq.trans SGe (by kernel_rfl)
theorem f37_s1_eq (c d:Addr) (e f:Array Value) (w:World) (K:KT):f37_s1 c d e f w K=(LdA 3 d w (fun g=>LdA 3 c w (fun h=>∃ i:Bool,(∀ wq,(do eqGuard .neq 27 (.tmp 8) (.tmp 10) (Value.agg g) (Value.agg h); binOp .neq 27 (Value.agg g) (Value.agg h):Sem Value).run P wq=.ok (.bool i) wq)∧BIf i (f37_s2 true c d false w K) (∃ j:Int,w.cell? (d.add 4)=some (.int .i64 j)∧∃ k:Int,w.cell? (c.add 4)=some (.int .i64 k)∧BIf ((j:Int) != k) (f37_s2 true c d false w K) (∃ l:Int,w.cell? (d.add 5)=some (.int .u32 l)∧∃ m:Int,w.cell? (c.add 5)=some (.int .u32 m)∧BIf ((l:Int) != m) (f37_s2 true c d false w K) (∃ n:Int,w.cell? (d.add 7)=some (.int .i64 n)∧∃ o:Int,w.cell? (c.add 7)=some (.int .i64 o)∧BIf ((n:Int) != o) (f37_s2 true c d false w K) (∃ p:Int,w.cell? (d.add 8)=some (.int .i64 p)∧∃ q:Int,w.cell? (c.add 8)=some (.int .i64 q)∧BIf ((p:Int) != q) (f37_s2 true c d false w K) (∃ (b0:OA) (r c0:Nat),w.cell? (d.add 3)=some (.slice b0 r c0)∧∃ (d0:OA) (s e0:Nat),w.cell? (c.add 3)=some (.slice d0 s e0)∧BIf ((((r:Nat):Int):Int) != ((s:Nat):Int)) (f37_s2 true c d false w K) (∃ (t:OA) (u v:Nat),w.cell? (d.add 6)=some (.slice t u v)∧∃ (x:OA) (y z:Nat),w.cell? (c.add 6)=some (.slice x y z)∧CallL P 76 [(Value.slice t u v),(Value.slice x y z)] w (fun f0 g0=>∃ a0:Bool,f0=(.bool a0)∧f37_s2 (!a0) c d false g0 K)))))))))):=Eq.trans (b:=CS P (cA c37 3) none [4] [4] (f37_kb K) (Env.mk 128 [(4,(VB false)),(3,(VP (some c))),(2,(VP (some d))),(0,(Value.agg e)),(1,(Value.agg f))] []) w) (by kernel_rfl) (Eq.trans (CSs [3,2,4] (f37_k1 K) (by kernel_rfl)) (Eq.trans (CSs [56,3,2,4] (f37_k2 K) (by kernel_rfl)) (by kernel_rfl)))
theorem f37_s0_eq (c d:Array Value) (w:World) (K:KT):f37_s0 c d w K=(NewC c 73 w (fun e f=>NewC d 73 f (fun g h=>f37_s1 (Addr.mk g 0 none) (Addr.mk e 0 none) c d h K))):=Eq.trans (b:=CS P (cA c37 1) none [4] [4] (f37_kb K) (Env.mk 128 [(0,(Value.agg c)),(1,(Value.agg d))] []) w) (by kernel_rfl) (Eq.trans (CSs [3,2,4] (f37_k0 K) (by kernel_rfl)) (by kernel_rfl))
theorem f37_eq (a b:Array Value) (w:World) (K:KT):f37 a b w K=(f37_s0 a b w K):=by kernel_rfl
theorem f37_ok (a b:Array Value) (w:World) (K:KT) (h:f37 a b w K):CallL P 37 [(Value.agg a),(Value.agg b)] w K:=okCS c37 Tryz.func37 (by kernel_rfl) (by kernel_rfl) h
end Go.Fx.Tryz
namespace Go.Fx.Tryz
open Go Go.Fx Go.Fx.Ch
open Go.Proofs
set_option linter.all false
set_option maxRecDepth 20000
variable {w0 w:World} {H X G:HBL} {K:KT}
theorem nil53 (hK:K (.bool true) w):CallL P 53 [.pointer none] w K:=none_ok (slots:=0) (fun b hb=>by cases hb) hK
theorem nilPut {cs:Array Value} (h:St w0 w H) (hK:∀ w',St w0 w' H→K (.tuple [U 0,.slice none 0 0,J 5].toArray) w'):CallL P 18 [.pointer none,.agg cs] w K:=by
 refine f18_ok _ _ _ _ ?_
 rw [f18_eq,f18_s0_eq]
 refine h.newC fun n4 w5 hn4 h5=>?_
 rw [f18_s1_eq]
 refine nil53 ⟨_,rfl,?_⟩
 rw [BIf_true]
 exact hK w5 (h5.tail hn4)
theorem nilGet {id:Int} (h:St w0 w H) (hK:∀ w',St w0 w' H→K (.tuple [.agg #[U 0,.slice none 0 0,.slice none 0 0],J 5].toArray) w'):CallL P 28 [.pointer none,U id] w K:=by
 refine f28_ok _ _ _ _ ?_
 rw [f28_eq,zcells41]
 refine h.newC fun n2 w3 hn2 h3=>nil53 ⟨_,rfl,?_⟩
 rw [BIf_true]
 refine ⟨_,build41,h3.stA (k:=0) rfl rfl (by simp) (by simp [Value.oneCell']) fun w8 h8=>h8.ldA (k:=0) rfl (by simp [splice_length]) ?_⟩
 exact hK w8 (h8.tail hn2)
theorem nilExit {id slot:Int} (h:St w0 w H) (hK:∀ w',St w0 w' H→K (.tuple [.agg #[J 0,J 0,U 0,J 0,U 0],J 5].toArray) w'):CallL P 78 [.pointer none,U id,J slot] w K:=by
 refine f78_ok _ _ _ _ _ ?_
 rw [f78_eq,zcells62]
 refine h.newC fun n3 w4 hn3 h4=>h4.newC fun n5 w6 hn5 h6=>nil53 ⟨_,rfl,?_⟩
 rw [BIf_true]
 refine ⟨_,build62,h6.stA (k:=0) rfl rfl (by simp) (by simp [Value.oneCell']) fun w8 h8=>h8.ldA (k:=0) rfl (by simp [splice_length]) ?_⟩
 exact hK w8 ((h8.tail hn5).tail hn3)
theorem nilChain {id slot:Int} (h:St w0 w H) (hK:∀ w',St w0 w' H→K (.tuple [.bool false,J 5].toArray) w'):CallL P 41 [.pointer none,U id,J slot] w K:=by
 refine f41_ok _ _ _ _ _ ?_
 rw [f41_eq,zcells62]
 refine nilExit h fun w4 h4=>⟨_,_,rfl,h4.newC fun n7 w8 hn7 h8=>h8.stA (k:=0) rfl rfl (by simp) (by simp [Value.oneCell']) fun w9 h9=>?_⟩
 simp only [show ((5:Int) != 0)=true from rfl,BIf_true]
 exact hK w9 (h9.tail hn7)
theorem nilUnchain {id slot:Int} (h:St w0 w H) (hK:∀ w',St w0 w' H→K (J 5) w'):CallL P 42 [.pointer none,U id,J slot] w K:=by
 refine f42_ok _ _ _ _ _ ?_
 rw [f42_eq,zcells62]
 refine nilExit h fun w4 h4=>⟨_,_,rfl,h4.newC fun n7 w8 hn7 h8=>h8.stA (k:=0) rfl rfl (by simp) (by simp [Value.oneCell']) fun w9 h9=>?_⟩
 simp only [show ((5:Int) != 0)=true from rfl,BIf_true]
 exact hK w9 (h9.tail hn7)
theorem nilFind {a:Int} (hK:K (.tuple [U 0,.bool false].toArray) w):CallL P 21 [.pointer none,U a] w K:=by
 refine f21_ok _ _ _ _ ?_
 rw [f21_eq]
 refine nil53 ⟨_,rfl,?_⟩
 rw [BIf_true]; exact hK
theorem nilProbes {a:Int} (hK:K (J 0) w):CallL P 22 [.pointer none,U a] w K:=by
 refine f22_ok _ _ _ _ ?_
 rw [f22_eq]
 refine nil53 ⟨_,rfl,?_⟩
 rw [BIf_true]; exact hK
theorem nilFlush (hK:K (.tuple [].toArray) w):CallL P 31 [.pointer none] w K:=by
 refine f31_ok _ _ _ ?_
 rw [f31_eq]
 refine nil53 ⟨_,rfl,?_⟩
 rw [Bool.not_true,BIf_false]; exact hK
theorem nilDrop {cs:Array Value} (h:St w0 w H) (hK:∀ w',St w0 w' H→K (.slice none 0 0) w'):CallL P 20 [.pointer none,.agg cs] w K:=by
 refine f20_ok _ _ _ _ ?_
 rw [f20_eq]
 refine h.newC fun n2 w3 hn2 h3=>nil53 ⟨_,rfl,?_⟩
 rw [BIf_true]; exact hK w3 (h3.tail hn2)
theorem nilLive (hK:K (.slice none 0 0) w):CallL P 27 [.pointer none] w K:=by
 refine f27_ok _ _ _ ?_
 rw [f27_eq]
 refine nil53 ⟨_,rfl,?_⟩
 rw [BIf_true]; exact hK
theorem build47z (wq:World):(Instr.build 47 ([]:List (Nat × Value)).toArray).run P wq=.ok (.agg #[J 0,J 0,J 0,J 0,J 0]) wq:=by kernel_rfl
theorem nilStat (h:St w0 w H) (hK:∀ w',St w0 w' H→K (.agg #[J 0,J 0,J 0,J 0,J 0]) w'):CallL P 23 [.pointer none] w K:=by
 refine f23_ok _ _ _ ?_
 rw [f23_eq,zcells47]
 refine h.newC fun n1 w2 hn1 h2=>nil53 ⟨_,rfl,?_⟩
 rw [BIf_true]
 refine ⟨_,build47z,h2.stA (k:=0) rfl rfl (by simp) (by simp [Value.oneCell']) fun w7 h7=>h7.ldA (k:=0) rfl (by simp [splice_length]) ?_⟩
 exact hK w7 (h7.tail hn1)
theorem nilClone (hK:K (.pointer none) w):CallL P 39 [.pointer none] w K:=by
 refine f39_ok _ _ _ ?_
 rw [f39_eq]
 refine nil53 ⟨_,rfl,?_⟩
 rw [BIf_true]; exact hK
abbrev zst:List Value:=[J 0,J 0,J 0,.slice none 0 0,J 0,U 0,.slice none 0 0,J 0,J 0]
theorem zcells73:zcells P 73=zst.toArray:=by kernel_rfl
theorem build73z (wq:World):(Instr.build 73 ([]:List (Nat × Value)).toArray).run P wq=.ok (.agg zst.toArray) wq:=by kernel_rfl
theorem nilSave (h:St w0 w H) (hK:∀ w',St w0 w' H→K (.agg zst.toArray) w'):CallL P 35 [.pointer none] w K:=by
 refine f35_ok _ _ _ ?_
 rw [f35_eq,zcells73]
 refine h.newC fun n1 w2 hn1 h2=>nil53 ⟨_,rfl,?_⟩
 rw [BIf_true]
 refine ⟨_,build73z,h2.stA (k:=0) rfl rfl (by simp) (by simp [Value.oneCell']) fun w7 h7=>h7.ldA (k:=0) rfl (by simp [splice_length]) ?_⟩
 exact hK w7 (h7.tail hn1)
theorem numbers76 (hK:K (.bool true) w):CallL P 76 [.slice none 0 0,.slice none 0 0] w K:=by
 refine f76_ok _ _ _ _ _ _ _ _ ?_
 rw [f76_eq]
 rw [show (((0:Nat):Int) != ((0:Nat):Int))=false from rfl,BIf_false,f76_s0_eq]
 refine ⟨fun m e w'=>m=0∧e=Env.mk 26 [(5,J 0),(1,.slice none 0 0),(0,.slice none 0 0),(4,.bool false)] []∧w'=w,⟨0,rfl,rfl,rfl⟩,?_⟩
 rintro m e w' ⟨rfl,rfl,rfl⟩
 show f76_lb1 ..
 rw [f76_lb1_eq,show decide ((0:Int) < ((0:Nat):Int))=false from rfl,BIf_false,f76_s4_eq]
 exact hK
theorem neq27z (wq:World):(do eqGuard .neq 27 (.tmp 8) (.tmp 10) (.agg #[J 0,J 0,J 0]) (.agg #[J 0,J 0,J 0]); binOp .neq 27 (.agg #[J 0,J 0,J 0]) (.agg #[J 0,J 0,J 0]):Sem Value).run P wq=.ok (.bool false) wq:=by kernel_rfl
theorem sameZ (h:St w0 w H) (hK:∀ w',St w0 w' H→K (.bool true) w'):CallL P 37 [.agg zst.toArray,.agg zst.toArray] w K:=by
 refine f37_ok _ _ _ _ ?_
 rw [f37_eq,f37_s0_eq]
 refine h.newC fun n2 w3 hn2 h3=>h3.newC fun n4 w5 hn4 h5=>?_
 have h5:St w0 w5 ((n4,Cs zst 73)::(n2,Cs zst 73)::H):=h5
 rw [f37_s1_eq]
 refine h5.ldA (k:=1) rfl (by simp) (h5.ldA (k:=0) rfl (by simp) ⟨false,neq27z,?_⟩)
 have a2:∀ i,w5.cell? ((Addr.mk n2 0 none).add i)=zst[i]?:=fun i=>by rw [add_lit',h5.cell (k:=1) rfl,Nat.zero_add]
 have a4:∀ i,w5.cell? ((Addr.mk n4 0 none).add i)=zst[i]?:=fun i=>by rw [add_lit',h5.cell (k:=0) rfl,Nat.zero_add]
 rw [BIf_false]
 refine ⟨0,a2 4,0,a4 4,?_⟩
 simp only [show ((0:Int) != 0)=false from rfl,BIf_false]
 refine ⟨0,a2 5,0,a4 5,?_⟩
 simp only [show ((0:Int) != 0)=false from rfl,BIf_false]
 refine ⟨0,a2 7,0,a4 7,?_⟩
 simp only [show ((0:Int) != 0)=false from rfl,BIf_false]
 refine ⟨0,a2 8,0,a4 8,?_⟩
 simp only [show ((0:Int) != 0)=false from rfl,BIf_false]
 refine ⟨none,0,0,a2 3,none,0,0,a4 3,?_⟩
 simp only [show (((0:Nat):Int) != ((0:Nat):Int))=false from rfl,BIf_false]
 refine ⟨none,0,0,a2 6,none,0,0,a4 6,?_⟩
 refine numbers76 ⟨_,rfl,?_⟩
 rw [Bool.not_true,f37_s2_eq,BIf_false,f37_s3_eq,f37_s4_eq]
 refine ⟨fun m e w'=>m=0∧e=Env.mk 128 [(5,J 0),(3,.pointer (some (Addr.mk n4 0 none))),(2,.pointer (some (Addr.mk n2 0 none))),(4,.bool false)] []∧w'=w5,⟨0,rfl,rfl,rfl⟩,?_⟩
 rintro m e w' ⟨rfl,rfl,rfl⟩
 show f37_lb5 ..
 rw [f37_lb5_eq]
 refine ⟨none,0,0,a2 3,?_⟩
 rw [show decide ((0:Int) < ((0:Nat):Int))=false from rfl,BIf_false,f37_s14_eq]
 exact hK w' ((h5.tail hn4).tail hn2)
theorem eq47z (wq:World):(do eqGuard .eql 47 (.tmp 103) (.tmp 104) (.agg #[J 0,J 0,J 0,J 0,J 0]) (.agg #[J 0,J 0,J 0,J 0,J 0]); binOp .eql 47 (.agg #[J 0,J 0,J 0,J 0,J 0]) (.agg #[J 0,J 0,J 0,J 0,J 0]):Sem Value).run P wq=.ok (.bool true) wq:=by kernel_rfl
theorem light36 {a:Value} {sa ca:Option Addr} {sl sc cl cc:Nat} (h:St w0 w H) (hK:∀ w',St w0 w' H→K (.bool (decide (cl≤5000) && decide (sl≤200))) w'):CallL P 36 [.agg #[a,.slice sa sl sc,.slice ca cl cc]] w K:=by
 refine f36_ok _ _ _ ?_
 rw [f36_eq]
 refine h.newC fun n1 w2 hn1 h2=>⟨ca,cl,cc,by rw [add_lit']; exact h2.cell (k:=0) rfl,?_⟩
 have hK:=hK w2 (h2.tail hn1)
 rw [BIf_iff]
 refine ⟨fun hb=>⟨sa,sl,sc,by rw [add_lit']; exact h2.cell (k:=0) rfl,?_⟩,fun hb=>?_⟩
 ·have hb:cl≤5000:=by have:=of_decide_eq_true hb; omega
  rw [f36_s0_eq]
  rw [decide_eq_true hb,Bool.true_and] at hK
  have e:decide (((sl:Nat):Int)≤200)=decide (sl≤200):=by
   by_cases hx:sl≤200
   ·rw [decide_eq_true hx,decide_eq_true (by omega)]
   ·rw [decide_eq_false hx,decide_eq_false (by omega)]
  rw [e]; exact hK
 ·have hb:¬ cl≤5000:=by have:=of_decide_eq_false hb; omega
  rw [f36_s0_eq]
  rw [decide_eq_false hb,Bool.false_and] at hK
  exact hK
theorem cacheNil_ok {kd:Value} {ta at_ id slot s1 s2:Int} {sa ca:Option Addr} {sl sc cl cc:Nat} (h:St w0 w H) (hg:Glob H) (hK:∀ w',St w0 w' H→K (.bool true) w') :
  CallL P 11 [.agg #[kd,U ta,.slice sa sl sc,.slice ca cl cc,U at_,U id,J slot,U s1,J s2]] w K:=by
 refine f11_ok _ _ _ ?_
 rw [f11_eq]
 refine h.newC fun n1 w2 hn1 h2=>?_
 have h2:St w0 w2 ((n1,Cs [kd,U ta,.slice sa sl sc,.slice ca cl cc,U at_,U id,J slot,U s1,J s2] 67)::H):=h2
 have hg2:Glob ((n1,Cs [kd,U ta,.slice sa sl sc,.slice ca cl cc,U at_,U id,J slot,U s1,J s2] 67)::H):=hg.mono fun u hu=>.tail _ hu
 have cA:∀ {w3:World},St w0 w3 ((n1,Cs [kd,U ta,.slice sa sl sc,.slice ca cl cc,U at_,U id,J slot,U s1,J s2] 67)::H)→∀ i,w3.cell? ((Addr.mk n1 0 none).add i)=[kd,U ta,.slice sa sl sc,.slice ca cl cc,U at_,U id,J slot,U s1,J s2][i]?:=fun {w3} h3 i=>by rw [add_lit',h3.cell (k:=0) rfl,Nat.zero_add]
 rw [add_lit']
 refine h2.ldA (k:=0) rfl (by simp) ?_
 refine light36 h2 fun w5 h5=>⟨_,rfl,?_⟩
 generalize (decide (cl≤5000) && decide (sl≤200))=li
 cases li with
 | false=>
  simp only [Bool.not_false,BIf_true]
  refine sane_ok h5 hg2 fun w8 h8=>⟨_,rfl,hK w8 (h8.tail hn1)⟩
 | true=>
  simp only [Bool.not_true,BIf_false]
  rw [f11_s0_eq,add_lit']
  refine h5.ldA (k:=0) rfl (by simp) ?_
  refine nilPut h5 fun w13 h13=>⟨_,_,_,_,_,rfl,id,cA h13 5,?_⟩
  refine nilGet h13 fun w19 h19=>⟨_,_,rfl,?_⟩
  rw [zcells41]
  refine h19.newC fun n22 w23 hn22 h23=>h23.stA (k:=0) rfl rfl (by simp) (by simp [Value.oneCell']) fun w24 h24=>?_
  have h24:=h24.tail hn22
  refine ⟨id,cA h24 5,slot,cA h24 6,?_⟩
  refine nilChain h24 fun w28 h28=>⟨_,_,rfl,id,cA h28 5,slot,cA h28 6,?_⟩
  refine nilUnchain h28 fun w34 h34=>⟨_,rfl,at_,cA h34 4,?_⟩
  refine nilFind ⟨_,_,rfl,nilFlush ⟨rfl,?_⟩⟩
  simp only [show ((5:Int) != 5)=false from rfl,show ((0:Int) != 0)=false from rfl,BIf_false]
  refine ⟨at_,cA h34 4,nilProbes ⟨_,rfl,?_⟩⟩
  simp only [show ((0:Int) != 0)=false from rfl,BIf_false]
  rw [add_lit']
  refine h34.ldA (k:=0) rfl (by simp) ?_
  refine nilDrop h34 fun w71 h71=>⟨_,_,_,rfl,?_⟩
  rw [show decide (((0:Nat):Int) > 0)=false from rfl,BIf_false]
  refine nilLive ⟨_,_,_,rfl,?_⟩
  rw [show decide (((0:Nat):Int) > 0)=false from rfl,f11_s1_eq,BIf_false,f11_s2_eq]
  refine sane_ok h71 hg2 fun w47 h47=>⟨_,rfl,?_⟩
  rw [BIf_true]
  refine nilStat h47 fun w50 h50=>⟨_,rfl,_,build47z,true,eq47z,?_⟩
  rw [BIf_true]
  refine nilClone ⟨_,rfl,?_⟩
  simp only [Option.isNone_none,BIf_true]
  refine nilSave h50 fun w58 h58=>⟨_,rfl,_,build73z,?_⟩
  refine sameZ h58 fun w62 h62=>⟨_,rfl,?_⟩
  rw [f11_s3_eq]
  exact hK w62 (h62.tail hn1)
end Go.Fx.Tryz
namespace Go.Fx.Tryz
open Go Go.Fx Go.Fx.Ch
open Go.Proofs Go.Proofs.YtepbaneageipfaaGreatDoor
open Go.ChangeShapes Go.WideShapes Go.ChangeAt Go.RowKit
set_option linter.all false
set_option maxRecDepth 100000
variable {W:World}
abbrev laid3 : List (String × DataW Unit) := [("math/bits.deBruijn32tab", Rows.laid_math_bits_deBruijn32tab), ("math/bits.deBruijn64tab", Rows.laid_math_bits_deBruijn64tab), ("candling/host.forms", Rows.laid_candling_host_forms)]
theorem block_of {n:String} {g:Nat} {cs:Array Value} (hg:P.globalNamed n=some g) (hv:W.var? P n=some cs) (hfz:∃ c t,W.heap[g]?=some (.cells c t (0,0))):∃ t,W.heap[g]?=some (Cs cs.toList t):=by
 obtain ⟨c,t,h⟩:=hfz
 simp only [World.var?,hg,Option.bind_some,h,Option.some.injEq] at hv
 subst hv
 exact ⟨t,by rw [h]; simp [Cs]⟩
theorem d64:(Rows.laid_math_bits_deBruijn64tab:DataW Unit)=.agg (tab64.map fun x=>.lit (.int .u8 x)):=rfl
def nameOf:DataW Unit→List (List UInt8)
 | .agg l=>l.map fun
  | .agg (.lit (.string s)::_)=>s
  | _=>[]
 | _=>[]
def names46:List (List UInt8):=nameOf Rows.laid_candling_host_forms
theorem dforms:(Rows.laid_candling_host_forms:DataW Unit)=.agg ((List.range 46).map fun i=>.agg [.lit (.string (names46.getD i [])),.lit (.int .i64 ((forms.getD i (0,0)).1:Nat)),.lit (.int .i64 ((forms.getD i (0,0)).2:Nat))]):=by kernel_rfl
theorem open_u8s {ds:List Int} {cs:List Value} {fuel:Nat} {p:List MemPlace} {sp:Nat→Bool} (hl:ds.length=64) (h:DataW.trod (fun _=>()) P W 0 sp false fuel 244 cs=some (.agg (ds.map fun x=>.lit (.int .u8 x)),p)):cs=ds.map fun x=>Value.int .u8 x:=by
 obtain ⟨xs,m,_,hx,hlen,hxs,hel⟩:=DataW.trod_array Tryz.underlying244 h
 have c5:P.cellsOf 5=1:=by kernel_rfl
 have c244:P.cellsOf 244=64:=by kernel_rfl
 rw [c244] at hlen
 simp only [Prod.mk.injEq,DataW.agg.injEq] at hx
 apply List.ext_getElem?
 intro i
 by_cases hi:i < 64
 ·have he:=hel i hi
  rw [c5,List.getElem?_eq_getElem (by omega)] at he
  obtain ⟨k,e1,e2,_⟩:=DataW.trod_int Tryz.underlying5 he
  have h1:=congrArg (fun l=>l[i]?) hx.1
  simp only [List.getElem?_map,List.getElem?_eq_getElem (show i < ds.length by omega),List.getElem?_eq_getElem (show i < xs.length by omega),Option.map_some,Option.some.injEq] at h1
  rw [e2] at h1
  have hk:k=ds[i]:=by injection h1 with h1; injection h1 with _ h1; exact h1.symm
  have h2:=congrArg (fun l=>l[0]?) e1
  simp only [Nat.mul_one,List.getElem?_take,List.getElem?_drop,Nat.add_zero,Nat.zero_lt_one,if_true,List.getElem?_cons_zero] at h2
  rw [h2,List.getElem?_map,List.getElem?_eq_getElem (by omega),hk]; rfl
 ·rw [List.getElem?_eq_none (by omega),List.getElem?_eq_none (by rw [List.length_map]; omega)]
theorem open_forms {cs:List Value} {fuel:Nat} {p:List MemPlace} {sp:Nat→Bool} (h:DataW.trod (fun _=>()) P W 0 sp false fuel 232 cs=some (Rows.laid_candling_host_forms,p)):Table cs:=by
 rw [dforms] at h
 obtain ⟨xs,m,_,hx,hlen,hxs,hel⟩:=DataW.trod_array Tryz.underlying232 h
 have c214:P.cellsOf 214=3:=by kernel_rfl
 have c232:P.cellsOf 232=138:=by kernel_rfl
 have c9:P.cellsOf 9=1:=by kernel_rfl
 have c3':P.cellsOf 3=1:=by kernel_rfl
 rw [c232] at hlen
 simp only [Prod.mk.injEq,DataW.agg.injEq] at hx
 refine ⟨hlen,fun i hi=>?_⟩
 have he:=hel i hi
 rw [c214,List.getElem?_eq_getElem (by omega)] at he
 have h1:=congrArg (fun l=>l[i]?) hx.1
 simp only [List.getElem?_map,List.getElem?_range hi,List.getElem?_eq_getElem (show i < xs.length by omega),Option.map_some,Option.some.injEq] at h1
 obtain ⟨ys,m2,_,hy,hl3,hys,hf⟩:=DataW.trod_struct Tryz.underlying214 he
 rw [c214] at hl3
 rw [hy] at h1
 simp only [DataW.agg.injEq] at h1
 generalize (cs.drop (i * 3)).take 3=r at *
 match r,hl3 with
 | [a,b,c],_=>
 have hy3:ys.length=3:=by rw [hys]; rfl
 match ys,hy3 with
 | [y0,y1,y2],_=>
 have f0:=hf 0 _ rfl
 have f1:=hf 1 _ rfl
 have f2:=hf 2 _ rfl
 obtain ⟨s,e0,g0,_⟩:=DataW.trod_string Tryz.underlying9 f0
 obtain ⟨k1,e1,g1,_⟩:=DataW.trod_int Tryz.underlying3 f1
 obtain ⟨k2,e2,g2,_⟩:=DataW.trod_int Tryz.underlying3 f2
 simp [c9,c3'] at e0 e1 e2
 subst e0 e1 e2
 simp only [List.map_cons,List.map_nil,List.cons.injEq,and_true,g0,g1,g2,DataW.lit.injEq,Lit.int.injEq,true_and] at h1
 refine ⟨s,?_⟩
 unfold Fcs
 rw [← h1.2.1,← h1.2.2]
theorem laid_blocks (h:laidMetH P laid3 W):∃ gcs gt t,W.heap[0]?=some (Cs gcs gt)∧Table gcs∧W.heap[2]?=some (Cs (tab64.map fun x=>.int .u8 x) t):=by
 rw [MakeChecks.laidMetH_plain _ _ _ (by kernel_rfl)] at h
 obtain ⟨ps,⟨g1,t1,cs1,f1,p1,q1,hg1,ht1,hv1,hd1,⟨g2,t2,cs2,f2,p2,q2,hg2,ht2,hv2,hd2,⟨g3,t3,cs3,f3,p3,q3,hg3,ht3,hv3,hd3,hq,e3⟩,e2⟩,e1⟩,hnd,hfz⟩:=h
 obtain rfl := Option.some.inj ((show P.globalNamed "math/bits.deBruijn64tab" = some 2 by kernel_rfl).symm.trans hg2)
 obtain rfl := Option.some.inj ((show P.globalNamed "candling/host.forms" = some 0 by kernel_rfl).symm.trans hg3)
 obtain rfl:=Option.some.inj ((show (P.globals[2]?).map (·.type)=some 244 by kernel_rfl).symm.trans ht2)
 obtain rfl:=Option.some.inj ((show (P.globals[0]?).map (·.type)=some 232 by kernel_rfl).symm.trans ht3)
 have hT:=open_forms hd3
 rw [d64] at hd2
 have h64:=open_u8s (ds:=tab64) rfl hd2
 have hm:∀ (g:Nat) (cs:Array Value),0 < cs.size→MemPlace.cell g 0∈MemPlace.row ⟨g,0,none⟩ cs.size:=fun g cs hc=>by
  simp only [MemPlace.row,List.mem_map,List.mem_range]
  exact ⟨0,hc,rfl⟩
 have hs3:0 < cs3.size:=by have:=hT.len; rw [Array.length_toList] at this; omega
 have hs2:0 < cs2.size:=by
  have:=congrArg List.length h64
  rw [Array.length_toList,List.length_map] at this
  rw [this]; decide
 obtain ⟨gt,hb0⟩:=block_of hg3 hv3 (hfz 0 0 (by rw [e1,e2,e3]; exact List.mem_append_right _ (List.mem_append_right _ (List.mem_append_left _ (List.mem_append_left _ (hm 0 cs3 hs3)))))).1
 obtain ⟨t,hb2⟩:=block_of hg2 hv2 (hfz 2 0 (by rw [e1,e2]; exact List.mem_append_right _ (List.mem_append_left _ (List.mem_append_left _ (hm 2 cs2 hs2))))).1
 rw [h64] at hb2
 exact ⟨_,gt,t,hb0,hT,hb2⟩
end Go.Fx.Tryz
