/- A part of the proof. -/
import Derived.Test.YtamciedmojpjaaaGreatKcYi
import Derived.Test.YtamciedmojpjaaaGreatKaYi
import Derived.KernelRfl
import Derived.Laws.MakeOwn
namespace Go.Fx.Tryz
open Go Go.Fx Go.Fx.Mo
open Go.Proofs
variable {w0 w:World} {H Y:HL} {K:KT}
set_option maxRecDepth 20000
theorem z113:∃ cs:List Value,zcells P 64=cs.toArray∧cs.length=20:=⟨_,rfl,by kernel_rfl⟩
def flagCs (r:RR) (x:Int):List Value:=r.begun.map .bool++(r.ended.map .bool++[I64 x])
def runCs (r:RR) (x:Int) (lv ov xv:Value):List Value:=lv::ov::xv::flagCs r x
structure RunIs (w0:World) (r:RR) (lv ov xv:Value) (LL LO LX:HL):Prop where
 sl:SlO 4 72 lv r.L.length (ords r.L) LL
 so:SlO 1 3 ov r.of.length (r.of.map I64) LO
 sx:SlO 2 170 xv r.objs.length (objsCs r.objs) LX
 nl:New w0 LL
 no:New w0 LO
 nx:New w0 LX
 bl:r.begun.length=8
 el:r.ended.length=8
theorem runCs_len {r:RR} {x:Int} {lv ov xv:Value} (hb:r.begun.length=8) (he:r.ended.length=8):(runCs r x lv ov xv).length=20:=by
 simp [runCs,flagCs,hb,he]
theorem slO_one {size:Nat} {e:TypeId} {ov:Value} {n:Nat} {xs:List Value} {L:HL} (h:SlO size e ov n xs L):ov.oneCell'=true:=by
 obtain ⟨a,c,rfl⟩:=h.form
 rfl
theorem runCs_one {r:RR} {x:Int} {lv ov xv:Value} (h1:lv.oneCell'=true) (h2:ov.oneCell'=true) (h3:xv.oneCell'=true):∀ v∈(runCs r x lv ov xv).toArray.toList,v.oneCell'=true:=by
 intro v hv
 simp only [runCs,flagCs,List.mem_cons,List.mem_append,List.mem_map,List.not_mem_nil,or_false] at hv
 rcases hv with rfl | rfl | rfl | ⟨_,_,rfl⟩ | ⟨_,_,rfl⟩ | rfl
 ·exact h1
 ·exact h2
 ·exact h3
 all_goals rfl
theorem bg_cell {r:RR} {x t:Int} {lv ov xv:Value} (hb:r.begun.length=8) (h0:0≤t) (h8:t < 8):(runCs r x lv ov xv)[3+t.toNat]?=some (.bool (getB r.begun t)):=by
 have h:t.toNat < r.begun.length:=by omega
 rw [show 3+t.toNat=t.toNat+3 by omega]
 show (flagCs r x)[t.toNat]?=_
 unfold flagCs
 rw [List.getElem?_append_left (by simpa using h),List.getElem?_map,List.getElem?_eq_getElem h]
 simp [getB,List.getD,h]
theorem en_cell {r:RR} {x t:Int} {lv ov xv:Value} (hb:r.begun.length=8) (he:r.ended.length=8) (h0:0≤t) (h8:t < 8):(runCs r x lv ov xv)[11+t.toNat]?=some (.bool (getB r.ended t)):=by
 have h:t.toNat < r.ended.length:=by omega
 rw [show 11+t.toNat=(8+t.toNat)+3 by omega]
 show (flagCs r x)[8+t.toNat]?=_
 unfold flagCs
 rw [List.getElem?_append_right (by simp [hb]),List.getElem?_append_left (by simp [hb]; omega)]
 simp [getB,List.getD,h,hb]
theorem bg_set {r:RR} {x t:Int} {lv ov xv:Value} (hb:r.begun.length=8) (h0:0≤t) (h8:t < 8):(runCs r x lv ov xv).set (3+t.toNat) (.bool true)=runCs { r with begun:=r.begun.set t.toNat true } x lv ov xv:=by
 rw [show 3+t.toNat=t.toNat+3 by omega]
 show lv::ov::xv::(flagCs r x).set t.toNat (.bool true)=_
 unfold flagCs runCs flagCs
 rw [List.set_append_left _ _ (by simp [hb]; omega),List.map_set]
theorem en_set {r:RR} {x t:Int} {lv ov xv:Value} (hb:r.begun.length=8) (he:r.ended.length=8) (h0:0≤t) (h8:t < 8):(runCs r x lv ov xv).set (11+t.toNat) (.bool true)=runCs { r with ended:=r.ended.set t.toNat true } x lv ov xv:=by
 rw [show 11+t.toNat=(8+t.toNat)+3 by omega]
 show lv::ov::xv::(flagCs r x).set (8+t.toNat) (.bool true)=_
 unfold flagCs runCs flagCs
 rw [List.set_append_right _ _ (by simp [hb]),List.set_append_left _ _ (by simp [hb,he]; omega),List.map_set]
 simp [hb]
section
variable {n7 n5 n3:Nat} {r:RR} {lv ov xv:Value} {LL LO LX:HL} {z:List Value} {o:Ord} {x i:Int}
abbrev putH (n7 n5 n3:Nat) (z:List Value) (o:Ord) (cs:List Value) (R:HL):List (Nat × Obj):=(n7,Cs z 64)::(n5,Cs (Ordcs o) 72)::(n3,Cs cs 64)::R
theorem ret20 {b:Bool} {cs:List Value} {R:HL} (hz:z.length=20) (h:St w0 w (putH n7 n5 n3 z o cs R)) (hl:cs.length=20) (h1:∀ v∈cs.toArray.toList,v.oneCell'=true)
  (hK:∀ w',St w0 w' (putH n7 n5 n3 cs o cs R)→K (.tuple [.agg cs.toArray,.bool b].toArray) w') :
  LdA 20 (Addr.mk n3 0 none) w (fun c=>StA 20 (Addr.mk n7 0 none) c w (fun w'=>LdA 20 (Addr.mk n7 0 none) w' (fun c'=>K (.tuple [.agg c',.bool b].toArray) w'))):=by
 refine h.ldA (k:=2) (i:=0) rfl (by simp [hl]) ?_
 rw [List.drop_zero,List.take_of_length_le (by omega)]
 refine h.stA (k:=0) rfl (by simp [hl]) (by simp [hl,hz]) h1 fun w' h'=>?_
 have h':St w0 w' (putH n7 n5 n3 (splice z 0 cs) o cs R):=h'
 rw [splice_whole (by omega)] at h'
 refine h'.ldA (k:=0) (i:=0) rfl (by simp [hl]) ?_
 rw [List.drop_zero,List.take_of_length_le (by omega)]
 exact hK w' h'
theorem ords_snoc' (l:List Ord) (o:Ord):ords (l++[o])=ords l++Ordcs o:=by simp [ords]
theorem put_s7 (hz:z.length=20) (h:St w0 w (putH n7 n5 n3 z o (runCs r x lv ov xv) (LL++(LO++(LX++H))))) (hr:RunIs w0 r lv ov xv LL LO LX) (h7:w0.heap.size≤n7) (h5:w0.heap.size≤n5) (h3:w0.heap.size≤n3)
  (hb:r.L.length < 1000000000∧r.of.length < 1000000000)
  (hK:∀ w' lv' ov' LL' LO',RunIs w0 { r with L:=r.L++[o],of:=r.of++[i] } lv' ov' xv LL' LO' LX→St w0 w' (LL'++(LO'++(LX++H)))→
   K (.tuple [.agg (runCs { r with L:=r.L++[o],of:=r.of++[i] } x lv' ov' xv).toArray,.bool true].toArray) w') :
  f86_s7 (Addr.mk n7 0 none) (Addr.mk n3 0 none) i (Addr.mk n5 0 none) w K:=by
 rw [f86_s7_eq]
 obtain ⟨la,lc,hlv⟩:=hr.sl.form
 obtain ⟨oa,oc,hov⟩:=hr.so.form
 refine ⟨la,_,lc,by rw [h.cell (k:=2) rfl,← hlv]; rfl,?_⟩
 refine h.ldA (k:=1) (i:=0) rfl (by simp [Ordcs]) ⟨⟨rfl,trivial⟩,?_⟩
 refine h.newC fun n71 w1 hn71 g1=>?_
 have g1:St w0 w1 (((n71,Cs (Ordcs o) 72)::putH n7 n5 n3 z o (runCs r x lv ov xv) [])++(LL++(LO++(LX++H)))):=g1
 obtain ⟨g,cap,w2,LL',hru,hS,g2,hN⟩:=St.append (P:=P) 60 60 72 Tryz.t72 (.agg #[I64 0,I64 0,I64 0,I64 0]) 4 32 Tryz.underlying60 info99 rfl rfl rfl rfl (by omega) g1 hr.sl hr.nl (j:=0) rfl (by simp [Ordcs]) (by simp [Ordcs,Value.oneCell']) (by simp [maxLen]; omega) (by omega)
 rw [hlv] at hru
 refine ⟨_,_,_,w2,hru,?_⟩
 refine g2.st1 (k:=3) rfl (by simp [runCs]) rfl fun w3 g3=>?_
 generalize hlv':Value.slice (some ⟨g,0,none⟩) (r.L.length+1) cap=lv' at *
 have g3:St w0 w3 ((n71,Cs (Ordcs o) 72)::putH n7 n5 n3 z o (runCs r x lv' ov xv) (LL'++(LO++(LX++H)))):=g3
 refine ⟨oa,_,oc,by rw [add_lit',Nat.zero_add,g3.cell (k:=3) rfl,← hov]; rfl,⟨rfl,trivial⟩,?_⟩
 refine g3.newC fun n79 w4 hn79 g4=>?_
 have g4:St w0 w4 (((n79,Cs [I64 i] 3)::(n71,Cs (Ordcs o) 72)::putH n7 n5 n3 z o (runCs r x lv' ov xv) LL')++(LO++(LX++H))):=by
  have e:((n79,Cs [I64 i] 3)::(n71,Cs (Ordcs o) 72)::putH n7 n5 n3 z o (runCs r x lv' ov xv) LL')++(LO++(LX++H))=(n79,Cs [I64 i] 3)::(n71,Cs (Ordcs o) 72)::putH n7 n5 n3 z o (runCs r x lv' ov xv) (LL'++(LO++(LX++H))):=by simp
  rw [e]
  exact g4
 obtain ⟨g',cap',w5,LO',hru',hS',g5,hN'⟩:=St.append (P:=P) 61 61 3 Tryz.t3 (I64 0) 1 8 Tryz.underlying61 info3 rfl rfl rfl rfl (by omega) g4 hr.so hr.no (j:=0) rfl (by simp) (by simp [Value.oneCell']) (by simp [maxLen]; omega) (by omega)
 rw [hov] at hru'
 refine ⟨_,_,_,w5,hru',?_⟩
 have g5:St w0 w5 ((n79,Cs [I64 i] 3)::(n71,Cs (Ordcs o) 72)::putH n7 n5 n3 z o (runCs r x lv' ov xv) (LL'++(LO'++(LX++H)))):=by
  refine g5.perm (perm_by fun c=>?_)
  simp only [List.map_append,List.map_cons,List.sum_append,List.sum_cons]; omega
 simp only [add_lit',Nat.zero_add]
 refine g5.st1 (k:=4) rfl (by simp [runCs]) rfl fun w6 g6=>?_
 generalize hov':Value.slice (some ⟨g',0,none⟩) (r.of.length+1) cap'=ov' at *
 have g6:St w0 w6 ((n79,Cs [I64 i] 3)::(n71,Cs (Ordcs o) 72)::putH n7 n5 n3 z o (runCs r x lv' ov' xv) (LL'++(LO'++(LX++H)))):=g6
 have g7:=(g6.tail hn79).tail hn71
 have hS:SlO 4 72 lv' (r.L++[o]).length (ords (r.L++[o])) LL':=by rw [ords_snoc',List.length_append]; exact hS
 have hS':SlO 1 3 ov' (r.of++[i]).length ((r.of++[i]).map I64) LO':=by rw [List.map_append,List.length_append]; exact hS'
 refine ret20 (b:=true) hz g7 (runCs_len hr.bl hr.el) (runCs_one (slO_one hS) (slO_one hS') (slO_one hr.sx)) fun w8 g8=>?_
 exact hK w8 lv' ov' LL' LO' ⟨hS,hS',hr.sx,hN,hN',hr.nx,hr.bl,hr.el⟩ (((g8.tail h7).tail h5).tail h3)
theorem put_ok (h:St w0 w (LL++(LO++(LX++H)))) (hr:RunIs w0 r lv ov xv LL LO LX) (ho:0≤o.th∧o.th < 8) (hb:r.L.length < 1000000000∧r.of.length < 1000000000)
  (hno:rput r o i=none→∀ w' (cs:List Value),cs.length=20→(∀ v∈cs.toArray.toList,v.oneCell'=true)→St w0 w' H→K (.tuple [.agg cs.toArray,.bool false].toArray) w')
  (hyes:∀ r',rput r o i=some r'→∀ w' lv' ov' LL' LO',RunIs w0 r' lv' ov' xv LL' LO' LX→St w0 w' (LL'++(LO'++(LX++H)))→K (.tuple [.agg (runCs r' x lv' ov' xv).toArray,.bool true].toArray) w') :
  CallL P 86 [.agg (runCs r x lv ov xv).toArray,.agg (Ordcs o).toArray,.int .i64 i] w K:=by
 refine f86_ok _ _ _ _ _ ?_
 obtain ⟨z,hz,hzl⟩:=z113
 rw [f86_eq,hz]
 refine h.newC fun n3 w4 hn3 h4=>h4.newC fun n5 w6 hn5 h6=>h6.newC fun n7 w8 hn7 h8=>?_
 have hl:=runCs_len (x:=x) (lv:=lv) (ov:=ov) (xv:=xv) hr.bl hr.el
 have h1:=runCs_one (r:=r) (x:=x) (slO_one hr.sl) (slO_one hr.so) (slO_one hr.sx)
 have h8:St w0 w8 (putH n7 n5 n3 z o (runCs r x lv ov xv) (LL++(LO++(LX++H)))):=h8
 have bad:∀ w',St w0 w' (putH n7 n5 n3 z o (runCs r x lv ov xv) (LL++(LO++(LX++H))))→barred r o=true→
   LdA 20 (Addr.mk n3 0 none) w' (fun c=>StA 20 (Addr.mk n7 0 none) c w' (fun w'=>LdA 20 (Addr.mk n7 0 none) w' (fun c'=>K (.tuple [.agg c',.bool false].toArray) w'))):=fun w' h' hbad=>
  ret20 hzl h' hl h1 fun w2 h2=>hno (by simp [rput,hbad]) w2 _ hl h1 ((((((h2.tail hn7).tail hn5).tail hn3).sub hr.nl).sub hr.no).sub hr.nx)
 have ro:∀ {w':World} {j:Nat} {v:Value},St w0 w' (putH n7 n5 n3 z o (runCs r x lv ov xv) (LL++(LO++(LX++H))))→(Ordcs o)[j]?=some v→w'.cell? ((Addr.mk n5 0 none).add j)=some v:=fun h' hv=>by
  rw [add_lit',Nat.zero_add,h'.cell (k:=1) rfl]; exact hv
 have ro0:∀ {w':World} {v:Value},St w0 w' (putH n7 n5 n3 z o (runCs r x lv ov xv) (LL++(LO++(LX++H))))→(Ordcs o)[0]?=some v→w'.cell? (Addr.mk n5 0 none)=some v:=fun h' hv=>by
  rw [h'.cell (k:=1) rfl]; exact hv
 have rb:∀ {w':World} {t:Int},St w0 w' (putH n7 n5 n3 z o (runCs r x lv ov xv) (LL++(LO++(LX++H))))→0≤t→t < 8→w'.cell? (((Addr.mk n3 0 none).add 3).add (Int.toNat t * 1))=some (.bool (getB r.begun t)):=fun h' h0 h8=>by
  rw [add_lit',add_lit',Nat.zero_add,Nat.mul_one,h'.cell (k:=2) rfl]; exact bg_cell hr.bl h0 h8
 have re:∀ {w':World} {t:Int},St w0 w' (putH n7 n5 n3 z o (runCs r x lv ov xv) (LL++(LO++(LX++H))))→0≤t→t < 8→w'.cell? (((Addr.mk n3 0 none).add 11).add (Int.toNat t * 1))=some (.bool (getB r.ended t)):=fun h' h0 h8=>by
  rw [add_lit',add_lit',Nat.zero_add,Nat.mul_one,h'.cell (k:=2) rfl]; exact en_cell hr.bl hr.el h0 h8
 refine ⟨_,ro h8 rfl,ho.1,by have:=ho.2; omega,_,rb h8 ho.1 ho.2,?_⟩
 cases hbg:getB r.begun o.th
 ·rw [Bool.not_false,BIf_true,f86_s0_eq,BIf_true]
  exact bad w8 h8 (by simp [barred,hbg])
 rw [Bool.not_true,BIf_false]
 refine ⟨_,ro h8 rfl,ho.1,by have:=ho.2; omega,_,re h8 ho.1 ho.2,?_⟩
 rw [f86_s0_eq]
 cases hen:getB r.ended o.th
 ·rw [BIf_false,f86_s1_eq]
  have s6:∀ w',St w0 w' (putH n7 n5 n3 z o (runCs r x lv ov xv) (LL++(LO++(LX++H))))→barred r o=false→(o.kind=5∨o.kind=6)→0≤o.other→o.other < 8→f86_s6 (Addr.mk n7 0 none) (Addr.mk n3 0 none) i (Addr.mk n5 0 none) w' K:=by
   intro w' h' hbar hk h0 h8
   rw [f86_s6_eq]
   refine ⟨_,ro0 h' rfl,?_⟩
   cases h5:(o.kind == 5)
   ·have h5':¬ o.kind=5:=by simpa using h5
    have h6':o.kind=6:=by omega
    rw [BIf_false]
    refine ⟨_,ro h' rfl,h0,by omega,?_⟩
    rw [add_lit',add_lit',Nat.zero_add,Nat.mul_one]
    refine h'.st1 (k:=2) rfl (by rw [hl]; omega) rfl fun w2 h2=>?_
    have h2:St w0 w2 (putH n7 n5 n3 z o ((runCs r x lv ov xv).set (11+o.other.toNat) (.bool true)) (LL++(LO++(LX++H)))):=h2
    rw [en_set hr.bl hr.el h0 h8] at h2
    refine put_s7 (r:={ r with ended:=r.ended.set o.other.toNat true }) hzl h2 ⟨hr.sl,hr.so,hr.sx,hr.nl,hr.no,hr.nx,hr.bl,by simp [hr.el]⟩ hn7 hn5 hn3 hb fun w3 lv' ov' LL' LO' hr' h3=>?_
    exact hyes _ (by simp [rput,hbar,h5',h6']) w3 lv' ov' LL' LO' hr' h3
   ·have h5':o.kind=5:=by simpa using h5
    rw [BIf_true]
    refine ⟨_,ro h' rfl,h0,by omega,?_⟩
    rw [add_lit',add_lit',Nat.zero_add,Nat.mul_one]
    refine h'.st1 (k:=2) rfl (by rw [hl]; omega) rfl fun w2 h2=>?_
    have h2:St w0 w2 (putH n7 n5 n3 z o ((runCs r x lv ov xv).set (3+o.other.toNat) (.bool true)) (LL++(LO++(LX++H)))):=h2
    rw [bg_set hr.bl h0 h8] at h2
    refine put_s7 (r:={ r with begun:=r.begun.set o.other.toNat true }) hzl h2 ⟨hr.sl,hr.so,hr.sx,hr.nl,hr.no,hr.nx,by simp [hr.bl],hr.el⟩ hn7 hn5 hn3 hb fun w3 lv' ov' LL' LO' hr' h3=>?_
    exact hyes _ (by simp [rput,hbar,h5']) w3 lv' ov' LL' LO' hr' h3
  have s5:∀ b w',St w0 w' (putH n7 n5 n3 z o (runCs r x lv ov xv) (LL++(LO++(LX++H))))→barred r o=b→(o.kind=5∨o.kind=6)→0≤o.other→o.other < 8→f86_s5 b (Addr.mk n7 0 none) (Addr.mk n3 0 none) i (Addr.mk n5 0 none) w' K:=by
   intro b w' h' hbar hk h0 h8
   rw [f86_s5_eq]
   cases b
   ·rw [BIf_false]; exact s6 w' h' hbar hk h0 h8
   ·rw [BIf_true]; exact bad w' h' hbar
  have s2:∀ b,(o.kind == 5 || o.kind == 6)=b→f86_s2 b (Addr.mk n7 0 none) (Addr.mk n3 0 none) i (Addr.mk n5 0 none) w8 K:=by
   intro b hk
   rw [f86_s2_eq]
   cases b
   ·rw [BIf_false]
    have h5':¬ o.kind=5:=fun h=>by simp [h] at hk
    have h6':¬ o.kind=6:=fun h=>by simp [h] at hk
    have hbar:barred r o=false:=by simp [barred,hbg,hen,h5',h6']
    refine put_s7 hzl h8 hr hn7 hn5 hn3 hb fun w3 lv' ov' LL' LO' hr' h3=>?_
    exact hyes _ (by simp [rput,hbar,h5',h6']) w3 lv' ov' LL' LO' hr' h3
   ·rw [BIf_true]
    have hk':o.kind=5∨o.kind=6:=by simpa using hk
    refine ⟨_,ro h8 rfl,?_⟩
    cases h0:decide (o.other < 0)
    ·rw [BIf_false]
     refine ⟨_,ro h8 rfl,?_⟩
     rw [f86_s3_eq]
     cases h88:decide (o.other≥8)
     ·rw [BIf_false,f86_s4_eq]
      have h0':0≤o.other:=by simpa using h0
      have h8':o.other < 8:=by simpa using h88
      have hd:=h8.drew
      have hbar:barred r o=((o.kind == 5 && getB r.begun o.other) || (o.kind == 6 && (!getB r.begun o.other || getB r.ended o.other || o.other == o.th))):=by
       unfold barred
       rw [hbg,hen,hk,h0,h88]
       simp
      refine ⟨_,ro hd rfl,h0',by omega,_,rb hd h0' h8',_,ro hd rfl,h0',by omega,_,re hd h0' h8',_,ro0 hd rfl,?_⟩
      have six:BIf (o.kind == 6) (BIf (!getB r.begun o.other) (f86_s5 true (Addr.mk n7 0 none) (Addr.mk n3 0 none) i (Addr.mk n5 0 none) w8.drew K) (BIf (getB r.ended o.other) (f86_s5 true (Addr.mk n7 0 none) (Addr.mk n3 0 none) i (Addr.mk n5 0 none) w8.drew K)
        (∃ x89:Int,w8.drew.cell? ((Addr.mk n5 0 none).add 2)=some (I64 x89)∧∃ x90:Int,w8.drew.cell? ((Addr.mk n5 0 none).add 1)=some (I64 x90)∧f86_s5 (x89 == x90) (Addr.mk n7 0 none) (Addr.mk n3 0 none) i (Addr.mk n5 0 none) w8.drew K)))
        (f86_s5 false (Addr.mk n7 0 none) (Addr.mk n3 0 none) i (Addr.mk n5 0 none) w8.drew K)∨(o.kind == 5 && getB r.begun o.other)=true:=by
       cases h5b:(o.kind == 5 && getB r.begun o.other)
       ·left
        rw [h5b,Bool.false_or] at hbar
        cases h6:(o.kind == 6)
        ·rw [BIf_false]
         exact s5 _ _ hd (by rw [hbar,h6]; rfl) hk' h0' h8'
        ·rw [BIf_true]
         rw [h6,Bool.true_and] at hbar
         cases hb2:getB r.begun o.other
         ·rw [Bool.not_false,BIf_true]
          exact s5 _ _ hd (by rw [hbar,hb2]; rfl) hk' h0' h8'
         ·rw [Bool.not_true,BIf_false]
          cases he2:getB r.ended o.other
          ·rw [BIf_false]
           refine ⟨_,ro hd rfl,_,ro hd rfl,?_⟩
           exact s5 _ _ hd (by rw [hbar,hb2,he2]; rfl) hk' h0' h8'
          ·rw [BIf_true]
           exact s5 _ _ hd (by rw [hbar,hb2,he2]; rfl) hk' h0' h8'
       ·right; rfl
      cases h5:(o.kind == 5)
      ·rw [BIf_false]
       refine ⟨_,ro0 hd rfl,?_⟩
       rcases six with h | h
       ·exact h
       ·rw [h5] at h; cases h
      ·rw [BIf_true]
       cases hb2:getB r.begun o.other
       ·rw [BIf_false]
        refine ⟨_,ro0 hd rfl,?_⟩
        rcases six with h | h
        ·rw [hb2] at h; exact h
        ·rw [hb2] at h; simp at h
       ·rw [BIf_true]
        exact s5 _ _ hd (by rw [hbar,h5,hb2]; rfl) hk' h0' h8'
     ·rw [BIf_true]
      exact bad w8 h8 (by unfold barred; rw [hk,h88]; simp)
    ·rw [BIf_true,f86_s3_eq,BIf_true]
     exact bad w8 h8 (by unfold barred; rw [hk,h0]; simp)
  refine ⟨_,ro0 h8 rfl,?_⟩
  cases h5:(o.kind == 5)
  ·rw [BIf_false]
   refine ⟨_,ro0 h8 rfl,s2 _ (by rw [h5]; rfl)⟩
  ·rw [BIf_true]
   exact s2 true (by rw [h5]; rfl)
 ·rw [BIf_true]
  exact bad w8 h8 (by simp [barred,hen])
end
end Go.Fx.Tryz
namespace Go.Fx.Mo
structure Bd (r:RR) (n:Nat):Prop where
 l:r.L.length≤n
 o:r.of.length≤n
 x:r.objs.length≤n
theorem rput_bd {r r':RR} {o:Ord} {i:Int} {n:Nat} (h:rput r o i=some r') (hb:Bd r n):Bd r' (n+1):=by
 unfold rput at h
 split at h
 ·cases h
 ·cases h
  exact ⟨by have:=hb.l; simp; omega,by have:=hb.o; simp; omega,by have:=hb.x; simp; omega⟩
theorem come_bd {r:RR} {x:Ob} {n:Nat} (hb:Bd r n):(come r x).L=r.L∧(come r x).of=r.of∧(come r x).objs.length≤n+1:=by
 unfold come
 split
 ·exact ⟨rfl,rfl,by have:=hb.x; simp; omega⟩
 ·exact ⟨rfl,rfl,by have:=hb.x; omega⟩
theorem rtouch_bd {r r':RR} {k:Int} {e:Ev} {x:Ob} {i:Int} {n:Nat} (h:rtouch r k e x i=some r') (hb:Bd r n):Bd r' (n+1):=by
 unfold rtouch at h
 split at h
 ·cases h
 ·obtain ⟨h1,h2,h3⟩:=come_bd (x:=x) hb
  unfold rput at h
  split at h
  ·cases h
  ·cases h
   refine ⟨?_,?_,h3⟩
   ·simp [h1]; exact hb.l
   ·simp [h2]; exact hb.o
end Go.Fx.Mo
namespace Go.Fx.Tryz
open Go Go.Fx Go.Fx.Mo
open Go.Proofs
variable {w0 w:World} {H Y:HL} {K:KT}
set_option maxRecDepth 20000
def RunS (w0 w:World) (r:RR) (cs:List Value) (H:HL):Prop:=
 ∃ lv ov xv LL LO LX,cs=runCs r 0 lv ov xv∧RunIs w0 r lv ov xv LL LO LX∧St w0 w (LL++(LO++(LX++H)))
structure Any20 (cs:List Value):Prop where
 len:cs.length=20
 one:∀ v∈cs.toArray.toList,v.oneCell'=true
theorem RunS.any {r:RR} {cs:List Value} (h:RunS w0 w r cs H):Any20 cs:=by
 obtain ⟨lv,ov,xv,LL,LO,LX,rfl,hr,_⟩:=h
 exact ⟨runCs_len hr.bl hr.el,runCs_one (slO_one hr.sl) (slO_one hr.so) (slO_one hr.sx)⟩
theorem RunS.base {r:RR} {cs:List Value} (h:RunS w0 w r cs H):St w0 w H:=by
 obtain ⟨lv,ov,xv,LL,LO,LX,rfl,hr,hs⟩:=h
 exact ((hs.sub hr.nl).sub hr.no).sub hr.nx
theorem RunS.newC {r:RR} {cs news:List Value} {t:TypeId} {Q:Nat→World→Prop} (h:RunS w0 w r cs H) (hK:∀ n w',w0.heap.size≤n→RunS w0 w' r cs ((n,Cs news t)::H)→Q n w'):NewC news.toArray t w Q:=by
 obtain ⟨lv,ov,xv,LL,LO,LX,rfl,hr,hs⟩:=h
 refine hs.newC fun n w' hn h'=>hK n w' hn ⟨lv,ov,xv,LL,LO,LX,rfl,hr,h'.perm (perm_by fun c=>?_)⟩
 simp only [List.map_append,List.map_cons,List.sum_append,List.sum_cons]; omega
theorem RunS.tail {r:RR} {cs:List Value} {n:Nat} {o:Obj} (h:RunS w0 w r cs ((n,o)::H)) (hn:w0.heap.size≤n):RunS w0 w r cs H:=by
 obtain ⟨lv,ov,xv,LL,LO,LX,rfl,hr,hs⟩:=h
 refine ⟨lv,ov,xv,LL,LO,LX,rfl,hr,St.tail (b:=n) (o:=o) (hs.perm (perm_by fun c=>?_)) hn⟩
 simp only [List.map_append,List.map_cons,List.sum_append,List.sum_cons]; omega
theorem RunS.open' {r:RR} {cs:List Value} (h:RunS w0 w r cs H):∃ Z,New w0 Z∧St w0 w (H++Z)∧∀ w' H',St w0 w' (H'++Z)→RunS w0 w' r cs H':=by
 obtain ⟨lv,ov,xv,LL,LO,LX,rfl,hr,hs⟩:=h
 refine ⟨LL++(LO++LX),?_,hs.perm (perm_by fun c=>?_),fun w' H' h'=>⟨lv,ov,xv,LL,LO,LX,rfl,hr,h'.perm (perm_by fun c=>?_)⟩⟩
 ·intro y hy
  rcases List.mem_append.1 hy with h | h
  ·exact hr.nl y h
  ·rcases List.mem_append.1 h with h | h
   ·exact hr.no y h
   ·exact hr.nx y h
 ·simp only [List.map_append,List.sum_append]; omega
 ·simp only [List.map_append,List.sum_append]; omega
theorem putS_ok {r:RR} {cs:List Value} {o:Ord} {i:Int} {n:Nat} (h:RunS w0 w r cs H) (ho:0≤o.th∧o.th < 8) (hb:Bd r n) (hn:n < 100000000)
  (hno:rput r o i=none→∀ w' cs',Any20 cs'→St w0 w' H→K (.tuple [.agg cs'.toArray,.bool false].toArray) w')
  (hyes:∀ r',rput r o i=some r'→∀ w' cs',RunS w0 w' r' cs' H→K (.tuple [.agg cs'.toArray,.bool true].toArray) w') :
  CallL P 86 [.agg cs.toArray,.agg (Ordcs o).toArray,.int .i64 i] w K:=by
 obtain ⟨lv,ov,xv,LL,LO,LX,rfl,hr,hs⟩:=h
 exact put_ok hs hr ho ⟨by have:=hb.l; omega,by have:=hb.o; omega⟩ (fun h w' cs' h1 h2 h3=>hno h w' cs' ⟨h1,h2⟩ h3) fun r' h w' lv' ov' LL' LO' hr' hs'=>hyes r' h w' _ ⟨lv',ov',xv,LL',LO',LX,rfl,hr',hs'⟩
theorem build99t (k t n:Int) (wq:World):(Instr.build 72 [(0,(Value.int .i64 k)),(1,(Value.int .i64 t)),(3,(Value.int .i64 n))].toArray).run P wq=.ok (.agg (Ordcs ⟨k,t,0,n⟩).toArray) wq:=by kernel_rfl
theorem info199:P.info? 170=some Tryz.t170:=by kernel_rfl
section
variable {n11 n9 n7 n5:Nat} {z:List Value} {e:Ev} {ob:List Value} {kind i:Int} {r:RR} {x:Ob} {m:Nat}
theorem touch_s1 {cs:List Value} (hz:z.length=20) (h:RunS w0 w r cs ((n11,Cs z 64)::(n9,Cs ob 170)::(n7,Cs (Evcs e) 45)::(n5,Cs cs 64)::H)) (hn:∀ y∈[n11,n9,n7,n5],w0.heap.size≤y) (he:0≤e.th∧e.th < 8) (hb:Bd r m) (hm:m < 100000000)
  (hno:rput r ⟨kind,e.th,0,numb r.objs x⟩ i=none→∀ w' cs',Any20 cs'→St w0 w' H→K (.tuple [.agg cs'.toArray,.bool false].toArray) w')
  (hyes:∀ r',rput r ⟨kind,e.th,0,numb r.objs x⟩ i=some r'→∀ w' cs',RunS w0 w' r' cs' H→K (.tuple [.agg cs'.toArray,.bool true].toArray) w') :
  f85_s1 (Addr.mk n11 0 none) i (numb r.objs x:Nat) (Addr.mk n7 0 none) kind (Addr.mk n5 0 none) w K:=by
 have ha:=h.any
 have h11:=hn n11 (by simp)
 have h9:=hn n9 (by simp)
 have h7:=hn n7 (by simp)
 have h5:=hn n5 (by simp)
 rw [f85_s1_eq]
 obtain ⟨Z,hZ,hs,hback⟩:=h.open'
 refine hs.ldA (k:=3) (i:=0) rfl (by simp [ha.len]) ?_
 rw [List.drop_zero,List.take_of_length_le (by rw [ha.len]; omega)]
 refine ⟨e.th,by rw [add_lit',Nat.zero_add,hs.cell (k:=2) rfl]; rfl,_,fun wq=>build99t kind e.th _ wq,?_⟩
 have tail:∀ (b:Bool) (w':World) (cs':List Value) (J:HL),Any20 cs'→St w0 w' ((n11,Cs z 64)::J)→(∀ w2,St w0 w2 ((n11,Cs cs' 64)::J)→K (.tuple [.agg cs'.toArray,.bool b].toArray) w2)→
   StA 20 (Addr.mk n11 0 none) cs'.toArray w' (fun w51=>LdA 20 (Addr.mk n11 0 none) w51 (fun cs52=>K (.tuple [.agg cs52,.bool b].toArray) w51)):=by
  intro b w' cs' J hc h' hk
  refine h'.stA (k:=0) rfl (by simp [hc.len]) (by simp [hz,hc.len]) hc.one fun w2 h2=>?_
  have h2:St w0 w2 ((n11,Cs (splice z 0 cs') 64)::J):=h2
  rw [splice_whole (by rw [hc.len,hz])] at h2
  refine h2.ldA (k:=0) (i:=0) rfl (by simp [hc.len]) ?_
  rw [List.drop_zero,List.take_of_length_le (by rw [hc.len]; omega)]
  exact hk w2 h2
 refine putS_ok (hback w _ hs) he hb hm (fun hf w' cs' hc h'=>⟨_,false,rfl,?_⟩) (fun r' hf w' cs' h'=>⟨_,true,rfl,?_⟩)
 ·refine tail false w' cs' _ hc h' fun w2 h2=>hno hf w2 cs' hc ((((h2.tail h11).tail h9).tail h7).tail h5)
 ·obtain ⟨Z',hZ',hs',hback'⟩:=h'.open'
  refine tail true w' cs' _ h'.any hs' fun w2 h2=>hyes r' hf w2 cs' ((((hback' w2 ((n11,Cs cs' 64)::(n9,Cs ob 170)::(n7,Cs (Evcs e) 45)::(n5,Cs cs 64)::H) h2).tail h11).tail h9 |>.tail h7).tail h5)
end
theorem touch_ok {r:RR} {cs:List Value} {e:Ev} {kind i:Int} {x:Ob} {n:Nat} (h:RunS w0 w r cs H) (he:0≤e.th∧e.th < 8) (hb:Bd r n) (hn:n < 10000000)
  (hno:rtouch r kind e x i=none→∀ w' cs',Any20 cs'→St w0 w' H→K (.tuple [.agg cs'.toArray,.bool false].toArray) w')
  (hyes:∀ r',rtouch r kind e x i=some r'→∀ w' cs',RunS w0 w' r' cs' H→K (.tuple [.agg cs'.toArray,.bool true].toArray) w') :
  CallL P 85 [.agg cs.toArray,.int .i64 kind,.agg (Evcs e).toArray,.agg (Obcs x).toArray,.int .i64 i] w K:=by
 refine f85_ok _ _ _ _ _ _ _ ?_
 obtain ⟨z,hz,hzl⟩:=z113
 rw [f85_eq,hz]
 refine h.newC fun n5 w1 hn5 g1=>g1.newC fun n7 w2 hn7 g2=>g2.newC fun n9 w3 hn9 g3=>g3.newC fun n11 w4 hn11 g4=>?_
 have hall:∀ y∈[n11,n9,n7,n5],w0.heap.size≤y:=by
  intro y hy
  simp at hy
  rcases hy with rfl | rfl | rfl | rfl <;> assumption
 obtain ⟨lv,ov,xv,LL,LO,LX,rfl,hr,hs⟩:=g4
 have hx:=hr.sx
 have hs1:=hs.perm (H':=(n11,Cs z 64)::(n9,Cs (Obcs x) 170)::(n7,Cs (Evcs e) 45)::(n5,Cs (runCs r 0 lv ov xv) 64)::(LX++(LL++(LO++H)))) (perm_by fun c=>by
  simp only [List.map_append,List.map_cons,List.sum_append,List.sum_cons]; omega)
 obtain ⟨xa,xc,hxv⟩:=hx.form
 have rx:∀ {w':World} {J:HL},St w0 w' ((n11,Cs z 64)::(n9,Cs (Obcs x) 170)::(n7,Cs (Evcs e) 45)::(n5,Cs (runCs r 0 lv ov xv) 64)::J)→w'.cell? ((Addr.mk n5 0 none).add 2)=some (.slice xa r.objs.length xc):=fun h'=>by
  rw [add_lit',Nat.zero_add,h'.cell (k:=3) rfl,← hxv]; rfl
 refine ⟨xa,_,xc,rx hs1,?_⟩
 refine hs1.ldA (k:=1) (i:=0) rfl (by simp [Obcs]) ?_
 rw [show ((Obcs x).drop 0).take 2=Obcs x from rfl,← hxv]
 have hxl:r.objs.length < 100000000:=by have:=hb.x; omega
 refine numb_ok x hs1 (fun w' h'=>hx.row fun y hy=>h'.has _ _ (by simp [hy])) (by omega) fun w5 h5=>⟨_,rfl,xa,_,xc,rx h5,r.objs.length,fun wq _=>run_len_110 wq,?_⟩
 have fin:∀ w' xv' LX',(come r x).objs.length=(come r x).objs.length→RunIs w0 (come r x) lv ov xv' LL LO LX'→St w0 w' ((n11,Cs z 64)::(n9,Cs (Obcs x) 170)::(n7,Cs (Evcs e) 45)::(n5,Cs (runCs (come r x) 0 lv ov xv') 64)::(LX'++(LL++(LO++H))))→numb (come r x).objs x=numb r.objs x→
   f85_s0 (Addr.mk n11 0 none) (Addr.mk n5 0 none) i (numb r.objs x:Nat) (Addr.mk n7 0 none) kind w' K:=by
  intro w' xv' LX' _ hr' h' hnu
  have hl:=runCs_len (x:=0) (lv:=lv) (ov:=ov) (xv:=xv') hr'.bl hr'.el
  have h1:=runCs_one (r:=come r x) (x:=0) (slO_one hr'.sl) (slO_one hr'.so) (slO_one hr'.sx)
  rw [f85_s0_eq,BIf_iff]
  constructor
  ·intro hge
   have hge:numb r.objs x≥65536:=by simp at hge; omega
   refine h'.ldA (k:=3) (i:=0) rfl (by simp [hl]) ?_
   rw [List.drop_zero,List.take_of_length_le (by omega)]
   refine h'.stA (k:=0) rfl (by simp [hl]) (by simp [hl,hzl]) h1 fun w2 h2=>?_
   have h2:St w0 w2 ((n11,Cs (splice z 0 (runCs (come r x) 0 lv ov xv')) 64)::(n9,Cs (Obcs x) 170)::(n7,Cs (Evcs e) 45)::(n5,Cs (runCs (come r x) 0 lv ov xv') 64)::(LX'++(LL++(LO++H)))):=h2
   rw [splice_whole (by omega)] at h2
   refine h2.ldA (k:=0) (i:=0) rfl (by simp [hl]) ?_
   rw [List.drop_zero,List.take_of_length_le (by omega)]
   exact hno (by unfold rtouch; rw [if_pos hge]) w2 _ ⟨hl,h1⟩ (((((((h2.tail hn11).tail hn9).tail hn7).tail hn5).sub hr'.nx).sub hr'.nl).sub hr'.no)
  ·intro hlt
   have hlt:¬ numb r.objs x≥65536:=by simp at hlt; omega
   obtain ⟨c1,c2,c3⟩:=come_bd (x:=x) hb
   have hb':Bd (come r x) (n+1):=⟨by rw [c1]; have:=hb.l; omega,by rw [c2]; have:=hb.o; omega,c3⟩
   rw [← hnu]
   refine touch_s1 (ob:=Obcs x) (m:=n+1) hzl ⟨lv,ov,xv',LL,LO,LX',rfl,hr',h'.perm (perm_by fun c=>?_)⟩ hall he hb' (by omega) (fun hf=>hno ?_) fun r' hf=>hyes r' ?_
   ·simp only [List.map_append,List.map_cons,List.sum_append,List.sum_cons]; omega
   ·unfold rtouch; rw [if_neg hlt,← hnu]; exact hf
   ·unfold rtouch; rw [if_neg hlt,← hnu]; exact hf
 rw [BIf_iff]
 constructor
 ·intro heq
  have heq:numb r.objs x=r.objs.length:=by simp at heq; omega
  refine ⟨xa,_,xc,rx h5,?_⟩
  refine h5.ldA (k:=1) (i:=0) rfl (by simp [Obcs]) ⟨⟨rfl,trivial⟩,?_⟩
  refine h5.newC fun n25 w6 hn25 h6=>?_
  have h6:St w0 w6 (((n25,Cs (Obcs x) 170)::(n11,Cs z 64)::(n9,Cs (Obcs x) 170)::(n7,Cs (Evcs e) 45)::[(n5,Cs (runCs r 0 lv ov xv) 64)])++(LX++(LL++(LO++H)))):=h6
  obtain ⟨g,cap,w7,LX',hru,hS,g7,hN⟩:=St.append (P:=P) 62 62 170 Tryz.t170 (.agg #[.bool false,.int .u32 0]) 2 8 Tryz.underlying62 info199 rfl rfl rfl rfl (by omega) h6 hx hr.nx (j:=0) rfl (by simp [Obcs]) (by simp [Obcs,Value.oneCell']) (by simp [maxLen]; omega) (by omega)
  rw [hxv] at hru
  refine ⟨_,_,_,w7,hru,?_⟩
  rw [add_lit',Nat.zero_add]
  refine g7.st1 (k:=4) rfl (by simp [runCs]) rfl fun w8 g8=>?_
  have hcome:come r x={ r with objs:=r.objs++[x] }:=by unfold come; rw [if_pos heq]
  have hS:SlO 2 170 (.slice (some ⟨g,0,none⟩) (r.objs.length+1) cap) (come r x).objs.length (objsCs (come r x).objs) LX':=by
   rw [hcome]
   show SlO 2 170 _ (r.objs++[x]).length (objsCs (r.objs++[x])) LX'
   rw [List.length_append,show objsCs (r.objs++[x])=objsCs r.objs++Obcs x by simp [objsCs]]
   exact hS
  generalize hxv':Value.slice (some ⟨g,0,none⟩) (r.objs.length+1) cap=xv' at *
  have hni:x ∉ r.objs:=by
   intro hm
   have:=List.idxOf_lt_length_of_mem hm
   unfold numb at heq; omega
  refine fin w8 xv' LX' rfl ⟨by rw [hcome]; exact hr.sl,by rw [hcome]; exact hr.so,hS,hr.nl,hr.no,hN,by rw [hcome]; exact hr.bl,by rw [hcome]; exact hr.el⟩ ?_ ?_
  ·rw [hcome]
   exact g8.tail hn25
  ·rw [hcome]
   show (r.objs++[x]).idxOf x=r.objs.idxOf x
   rw [List.idxOf_append,if_neg hni,List.idxOf_eq_length hni]
   simp
 ·intro hne
  have hne:¬ numb r.objs x=r.objs.length:=by simp at hne; omega
  have hcome:come r x=r:=by unfold come; rw [if_neg hne]
  refine fin w5 xv LX rfl (by rw [hcome]; exact hr) ?_ (by rw [hcome])
  rw [hcome]
  exact h5
end Go.Fx.Tryz
namespace Go.Fx.Mo
def wordOf (e:Ev) (i:Int):Ob:=(true,w32 ((w32 (e.a+w32 i)).tdiv 4))
def wstep (e:Ev) (l:List Ob) (i:Nat):List Ob:=if l.getLast?=some (wordOf e i) then l else l++[wordOf e i]
def words (e:Ev):List Ob:=(List.range e.n.toNat).foldl (wstep e) []
theorem wstep_len (e:Ev) (l:List Ob) (i:Nat):(wstep e l i).length≤l.length+1:=by
 unfold wstep
 split <;> simp
theorem wfold_len (e:Ev):∀ i:Nat,((List.range i).foldl (wstep e) []).length≤i
 | 0=>by simp
 | i+1=>by
  rw [List.range_succ,List.foldl_append]
  have:=wfold_len e i
  refine Nat.le_trans (wstep_len _ _ _) ?_
  omega
def rtouches (e:Ev) (i:Int):List Ob→RR→Option RR
 | [],r=>some r
 | x::t,r=>match rtouch r 4 e x i with
  | none=>none
  | some r'=>rtouches e i t r'
def rwith (r:RR) (e:Ev) (i:Int):Option RR:=
 if shaped e=false then none else
 if e.kind=4 then rtouches e i (words e) r else
 if e.kind=14 then rtouch r 3 e (false,e.a) i else
 if e.kind=15 then rtouch r 2 e (false,e.a) i else
 if e.kind=11 then rput r ⟨5,e.th,e.n,0⟩ i else
 if e.kind=13 then rput r ⟨6,e.th,e.n,0⟩ i else rput r ⟨1,e.th,0,0⟩ i
theorem rtouches_bd {e:Ev} {i:Int}:∀ {l:List Ob} {r r':RR} {n:Nat},rtouches e i l r=some r'→Bd r n→Bd r' (n+l.length)
 | [],r,r',n,h,hb=>by
  cases h
  exact hb
 | x::t,r,r',n,h,hb=>by
  unfold rtouches at h
  split at h
  ·cases h
  ·rename_i r2 h2
   have:=rtouches_bd h (rtouch_bd h2 hb)
   rw [List.length_cons,show n+(t.length+1)=n+1+t.length by omega]
   exact this
theorem shaped_th {e:Ev} (h:shaped e=true):0≤e.th∧e.th < 8∧(e.kind=4→e.n≤16):=by
 unfold shaped at h
 split at h
 ·cases h
 ·rename_i hk
  refine ⟨by omega,by omega,fun h4=>?_⟩
  rw [if_pos h4] at h
  simp at h
  exact h.2
theorem Bd.more {r:RR} {n m:Nat} (h:Bd r n) (hm:n≤m):Bd r m:=⟨by have:=h.l; omega,by have:=h.o; omega,by have:=h.x; omega⟩
theorem rwith_bd {r r':RR} {e:Ev} {i:Int} {n:Nat} (h:rwith r e i=some r') (hb:Bd r n):Bd r' (n+16):=by
 unfold rwith at h
 cases hs:shaped e
 ·rw [if_pos hs] at h; cases h
 ·rw [if_neg (by simp [hs])] at h
  split at h
  ·rename_i h4
   have h16:=(shaped_th hs).2.2 h4
   refine (rtouches_bd h hb).more ?_
   have:=wfold_len e e.n.toNat
   unfold words
   omega
  ·split at h
   ·exact (rtouch_bd h hb).more (by omega)
   ·split at h
    ·exact (rtouch_bd h hb).more (by omega)
    ·split at h
     ·exact (rput_bd h hb).more (by omega)
     ·split at h
      ·exact (rput_bd h hb).more (by omega)
      ·exact (rput_bd h hb).more (by omega)
end Go.Fx.Mo
namespace Go.Fx.Tryz
open Go Go.Fx Go.Fx.Mo
open Go.Proofs
variable {w0 w:World} {H Y:HL} {K:KT}
set_option maxRecDepth 20000
theorem bs110 (w:World):(Instr.buildSlice 62 0 ([]:List (Nat × Value)).toArray).run P w=.ok (.slice (some ⟨w.heap.size,0,none⟩) 0 0) (w.alloc (.cells #[] 170 (0,0))):=by kernel_rfl
theorem build199 (b:Bool) (x:Int) (wq:World):(Instr.build 170 [(0,(Value.bool b)),(1,(Value.int .u32 x))].toArray).run P wq=.ok (.agg (Obcs (b,x)).toArray) wq:=by kernel_rfl
theorem build199f (x:Int) (wq:World):(Instr.build 170 [(1,(Value.int .u32 x))].toArray).run P wq=.ok (.agg (Obcs (false,x)).toArray) wq:=by kernel_rfl
theorem z199:zcells P 170=#[.bool false,.int .u32 0]:=by kernel_rfl
theorem slO_nil0 (size:Nat) (e:TypeId) (n:Nat):SlO size e (.slice (some ⟨n,0,none⟩) 0 0) 0 [] [(n,Cs [] e)]:=⟨by simp,.inr ⟨n,0,[],rfl,rfl,by omega,by simp [maxLen],by simp,by simp⟩⟩
theorem words_ok {e:Ev} (h:St w0 w H) (h16:e.n≤16) (hK:∀ w' a c Lo,SlO 2 170 (.slice a (words e).length c) (words e).length (objsCs (words e)) Lo→New w0 Lo→St w0 w' (Lo++H)→K (.slice a (words e).length c) w') :
  CallL P 84 [.agg (Evcs e).toArray] w K:=by
 refine f84_ok _ _ _ ?_
 rw [f84_eq,f84_s0_eq]
 refine h.newC fun n2 w1 hn2 h1=>?_
 rw [f84_s1_eq]
 refine ⟨_,_,_,_,bs110 w1,?_⟩
 have h2:=h1.alloc (.cells #[] 170 (0,0))
 have hn:=h1.le
 generalize w1.heap.size=n at h2 hn
 have h2:St w0 (w1.alloc (.cells #[] 170 (0,0))) ([(n,Cs [] 170)]++((n2,Cs (Evcs e) 45)::H)):=h2
 rw [f84_s2_eq,f84_s3_eq]
 refine ⟨fun m ee w=>∃ (i:Nat) (l:List Ob) (a:Option Addr) (c:Nat) (Lt:HL),l=(List.range i).foldl (wstep e) []∧i≤e.n.toNat∧m=e.n.toNat - i∧
  ee=Env.mk 38 [(4,(Value.int .i64 i)),(3,(Value.slice a l.length c)),(1,(Value.pointer (some (Addr.mk n2 0 none)))),(2,(Value.slice none 0 0))] []∧
  SlO 2 170 (.slice a l.length c) l.length (objsCs l) Lt∧New w0 Lt∧St w0 w (Lt++((n2,Cs (Evcs e) 45)::H)),
  ⟨e.n.toNat,0,[],_,_,[(n,Cs [] 170)],rfl,by omega,rfl,rfl,slO_nil0 2 170 n,by simpa [New] using hn,h2⟩,?_⟩
 rintro m ee w ⟨i,l,a,c,Lt,hl,hi,rfl,rfl,hS,hN,hw⟩
 show f84_lb4 ..
 rw [f84_lb4_eq]
 have hln:l.length≤i:=by rw [hl]; exact wfold_len e i
 have rd:∀ {w':World} {Z:HL} {j:Nat} {v:Value},St w0 w' (Z++((n2,Cs (Evcs e) 45)::H))→(Evcs e)[j]?=some v→w'.cell? ((Addr.mk n2 0 none).add j)=some v:=fun h' hv=>by
  rw [add_lit',Nat.zero_add,cell_of (h'.has n2 (Cs (Evcs e) 45) (by simp))]; exact hv
 refine ⟨_,rd hw rfl,?_⟩
 rw [BIf_iff]
 constructor
 ·intro hlt
  have hlt:(i:Int) < e.n:=by simpa using hlt
  rw [f84_s5_eq]
  refine ⟨_,rd hw rfl,by decide,_,fun wq=>build199 true _ wq,?_⟩
  rw [z199]
  refine hw.newC fun n35 w3 hn35 h3=>h3.stA (k:=0) rfl rfl (by simp) (by simp [Obcs,Value.oneCell']) fun w4 h4=>?_
  have h4:St w0 w4 ((n35,Cs (Obcs (wordOf e i)) 170)::(Lt++((n2,Cs (Evcs e) 45)::H))):=h4
  have hd:=h4.drew
  generalize hY:(fun e' w'=>∃ m,m < e.n.toNat - i∧∃ (i:Nat) (l:List Ob) (a:Option Addr) (c:Nat) (Lt:HL),l=(List.range i).foldl (wstep e) []∧i≤e.n.toNat∧m=e.n.toNat - i∧
   e'=Env.mk 38 [(4,(Value.int .i64 i)),(3,(Value.slice a l.length c)),(1,(Value.pointer (some (Addr.mk n2 0 none)))),(2,(Value.slice none 0 0))] []∧
   SlO 2 170 (.slice a l.length c) l.length (objsCs l) Lt∧New w0 Lt∧St w0 w' (Lt++((n2,Cs (Evcs e) 45)::H)))=Y
  have hstep:(List.range (i+1)).foldl (wstep e) []=wstep e l i:=by rw [List.range_succ,List.foldl_append,← hl]; rfl
  have wr:IntKind.wrap .i64 ((i:Int)+1)=((i+1:Nat):Int):=by rw [wrap_i64 (by omega) (by omega)]; rfl
  have new:∀ w5,St w0 w5 ((n35,Cs (Obcs (wordOf e i)) 170)::(Lt++((n2,Cs (Evcs e) 45)::H)))→l.getLast?≠some (wordOf e i)→f84_s6 true (Addr.mk n2 0 none) none 0 0 (i:Int) (Addr.mk n35 0 none) a l.length c w5 K Y:=by
   intro w5 h5 hne
   rw [f84_s6_eq,BIf_true]
   refine h5.ldA (k:=0) (i:=0) rfl (by simp [Obcs]) ⟨⟨rfl,trivial⟩,?_⟩
   refine h5.newC fun n49 w6 hn49 h6=>?_
   have h6:St w0 w6 (((n49,Cs (Obcs (wordOf e i)) 170)::[(n35,Cs (Obcs (wordOf e i)) 170)])++(Lt++((n2,Cs (Evcs e) 45)::H))):=h6
   obtain ⟨g,cap,w7,L',hru,hS',g7,hN'⟩:=St.append (P:=P) 62 62 170 Tryz.t170 (.agg #[.bool false,.int .u32 0]) 2 8 Tryz.underlying62 info199 rfl rfl rfl rfl (by omega) h6 hS hN (j:=0) rfl (by simp [Obcs]) (by simp [Obcs,Value.oneCell']) (by simp [maxLen]; omega) (by omega)
   refine ⟨_,_,_,w7,hru,?_⟩
   have e1:wstep e l i=l++[wordOf e i]:=by unfold wstep; rw [if_neg hne]
   have e2:l.length+1=(l++[wordOf e i]).length:=by simp
   rw [e2] at hS' ⊢
   rw [f84_s7_eq,← hY]
   refine ⟨e.n.toNat - (i+1),by omega,i+1,l++[wordOf e i],some ⟨g,0,none⟩,cap,L',by rw [hstep,e1],by omega,rfl,by rw [wr],?_,hN',(g7.tail hn49).tail hn35⟩
   rw [show objsCs (l++[wordOf e i])=objsCs l++Obcs (wordOf e i) by simp [objsCs]]
   exact hS'
  have old:∀ w5,St w0 w5 ((n35,Cs (Obcs (wordOf e i)) 170)::(Lt++((n2,Cs (Evcs e) 45)::H)))→l.getLast?=some (wordOf e i)→f84_s6 false (Addr.mk n2 0 none) none 0 0 (i:Int) (Addr.mk n35 0 none) a l.length c w5 K Y:=by
   intro w5 h5 heq
   rw [f84_s6_eq,BIf_false,f84_s7_eq,← hY]
   refine ⟨e.n.toNat - (i+1),by omega,i+1,l,a,c,Lt,?_,by omega,rfl,by rw [wr],hS,hN,h5.tail hn35⟩
   rw [hstep]; unfold wstep; rw [if_pos heq]
  refine ⟨l.length,fun wq _=>run_len_110 wq,?_⟩
  rcases List.eq_nil_or_concat l with h0 | ⟨l0,x0,h0⟩
  ·have hl0:l.length=0:=by rw [h0]; rfl
   have hb:(((l.length:Nat):Int) == 0)=true:=by rw [hl0]; rfl
   rw [hb,BIf_true]
   exact new _ hd (by rw [h0]; simp)
  ·have hl0:l.length=l0.length+1:=by rw [h0]; simp
   have hb:(((l.length:Nat):Int) == 0)=false:=by rw [hl0]; simp; omega
   rw [hb,BIf_false]
   refine ⟨l.length,fun wq _=>run_len_110 wq,?_⟩
   have hw1:IntKind.wrap .i64 (((l.length:Nat):Int) - 1)=(l0.length:Int):=by rw [wrap_i64 (by omega) (by omega)]; omega
   rw [hw1]
   obtain ⟨g,cc,hg,hld⟩:=slO_ldA hS (w:=w4.drew) (i:=l0.length) (fun y hy=>hd.has _ _ (by simp [hy])) (by omega)
   obtain ⟨hsa,-⟩:a=some ⟨g,0,none⟩∧c=cc:=by simpa using hg
   subst hsa
   refine ⟨by omega,by omega,hld _ ?_⟩
   have hlast:l[l0.length]'(by omega)=x0:=by subst h0; simp
   rw [objs_at (by omega),hlast]
   refine hd.ldA (k:=0) (i:=0) rfl (by simp [Obcs]) ?_
   rw [show ((Obcs (wordOf e i)).drop 0).take 2=Obcs (wordOf e i) from rfl]
   refine ⟨_,fun wq=>neop199 29 30 wq x0 (wordOf e i),?_⟩
   have hgl:l.getLast?=some x0:=by rw [h0]; simp
   by_cases hx:x0=wordOf e i
   ·rw [decide_eq_true hx,Bool.not_true]
    exact old _ hd (by rw [hgl,hx])
   ·rw [decide_eq_false hx,Bool.not_false]
    exact new _ hd (by rw [hgl]; simpa using hx)
 ·intro hge
  have hge:e.n≤(i:Int):=by simpa using hge
  have:i=e.n.toNat:=by omega
  subst this
  rw [f84_s8_eq]
  have hl:l=words e:=hl
  subst hl
  refine hK w a c Lt hS hN (St.tail (b:=n2) (o:=Cs (Evcs e) 45) (hw.perm List.perm_middle) hn2)
end Go.Fx.Tryz
namespace Go.Fx.Tryz
open Go Go.Fx Go.Fx.Mo
open Go.Proofs
variable {w0 w:World} {H Y:HL} {K:KT}
set_option maxRecDepth 20000
theorem build99s (k t n:Int) (wq:World):(Instr.build 72 [(0,(Value.int .i64 k)),(1,(Value.int .i64 t)),(2,(Value.int .i64 n))].toArray).run P wq=.ok (.agg (Ordcs ⟨k,t,n,0⟩).toArray) wq:=by kernel_rfl
theorem build99o (k t:Int) (wq:World):(Instr.build 72 [(0,(Value.int .i64 k)),(1,(Value.int .i64 t))].toArray).run P wq=.ok (.agg (Ordcs ⟨k,t,0,0⟩).toArray) wq:=by kernel_rfl
theorem keep20 {n:Nat} {z cs:List Value} {J:HL} {Q:Array Value→World→Prop} (hz:z.length=20) (hc:Any20 cs) (h:St w0 w ((n,Cs z 64)::J)) (hk:∀ w2,St w0 w2 ((n,Cs cs 64)::J)→Q cs.toArray w2) :
  StA 20 (Addr.mk n 0 none) cs.toArray w (fun w'=>LdA 20 (Addr.mk n 0 none) w' (fun c=>Q c w')):=by
 refine h.stA (k:=0) rfl (by simp [hc.len]) (by simp [hz,hc.len]) hc.one fun w2 h2=>?_
 have h2:St w0 w2 ((n,Cs (splice z 0 cs) 64)::J):=h2
 rw [splice_whole (by rw [hc.len,hz])] at h2
 refine h2.ldA (k:=0) (i:=0) rfl (by simp [hc.len]) ?_
 rw [List.drop_zero,List.take_of_length_le (by rw [hc.len]; omega)]
 exact hk w2 h2
theorem ld20 {k n:Nat} {cs:List Value} {J:HL} {Q:Array Value→Prop} (h:St w0 w J) (hk:J[k]?=some (n,Cs cs 64)) (hc:Any20 cs) (hq:Q cs.toArray):LdA 20 (Addr.mk n 0 none) w Q:=by
 refine h.ldA hk (i:=0) (by simp [hc.len]) ?_
 rw [List.drop_zero,List.take_of_length_le (by rw [hc.len]; omega)]
 exact hq
section
variable {n10 n8 n6:Nat} {z:List Value} {e:Ev} {r:RR} {n:Nat} {i:Int} {ws:List Ob} {Lo:HL}
abbrev withH (n10 n8 n6:Nat) (z:List Value) (e:Ev) (cs:List Value) (R:HL):List (Nat × Obj):=(n10,Cs z 64)::(n8,Cs (Evcs e) 45)::(n6,Cs cs 64)::R
theorem with_end {Q:Option RR→Prop} {cs:List Value} (hz:z.length=20) (hn:∀ y∈[n10,n8,n6],w0.heap.size≤y) :
  (∀ (b:Bool) w' cs',Any20 cs'→St w0 w' (withH n10 n8 n6 z e cs H)→(∀ w2,St w0 w2 H→K (.tuple [.agg cs'.toArray,.bool b].toArray) w2)→
   StA 20 (Addr.mk n10 0 none) cs'.toArray w' (fun w2=>LdA 20 (Addr.mk n10 0 none) w2 (fun c=>K (.tuple [.agg c,.bool b].toArray) w2)))∧
  (∀ w' cs' r',RunS w0 w' r' cs' (withH n10 n8 n6 z e cs H)→(∀ w2,RunS w0 w2 r' cs' H→K (.tuple [.agg cs'.toArray,.bool true].toArray) w2)→
   StA 20 (Addr.mk n10 0 none) cs'.toArray w' (fun w2=>LdA 20 (Addr.mk n10 0 none) w2 (fun c=>K (.tuple [.agg c,.bool true].toArray) w2))):=by
 have h10:=hn n10 (by simp)
 have h8:=hn n8 (by simp)
 have h6:=hn n6 (by simp)
 refine ⟨fun b w' cs' hc h' hk=>keep20 (Q:=fun c w2=>K (.tuple [.agg c,.bool b].toArray) w2) hz hc h' fun w2 h2=>hk w2 (((h2.tail h10).tail h8).tail h6),fun w' cs' r' h' hk=>?_⟩
 obtain ⟨Z,hZ,hs,hback⟩:=h'.open'
 refine keep20 (Q:=fun c w2=>K (.tuple [.agg c,.bool true].toArray) w2) hz h'.any hs fun w2 h2=>hk w2 ?_
 exact (((hback w2 ((n10,Cs cs' 64)::(n8,Cs (Evcs e) 45)::(n6,Cs cs 64)::H) h2).tail h10).tail h8).tail h6
theorem atomic_loop {cs:List Value} {wa:Option Addr} {wc:Nat} (hz:z.length=20) (hzc:zcells P 64=z.toArray) (hn:∀ y∈[n10,n8,n6],w0.heap.size≤y) (he:0≤e.th∧e.th < 8) (hb:Bd r n) (hm:n < 1000000)
  (hS:SlO 2 170 (.slice wa ws.length wc) ws.length (objsCs ws) Lo) (hN:New w0 Lo) (hwl:ws.length≤16) (h:RunS w0 w r cs (withH n10 n8 n6 z e cs (Lo++H)))
  (hno:rtouches e i ws r=none→∀ w' cs',Any20 cs'→St w0 w' H→K (.tuple [.agg cs'.toArray,.bool false].toArray) w')
  (hyes:∀ r',rtouches e i ws r=some r'→∀ w' cs',RunS w0 w' r' cs' H→K (.tuple [.agg cs'.toArray,.bool true].toArray) w') (b0:Bool) :
  LoopE (f58_lp7 K) (Env.mk 98 [(6,(Value.pointer (some (Addr.mk n10 0 none)))),(2,I64 i),(4,(Value.pointer (some (Addr.mk n8 0 none)))),(3,(Value.pointer (some (Addr.mk n6 0 none)))),(9,I64 0),(8,(Value.slice wa ws.length wc)),(7,(Value.bool b0))] []) w:=by
 have h10:=hn n10 (by simp)
 have h8:=hn n8 (by simp)
 have h6:=hn n6 (by simp)
 refine ⟨fun m ee w=>∃ (j:Nat) (rj:RR) (csj:List Value),j≤ws.length∧m=ws.length - j∧ee=Env.mk 98 [(6,(Value.pointer (some (Addr.mk n10 0 none)))),(2,I64 i),(4,(Value.pointer (some (Addr.mk n8 0 none)))),(3,(Value.pointer (some (Addr.mk n6 0 none)))),(9,I64 (j:Nat)),(8,(Value.slice wa ws.length wc)),(7,(Value.bool b0))] []∧
   rtouches e i (ws.drop j) rj=rtouches e i ws r∧Bd rj (n+j)∧RunS w0 w rj csj (withH n10 n8 n6 z e csj (Lo++H)),
  ⟨ws.length,0,r,cs,by omega,rfl,rfl,rfl,hb,h⟩,?_⟩
 rintro m ee w1 ⟨j,rj,csj,hj,rfl,rfl,hrt,hbj,hw⟩
 show f58_lb7 ..
 rw [f58_lb7_eq]
 refine ⟨ws.length,fun wq _=>run_len_110 wq,?_⟩
 rw [BIf_iff]
 constructor
 ·intro hlt
  have hlt:j < ws.length:=by simpa using hlt
  rw [f58_s8_eq]
  obtain ⟨Z,hZ,hs,hback⟩:=hw.open'
  have hd:=hs.drew
  obtain ⟨g,cc,hg,hld⟩:=slO_ldA hS (w:=w1.drew) (i:=j) (fun y hy=>hd.has _ _ (by simp [hy])) hlt
  obtain ⟨hsa,-⟩:wa=some ⟨g,0,none⟩∧wc=cc:=by simpa using hg
  subst hsa
  refine ⟨by omega,by omega,?_⟩
  refine ld20 hd (k:=2) rfl hw.any ?_
  refine hd.ldA (k:=1) (i:=0) rfl (by simp [Evcs_len]) (hld _ ?_)
  rw [objs_at hlt]
  have hwd:=hback w1.drew _ hd
  have hdrop:ws.drop j=ws[j]::ws.drop (j+1):=List.drop_eq_getElem_cons hlt
  rw [hdrop,rtouches] at hrt
  generalize hY:(fun e' w'=>∃ m,m < ws.length - j∧∃ (j:Nat) (rj:RR) (csj:List Value),j≤ws.length∧m=ws.length - j∧e'=Env.mk 98 [(6,(Value.pointer (some (Addr.mk n10 0 none)))),(2,I64 i),(4,(Value.pointer (some (Addr.mk n8 0 none)))),(3,(Value.pointer (some (Addr.mk n6 0 none)))),(9,I64 (j:Nat)),(8,(Value.slice (some ⟨g,0,none⟩) ws.length wc)),(7,(Value.bool b0))] []∧
   rtouches e i (ws.drop j) rj=rtouches e i ws r∧Bd rj (n+j)∧RunS w0 w' rj csj (withH n10 n8 n6 z e csj (Lo++H)))=Y
  have bad:∀ (w':World) (n99:Nat) (cs':List Value),w0.heap.size≤n99→rtouch rj 4 e ws[j] i=none→Any20 cs'→St w0 w' ((n99,Cs z 64)::withH n10 n8 n6 z e csj (Lo++H))→
    StA 20 (Addr.mk n99 0 none) cs'.toArray w' (fun w2=>f58_s9 (Addr.mk n10 0 none) i (Addr.mk n8 0 none) (Addr.mk n6 0 none) (some ⟨g,0,none⟩) ws.length wc (j:Nat) b0 (Addr.mk n99 0 none) false w2 K Y):=by
   intro w' n99 cs' hn99 hf hc h'
   refine h'.stA (k:=0) rfl (by simp [hc.len]) (by simp [hz,hc.len]) hc.one fun w2 h2=>?_
   have h2:St w0 w2 ((n99,Cs (splice z 0 cs') 64)::withH n10 n8 n6 z e csj (Lo++H)):=h2
   rw [f58_s9_eq,Bool.not_false,BIf_true]
   have h3:=h2.tail hn99
   refine ld20 h3 (k:=2) rfl hw.any ?_
   refine (with_end (Q:=fun _=>True) (H:=Lo++H) hz hn).1 false w2 csj hw.any h3 fun w4 h4=>hno ?_ w4 csj hw.any (h4.sub hN)
   rw [← hrt,hf]
  have good:∀ (w':World) (n99:Nat) (cs':List Value) (r':RR),w0.heap.size≤n99→rtouch rj 4 e ws[j] i=some r'→RunS w0 w' r' cs' ((n99,Cs z 64)::withH n10 n8 n6 z e csj (Lo++H))→
    StA 20 (Addr.mk n99 0 none) cs'.toArray w' (fun w2=>f58_s9 (Addr.mk n10 0 none) i (Addr.mk n8 0 none) (Addr.mk n6 0 none) (some ⟨g,0,none⟩) ws.length wc (j:Nat) b0 (Addr.mk n99 0 none) true w2 K Y):=by
   intro w' n99 cs' r' hn99 hf h'
   have hc:=h'.any
   obtain ⟨Z',hZ',hs',hback'⟩:=h'.open'
   refine hs'.stA (k:=0) rfl (by simp [hc.len]) (by simp [hz,hc.len]) hc.one fun w2 h2=>?_
   have h2:St w0 w2 ((n99,Cs (splice z 0 cs') 64)::(withH n10 n8 n6 z e csj (Lo++H)++Z')):=h2
   rw [splice_whole (by rw [hc.len,hz])] at h2
   rw [f58_s9_eq,Bool.not_true,BIf_false,f58_s10_eq]
   refine ld20 h2 (k:=0) rfl hc ?_
   refine h2.stA (k:=3) rfl (by simp [hc.len]) (by simp [hw.any.len,hc.len]) hc.one fun w3 h3=>?_
   have h3:St w0 w3 ((n99,Cs cs' 64)::(withH n10 n8 n6 z e (splice csj 0 cs') (Lo++H)++Z')):=h3
   rw [splice_whole (by rw [hc.len,hw.any.len])] at h3
   rw [f58_s11_eq,← hY]
   refine ⟨ws.length - (j+1),by omega,j+1,r',cs',by omega,rfl,?_,?_,rtouch_bd hf hbj,hback' w3 _ (h3.tail hn99)⟩
   ·rw [wrap_i64 (by omega) (by omega)]; rfl
   ·rw [← hrt,hf]
  constructor
  ·refine touch_ok hwd he hbj (by omega) (fun hf w' cs' hc h'=>⟨_,false,rfl,?_⟩) (fun r' hf w' cs' h'=>⟨_,true,rfl,?_⟩)
   ·rw [hzc]
    exact h'.newC fun n99 w2 hn99 h2=>bad w2 n99 cs' hn99 hf hc h2
   ·rw [hzc]
    exact h'.newC fun n99 w2 hn99 h2=>good w2 n99 cs' r' hn99 hf h2
  ·rw [hzc]
   refine hwd.newC fun n131 w2 hn131 h2=>?_
   refine touch_ok h2 he hbj (by omega) (fun hf w' cs' hc h'=>⟨_,false,rfl,bad w' n131 cs' hn131 hf hc h'⟩) (fun r' hf w' cs' h'=>⟨_,true,rfl,good w' n131 cs' r' hn131 hf h'⟩)
 ·intro hge
  have hge:ws.length≤j:=by simpa using hge
  have:j=ws.length:=by omega
  subst this
  rw [f58_s12_eq]
  rw [List.drop_length,rtouches] at hrt
  obtain ⟨Z,hZ,hs,hback⟩:=hw.open'
  refine ld20 hs (k:=2) rfl hw.any ?_
  refine (with_end (Q:=fun _=>True) (H:=Lo++H) hz hn).2 w1 csj rj hw fun w2 h2=>hyes rj hrt.symm w2 csj ?_
  obtain ⟨Z',hZ',hs',hback'⟩:=h2.open'
  exact hback' w2 H (St.sub (L:=Lo) (by rw [List.append_assoc] at hs'; exact hs') hN)
end
theorem with_ok {cs:List Value} {r:RR} {e:Ev} {i:Int} {n:Nat} (h:RunS w0 w r cs H) (hb:Bd r n) (hm:n < 1000000)
  (hno:rwith r e i=none→∀ w' cs',Any20 cs'→St w0 w' H→K (.tuple [.agg cs'.toArray,.bool false].toArray) w')
  (hyes:∀ r',rwith r e i=some r'→∀ w' cs',RunS w0 w' r' cs' H→K (.tuple [.agg cs'.toArray,.bool true].toArray) w') :
  CallL P 58 [.agg cs.toArray,.agg (Evcs e).toArray,.int .i64 i] w K:=by
 refine f58_ok _ _ _ _ _ ?_
 obtain ⟨z,hz,hzl⟩:=z113
 rw [f58_eq,f58_s0_eq,hz]
 refine h.newC fun n6 w1 hn6 g1=>g1.newC fun n8 w2 hn8 g2=>g2.newC fun n10 w3 hn10 g3=>?_
 have g3:RunS w0 w3 r cs (withH n10 n8 n6 z e cs H):=g3
 have hn:∀ y∈[n10,n8,n6],w0.heap.size≤y:=by
  intro y hy
  simp at hy
  rcases hy with rfl | rfl | rfl <;> assumption
 obtain ⟨Z,hZ,hs,hback⟩:=g3.open'
 rw [f58_s1_eq]
 refine hs.ldA (k:=1) (i:=0) rfl (by simp [Evcs_len]) ?_
 refine shaped_ok hs e fun w4 h4=>⟨_,rfl,?_⟩
 have g4:=hback w4 _ h4
 have ends:=with_end (w0:=w0) (K:=K) (e:=e) (cs:=cs) (H:=H) (Q:=fun _=>True) hzl hn
 cases hsh:shaped e
 ·rw [Bool.not_false,BIf_true]
  refine ld20 h4 (k:=2) rfl g4.any ?_
  exact ends.1 false w4 cs g4.any g4.base fun w5 h5=>hno (by unfold rwith; rw [if_pos hsh]) w5 cs g4.any h5
 ·rw [Bool.not_true,BIf_false,f58_s2_eq]
  obtain ⟨h0,h8,h16⟩:=shaped_th hsh
  have hsf:¬ shaped e=false:=by simp [hsh]
  unfold rwith at hno hyes
  simp only [if_neg hsf] at hno hyes
  have rd:∀ {j:Nat} {v:Value},(Evcs e)[j]?=some v→w4.cell? ((Addr.mk n8 0 none).add j)=some v:=fun hv=>by
   rw [add_lit',Nat.zero_add,h4.cell (k:=1) rfl]; exact hv
  have rd0:∀ {v:Value},(Evcs e)[0]?=some v→w4.cell? (Addr.mk n8 0 none)=some v:=fun hv=>by
   rw [h4.cell (k:=1) rfl]; exact hv
  refine ⟨_,rd0 rfl,?_⟩
  rw [f58_s3_eq]
  cases k4:(e.kind == 4)
  ·have k4':¬ e.kind=4:=by simpa using k4
   simp only [if_neg k4'] at hno hyes
   rw [BIf_false]
   cases k14:(e.kind == 14)
   ·have k14':¬ e.kind=14:=by simpa using k14
    simp only [if_neg k14'] at hno hyes
    rw [BIf_false]
    cases k15:(e.kind == 15)
    ·have k15':¬ e.kind=15:=by simpa using k15
     simp only [if_neg k15'] at hno hyes
     rw [BIf_false]
     cases k11:(e.kind == 11)
     ·have k11':¬ e.kind=11:=by simpa using k11
      simp only [if_neg k11'] at hno hyes
      rw [BIf_false]
      cases k13:(e.kind == 13)
      ·have k13':¬ e.kind=13:=by simpa using k13
       simp only [if_neg k13'] at hno hyes
       rw [BIf_false,f58_s13_eq]
       refine ld20 h4 (k:=2) rfl g4.any ?_
       refine ⟨_,rd rfl,_,fun wq=>build99o 1 e.th wq,?_⟩
       exact putS_ok g4 ⟨h0,h8⟩ hb (by omega) (fun hf w' cs' hc h'=>⟨_,false,rfl,ends.1 false w' cs' hc h' fun w2 h2=>hno hf w2 cs' hc h2⟩) (fun r' hf w' cs' h'=>⟨_,true,rfl,ends.2 w' cs' r' h' fun w2 h2=>hyes r' hf w2 cs' h2⟩)
      ·have k13':e.kind=13:=by simpa using k13
       simp only [if_pos k13'] at hno hyes
       rw [BIf_true]
       refine ld20 h4 (k:=2) rfl g4.any ?_
       refine ⟨_,rd rfl,_,rd rfl,_,fun wq=>build99s 6 e.th e.n wq,?_⟩
       exact putS_ok g4 ⟨h0,h8⟩ hb (by omega) (fun hf w' cs' hc h'=>⟨_,false,rfl,ends.1 false w' cs' hc h' fun w2 h2=>hno hf w2 cs' hc h2⟩) (fun r' hf w' cs' h'=>⟨_,true,rfl,ends.2 w' cs' r' h' fun w2 h2=>hyes r' hf w2 cs' h2⟩)
     ·have k11':e.kind=11:=by simpa using k11
      simp only [if_pos k11'] at hno hyes
      rw [BIf_true]
      refine ld20 h4 (k:=2) rfl g4.any ?_
      refine ⟨_,rd rfl,_,rd rfl,_,fun wq=>build99s 5 e.th e.n wq,?_⟩
      exact putS_ok g4 ⟨h0,h8⟩ hb (by omega) (fun hf w' cs' hc h'=>⟨_,false,rfl,ends.1 false w' cs' hc h' fun w2 h2=>hno hf w2 cs' hc h2⟩) (fun r' hf w' cs' h'=>⟨_,true,rfl,ends.2 w' cs' r' h' fun w2 h2=>hyes r' hf w2 cs' h2⟩)
    ·have k15':e.kind=15:=by simpa using k15
     simp only [if_pos k15'] at hno hyes
     rw [BIf_true]
     refine ld20 h4 (k:=2) rfl g4.any ?_
     refine h4.ldA (k:=1) (i:=0) rfl (by simp [Evcs_len]) ?_
     refine ⟨_,rd rfl,_,fun wq=>build199f e.a wq,?_⟩
     exact touch_ok g4 ⟨h0,h8⟩ hb (by omega) (fun hf w' cs' hc h'=>⟨_,false,rfl,ends.1 false w' cs' hc h' fun w2 h2=>hno hf w2 cs' hc h2⟩) (fun r' hf w' cs' h'=>⟨_,true,rfl,ends.2 w' cs' r' h' fun w2 h2=>hyes r' hf w2 cs' h2⟩)
   ·have k14':e.kind=14:=by simpa using k14
    simp only [if_pos k14'] at hno hyes
    rw [BIf_true]
    refine ld20 h4 (k:=2) rfl g4.any ?_
    refine h4.ldA (k:=1) (i:=0) rfl (by simp [Evcs_len]) ?_
    refine ⟨_,rd rfl,_,fun wq=>build199f e.a wq,?_⟩
    exact touch_ok g4 ⟨h0,h8⟩ hb (by omega) (fun hf w' cs' hc h'=>⟨_,false,rfl,ends.1 false w' cs' hc h' fun w2 h2=>hno hf w2 cs' hc h2⟩) (fun r' hf w' cs' h'=>⟨_,true,rfl,ends.2 w' cs' r' h' fun w2 h2=>hyes r' hf w2 cs' h2⟩)
  ·have k4':e.kind=4:=by simpa using k4
   simp only [if_pos k4'] at hno hyes
   rw [BIf_true,f58_s4_eq]
   refine h4.ldA (k:=1) (i:=0) rfl (by simp [Evcs_len]) ?_
   refine words_ok h4 (h16 k4') fun w5 a c Lo hS hN h5=>⟨a,_,c,rfl,?_⟩
   rw [f58_s5_eq,f58_s6_eq]
   have hwl:(words e).length≤16:=by
    have:=wfold_len e e.n.toNat
    have:=h16 k4'
    unfold words; omega
   refine atomic_loop hzl hz hn ⟨h0,h8⟩ hb hm hS hN hwl (hback w5 _ (h5.perm (perm_by fun f=>?_))) hno hyes false
   simp only [List.map_append,List.map_cons,List.sum_append,List.sum_cons]; omega
end Go.Fx.Tryz
namespace Go.Fx.Mo
def rsteps:List Ev→Int→RR→Option RR
 | [],_,r=>some r
 | e::t,i,r=>match rwith r e i with
  | none=>none
  | some r'=>rsteps t (i+1) r'
def rord (l:List Ev):RR ⊕ Int:=if l.length > 20000 then .inr 2 else match rsteps l 0 rr0 with
 | none=>.inr 300
 | some r=>.inl r
end Go.Fx.Mo
namespace Go.Fx.Tryz
open Go Go.Fx Go.Fx.Mo
open Go.Proofs
variable {w0 w:World} {H Y:HL} {K:KT}
set_option maxRecDepth 20000
def errCs (x:Int):List Value:=[nilS,nilS,nilS]++(List.replicate 16 (.bool false)++[I64 x])
theorem z113e:zcells P 64=(errCs 0).toArray:=by kernel_rfl
theorem build113 (wq:World):(Instr.build 64 [].toArray).run P wq=.ok (.agg (errCs 0).toArray) wq:=by kernel_rfl
theorem build113x (x:Int) (wq:World):(Instr.build 64 [(5,(Value.int .i64 x))].toArray).run P wq=.ok (.agg (errCs x).toArray) wq:=by kernel_rfl
theorem errCs_any (x:Int):Any20 (errCs x):=⟨by simp [errCs],fun v hv=>by
 simp [errCs] at hv
 rcases hv with rfl | rfl | rfl <;> rfl⟩
theorem rr0_cs:runCs rr0 0 nilS nilS nilS=(errCs 0).set 3 (.bool true):=by kernel_rfl
theorem start_ok (h:St w0 w H) (hK:∀ w' cs,RunS w0 w' rr0 cs H→K (.agg cs.toArray) w'):CallL P 57 [] w K:=by
 refine f57_ok _ _ ?_
 rw [f57_eq,z113e]
 have h0:=errCs_any 0
 refine h.newC fun n0 w1 hn0 h1=>⟨_,build113,?_⟩
 refine h1.newC fun n3 w2 hn3 h2=>h2.stA (k:=0) rfl (by simp [h0.len]) (by simp [h0.len]) h0.one fun w3 h3=>?_
 have h3:St w0 w3 ((n3,Cs (splice (errCs 0) 0 (errCs 0)) 64)::(n0,Cs (errCs 0) 64)::H):=h3
 rw [splice_whole rfl] at h3
 refine ⟨by decide,by decide,?_⟩
 rw [add_lit',add_lit']
 refine h3.st1 (k:=0) rfl (by rw [h0.len]; decide) rfl fun w4 h4=>?_
 have h4:St w0 w4 ((n3,Cs ((errCs 0).set 3 (.bool true)) 64)::(n0,Cs (errCs 0) 64)::H):=h4
 rw [← rr0_cs] at h4
 have ha:Any20 (runCs rr0 0 nilS nilS nilS):=⟨runCs_len rfl rfl,runCs_one rfl rfl rfl⟩
 refine ld20 h4 (k:=0) rfl ha ?_
 refine h4.stA (k:=1) rfl (by simp [ha.len]) (by simp [ha.len,h0.len]) ha.one fun w5 h5=>?_
 have h5:St w0 w5 ((n3,Cs (runCs rr0 0 nilS nilS nilS) 64)::(n0,Cs (splice (errCs 0) 0 (runCs rr0 0 nilS nilS nilS)) 64)::H):=h5
 rw [splice_whole (by rw [ha.len,h0.len])] at h5
 refine ld20 h5 (k:=1) rfl ha ?_
 exact hK w5 _ ⟨nilS,nilS,nilS,[],[],[],rfl,⟨SlO.nil 4 72,SlO.nil 1 3,SlO.nil 2 170,New.nil _,New.nil _,New.nil _,rfl,rfl⟩,(h5.tail hn3).tail hn0⟩
theorem order_ok' {l:List Ev} {ov:Value} (h:St w0 w H) (hrow:∀ w',St w0 w' H→Row w' 6 ov l.length (evsCs l))
  (hbad:∀ x,rord l=.inr x→x≠0→∀ w',St w0 w' H→K (.agg (errCs x).toArray) w')
  (hok:∀ r,rord l=.inl r→l.length≤20000→Bd r (16 * l.length)→∀ w' cs,RunS w0 w' r cs H→K (.agg cs.toArray) w'):CallL P 17 [ov] w K:=by
 obtain ⟨sa,sc,hov⟩:=(hrow w h).form
 rw [hov]
 refine f17_ok _ _ _ _ _ ?_
 rw [f17_eq,f17_s0_eq,z113e]
 have h0:=errCs_any 0
 refine h.newC fun n2 w1 hn2 h1=>?_
 rw [f17_s1_eq]
 refine ⟨l.length,fun wq _=>run_len_22 wq,?_⟩
 rw [BIf_iff]
 have giveup:∀ (x:Int) (w':World) (z:List Value) (J:HL),Any20 z→St w0 w' ((n2,Cs z 64)::J)→(∀ w2,St w0 w2 ((n2,Cs (errCs x) 64)::J)→K (.agg (errCs x).toArray) w2)→
   StA 20 (Addr.mk n2 0 none) (errCs x).toArray w' (fun w8=>LdA 20 (Addr.mk n2 0 none) w8 (fun cs9=>K (Value.agg cs9) w8)):=fun x w' z J hz h' hk=>
  keep20 (Q:=fun c w2=>K (.agg c) w2) hz.len (errCs_any x) h' hk
 constructor
 ·intro hgt
  have hgt:l.length > 20000:=by simp at hgt; omega
  refine ⟨_,build113x 2,giveup 2 w1 _ _ h0 h1 fun w2 h2=>hbad 2 (by unfold rord; rw [if_pos hgt]) (by decide) w2 (h2.tail hn2)⟩
 ·intro hle
  have hle:l.length≤20000:=by simp at hle; omega
  rw [f17_s2_eq]
  refine start_ok h1 fun w2 cs0 g2=>⟨_,rfl,?_⟩
  rw [z113e]
  refine g2.newC fun n15 w3 hn15 g3=>?_
  obtain ⟨Z,hZ,hs,hback⟩:=g3.open'
  refine hs.stA (k:=0) rfl (by simp [g2.any.len]) (by simp [g2.any.len,h0.len]) g2.any.one fun w4 h4=>?_
  have h4:St w0 w4 ((n15,Cs (splice (errCs 0) 0 cs0) 64)::((n2,Cs (errCs 0) 64)::H++Z)):=h4
  rw [splice_whole (by rw [g2.any.len,h0.len])] at h4
  have g4:RunS w0 w4 rr0 cs0 ((n15,Cs cs0 64)::(n2,Cs (errCs 0) 64)::H):=hback w4 _ h4
  rw [f17_s3_eq,f17_s4_eq]
  have hrr:rord l=match rsteps l 0 rr0 with
    | none=>.inr 300
    | some r=>.inl r:=by unfold rord; rw [if_neg (by omega)]
  refine ⟨fun m ee w=>∃ (j:Nat) (rj:RR) (csj:List Value),j≤l.length∧m=l.length - j∧ee=Env.mk 33 [(2,(Value.pointer (some (Addr.mk n2 0 none)))),(3,(Value.pointer (some (Addr.mk n15 0 none)))),(4,I64 (j:Nat)),(0,(Value.slice sa l.length sc))] []∧
    rsteps (l.drop j) (j:Nat) rj=rsteps l 0 rr0∧Bd rj (16 * j)∧RunS w0 w rj csj ((n15,Cs csj 64)::(n2,Cs (errCs 0) 64)::H),
   ⟨l.length,0,rr0,cs0,by omega,rfl,rfl,rfl,⟨by simp [rr0],by simp [rr0],by simp [rr0]⟩,g4⟩,?_⟩
  rintro m ee w5 ⟨j,rj,csj,hj,rfl,rfl,hrt,hbj,hw⟩
  show f17_lb5 ..
  rw [f17_lb5_eq]
  refine ⟨l.length,fun wq _=>run_len_22 wq,?_⟩
  rw [BIf_iff]
  constructor
  ·intro hlt
   have hlt:j < l.length:=by simpa using hlt
   rw [f17_s6_eq]
   obtain ⟨Z',hZ',hs',hback'⟩:=hw.open'
   have hd:=hs'.drew
   obtain ⟨a,c,hac,hld⟩:=(hrow _ (((hback' w5.drew _ hd).tail hn15).tail hn2).base).ldA hlt
   rw [hov] at hac
   obtain ⟨hsa,-⟩:sa=some a∧sc=c:=by simpa using hac
   subst hsa
   refine ⟨by omega,by omega,?_⟩
   refine ld20 hd (k:=0) rfl hw.any (hld _ ?_)
   rw [evs_at hlt]
   have hwd:=hback' w5.drew _ hd
   have hdrop:l.drop j=l[j]::l.drop (j+1):=List.drop_eq_getElem_cons hlt
   rw [hdrop,rsteps] at hrt
   generalize hY:(fun e' w'=>∃ m,m < l.length - j∧∃ (j:Nat) (rj:RR) (csj:List Value),j≤l.length∧m=l.length - j∧e'=Env.mk 33 [(2,(Value.pointer (some (Addr.mk n2 0 none)))),(3,(Value.pointer (some (Addr.mk n15 0 none)))),(4,I64 (j:Nat)),(0,(Value.slice (some a) l.length sc))] []∧
    rsteps (l.drop j) (j:Nat) rj=rsteps l 0 rr0∧Bd rj (16 * j)∧RunS w0 w' rj csj ((n15,Cs csj 64)::(n2,Cs (errCs 0) 64)::H))=Y
   have bad:∀ (w':World) (n99:Nat) (cs':List Value),w0.heap.size≤n99→rwith rj l[j] (j:Nat)=none→Any20 cs'→St w0 w' ((n99,Cs (errCs 0) 64)::(n15,Cs csj 64)::(n2,Cs (errCs 0) 64)::H)→
     StA 20 (Addr.mk n99 0 none) cs'.toArray w' (fun w2=>f17_s7 (Addr.mk n2 0 none) (Addr.mk n15 0 none) (some a) l.length sc (j:Nat) (Addr.mk n99 0 none) false w2 K Y):=by
    intro w' n99 cs' hn99 hf hc h'
    refine h'.stA (k:=0) rfl (by simp [hc.len]) (by simp [h0.len,hc.len]) hc.one fun w2 h2=>?_
    have h2:St w0 w2 ((n99,Cs (splice (errCs 0) 0 cs') 64)::(n15,Cs csj 64)::(n2,Cs (errCs 0) 64)::H):=h2
    rw [f17_s7_eq,Bool.not_false,BIf_true]
    have h3:=(h2.tail hn99).tail hn15
    refine ⟨_,build113x 300,giveup 300 w2 _ _ h0 h3 fun w3 h4=>hbad 300 ?_ (by decide) w3 (h4.tail hn2)⟩
    rw [hrr,← hrt,hf]
   have good:∀ (w':World) (n99:Nat) (cs':List Value) (r':RR),w0.heap.size≤n99→rwith rj l[j] (j:Nat)=some r'→RunS w0 w' r' cs' ((n99,Cs (errCs 0) 64)::(n15,Cs csj 64)::(n2,Cs (errCs 0) 64)::H)→
     StA 20 (Addr.mk n99 0 none) cs'.toArray w' (fun w2=>f17_s7 (Addr.mk n2 0 none) (Addr.mk n15 0 none) (some a) l.length sc (j:Nat) (Addr.mk n99 0 none) true w2 K Y):=by
    intro w' n99 cs' r' hn99 hf h'
    have hc:=h'.any
    obtain ⟨Z2,hZ2,hs2,hback2⟩:=h'.open'
    refine hs2.stA (k:=0) rfl (by simp [hc.len]) (by simp [h0.len,hc.len]) hc.one fun w2 h2=>?_
    have h2:St w0 w2 ((n99,Cs (splice (errCs 0) 0 cs') 64)::((n15,Cs csj 64)::(n2,Cs (errCs 0) 64)::H++Z2)):=h2
    rw [splice_whole (by rw [hc.len,h0.len])] at h2
    rw [f17_s7_eq,Bool.not_true,BIf_false,f17_s8_eq]
    refine ld20 h2 (k:=0) rfl hc ?_
    refine h2.stA (k:=1) rfl (by simp [hc.len]) (by simp [hw.any.len,hc.len]) hc.one fun w3 h3=>?_
    have h3:St w0 w3 ((n99,Cs cs' 64)::((n15,Cs (splice csj 0 cs') 64)::(n2,Cs (errCs 0) 64)::H++Z2)):=h3
    rw [splice_whole (by rw [hc.len,hw.any.len])] at h3
    rw [f17_s9_eq,← hY]
    refine ⟨l.length - (j+1),by omega,j+1,r',cs',by omega,rfl,?_,?_,(rwith_bd hf hbj).more (by omega),hback2 w3 _ (h3.tail hn99)⟩
    ·rw [wrap_i64 (by omega) (by omega)]; rfl
    ·rw [← hrt,hf]; rfl
   constructor
   ·refine with_ok hwd hbj (by omega) (fun hf w' cs' hc h'=>⟨_,false,rfl,?_⟩) (fun r' hf w' cs' h'=>⟨_,true,rfl,?_⟩)
    ·rw [z113e]
     exact h'.newC fun n99 w2 hn99 h2=>bad w2 n99 cs' hn99 hf hc h2
    ·rw [z113e]
     exact h'.newC fun n99 w2 hn99 h2=>good w2 n99 cs' r' hn99 hf h2
   ·rw [z113e]
    refine hwd.newC fun n131 w2 hn131 h2=>?_
    exact with_ok h2 hbj (by omega) (fun hf w' cs' hc h'=>⟨_,false,rfl,bad w' n131 cs' hn131 hf hc h'⟩) (fun r' hf w' cs' h'=>⟨_,true,rfl,good w' n131 cs' r' hn131 hf h'⟩)
  ·intro hge
   have hge:l.length≤j:=by simpa using hge
   have:j=l.length:=by omega
   subst this
   rw [f17_s10_eq]
   rw [List.drop_length,rsteps] at hrt
   obtain ⟨Z',hZ',hs',hback'⟩:=hw.open'
   refine ld20 hs' (k:=0) rfl hw.any ?_
   have hs2:=hs'.perm (H':=(n2,Cs (errCs 0) 64)::(n15,Cs csj 64)::(H++Z')) (List.Perm.swap ..)
   refine keep20 (Q:=fun c w2=>K (.agg c) w2) h0.len hw.any hs2 fun w6 h6=>hok rj (by rw [hrr,← hrt]) hle hbj w6 csj ?_
   have h6:St w0 w6 (((n2,Cs csj 64)::(n15,Cs csj 64)::H)++Z'):=h6
   exact ((hback' w6 _ h6).tail hn2).tail hn15
end Go.Fx.Tryz
namespace Go.Fx.Tryz
set_option maxRecDepth 100000
open Go Go.Fx Go.Proofs
noncomputable def c87:Code:=bodyOf Tryz.f87
noncomputable def rs87:List ResultVar:=Tryz.f87.results.toList
abbrev f87_kb (K:KT):Exit→YT:=bodyK P rs87 K
def f87 (a:OA) (b c:Nat) (d:Int) (w:World) (K:KT):Prop:=CS P c87 none [4] [4] (f87_kb K) (env0 54 [(VS a b c),(VI d)]) w
def f87_s0 (a:OA) (b c:Nat) (d:Int) (w:World) (K:KT):Prop:=CS P (cA c87 1) none [4] [4] (f87_kb K) (Env.mk 54 [(0,(VS a b c)),(1,(VI d))] []) w
abbrev f87_k0 (K:KT):Exit→YT:=kseq P (cA c87 2) (cA c87 3) none [4] [4] (f87_kb K)
def f87_s1 (a:OA) (b c:Nat) (d:OA) (e f:Nat) (g:Int) (w:World) (K:KT):Prop:=CS P (cA c87 3) none [4] [4] (f87_kb K) (Env.mk 54 [(4,(VS a b c)),(0,(VS d e f)),(1,(VI g))] []) w
abbrev f87_k1 (K:KT):Exit→YT:=kseq P (cA c87 6) (cA c87 7) none [4] [4] (f87_kb K)
def f87_s2 (a:OA) (b c:Nat) (d:OA) (e f:Nat) (g:Int) (h:OA) (i j:Nat) (k:OA) (l m:Nat) (n:OA) (o p:Nat) (q:Int) (w:World) (K:KT):Prop:=CS P (cA c87 7) none [4] [4] (f87_kb K) (Env.mk 54 [(5,(VS a b c)),(11,(VS d e f)),(10,(VI g)),(9,(VS h i j)),(4,(VS k l m)),(0,(VS n o p)),(1,(VI q))] []) w
abbrev f87_k2 (K:KT):Exit→YT:=kseq P (cA c87 14) (cA c87 15) none [4] [4] (f87_kb K)
def f87_s3 (a:OA) (b c:Nat) (d:OA) (e f:Nat) (g:Int) (h:OA) (i j:Nat) (k:OA) (l m:Nat) (n:OA) (o p:Nat) (q:Int) (r:OA) (s t:Nat) (u:OA) (v x:Nat) (y:OA) (z a0:Nat) (b0:Int) (w:World) (K:KT):Prop:=CS P (cA c87 15) none [4] [4] (f87_kb K) (Env.mk 54 [(6,(VS a b c)),(14,(VS d e f)),(13,(VI g)),(12,(VS h i j)),(5,(VS k l m)),(11,(VS n o p)),(10,(VI q)),(9,(VS r s t)),(4,(VS u v x)),(0,(VS y z a0)),(1,(VI b0))] []) w
abbrev f87_k3 (K:KT):Exit→YT:=kseq P (cA c87 30) (cA c87 31) none [4] [4] (f87_kb K)
def f87_s4 (a:Addr) (b:Int) (c:OA) (d e:Nat) (f:OA) (g h:Nat) (i:OA) (j k:Nat) (l:Int) (m:OA) (n o:Nat) (p:OA) (q r:Nat) (s:OA) (t u:Nat) (v:Int) (x:OA) (y z:Nat) (a0:OA) (b0 c0:Nat) (d0:OA) (e0 f0:Nat) (g0:Int) (w:World) (K:KT):Prop:=CS P (cA c87 31) none [4] [4] (f87_kb K) (Env.mk 54 [(17,(VP (some a))),(16,(VI b)),(15,(VS c d e)),(6,(VS f g h)),(14,(VS i j k)),(13,(VI l)),(12,(VS m n o)),(5,(VS p q r)),(11,(VS s t u)),(10,(VI v)),(9,(VS x y z)),(4,(VS a0 b0 c0)),(0,(VS d0 e0 f0)),(1,(VI g0))] []) w
abbrev f87_k4 (K:KT):Exit→YT:=kseq P (cA c87 62) (cA c87 63) none [4] [4] (f87_kb K)
abbrev f87_k5 (K:KT):Exit→YT:=kseq P (cA c87 124) (cA c87 125) none [5] [4] (f87_k4 K)
def f87_s5 (a b:Int) (c:Addr) (d:Int) (e:OA) (f g:Nat) (h:OA) (i j:Nat) (k:OA) (l m:Nat) (n:Int) (o:OA) (p q:Nat) (r:OA) (s t:Nat) (u:OA) (v x:Nat) (y:Int) (z:OA) (a0 b0:Nat) (c0:OA) (d0 e0:Nat) (f0:OA) (g0 h0:Nat) (i0:Int) (w:World) (K:KT):Prop:=CS P (cA c87 125) none [5] [4] (f87_k4 K) (Env.mk 54 [(7,(VI a)),(18,(VI b)),(17,(VP (some c))),(16,(VI d)),(15,(VS e f g)),(6,(VS h i j)),(14,(VS k l m)),(13,(VI n)),(12,(VS o p q)),(5,(VS r s t)),(11,(VS u v x)),(10,(VI y)),(9,(VS z a0 b0)),(4,(VS c0 d0 e0)),(0,(VS f0 g0 h0)),(1,(VI i0))] []) w
abbrev f87_k6 (K:KT):Exit→YT:=kblock 0 (f87_k4 K)
def f87_lp6 (K:KT) (Y6:YT) (e:Env) (w:World):Prop:=Join (fun e w=>CS P (cA c87 500) none [4,5,7,6,0] [4,5] (kloop [4,5,7,6,0] Y6 (f87_k6 K)) e w) e w
abbrev f87_kl6 (K:KT) (Y6:YT):Exit→YT:=kloop [4,5,7,6,0] Y6 (f87_k6 K)
def f87_lb6 (a:OA) (b c:Nat) (d:OA) (f g:Nat) (h:Int) (i:OA) (j k:Nat) (l:OA) (m n:Nat) (w:World) (K:KT) (Y6:YT):Prop:=SG P (cA c87 500) none [4,5,7,6,0] [4,5] (f87_kl6 K Y6) (Env.mk 54 [(4,(VS a b c)),(5,(VS d f g)),(7,(VI h)),(6,(VS i j k)),(0,(VS l m n))] []) w
abbrev f87_k7 (K:KT) (Y6:YT):Exit→YT:=kseq P (cA c87 1000) (cA c87 1001) none [4,5,7,6,0] [4,5] (f87_kl6 K Y6)
abbrev f87_k8 (K:KT) (Y6:YT):Exit→YT:=kseq P (cA c87 2000) (cA c87 2001) none [4,5,6,0,7] [4,5] (f87_k7 K Y6)
def f87_s7 (a:OA) (b c:Nat) (d:OA) (f g:Nat) (h:OA) (i j:Nat) (k:OA) (l m:Nat) (n:Int) (w:World) (K:KT) (Y6:YT):Prop:=SG P (cA c87 1001) none [4,5,7,6,0] [4,5] (f87_kl6 K Y6) (Env.mk 54 [(4,(VS a b c)),(5,(VS d f g)),(6,(VS h i j)),(0,(VS k l m)),(7,(VI n))] []) w
abbrev f87_k9 (K:KT) (Y6:YT):Exit→YT:=kseq P (cA c87 2002) (cA c87 2003) none [4,5,7,6,0] [4,5] (f87_kl6 K Y6)
abbrev f87_k10 (K:KT) (Y6:YT):Exit→YT:=kblock 1 (f87_k9 K Y6)
abbrev f87_k11 (K:KT) (Y6:YT):Exit→YT:=kseq P (cA c87 8008) (cA c87 8009) none [4,5,6,0,7] [4,5,6,0,7] (f87_k10 K Y6)
abbrev f87_k12 (K:KT) (Y6:YT):Exit→YT:=kseq P (cA c87 16016) (cA c87 16017) none [5,6,0,7,4] [4,5,6,0,7] (f87_k11 K Y6)
def f87_s8 (a:OA) (b c:Nat) (d:OA) (f g:Nat) (h:OA) (i j:Nat) (k:OA) (l m:Nat) (n:Int) (w:World) (K:KT) (Y6:YT):Prop:=SG P (cA c87 2003) none [4,5,7,6,0] [4,5] (f87_kl6 K Y6) (Env.mk 54 [(4,(VS a b c)),(5,(VS d f g)),(6,(VS h i j)),(0,(VS k l m)),(7,(VI n))] []) w
theorem f87_s8_eq (a:OA) (c d:Nat) (e:OA) (f g:Nat) (h:OA) (i j:Nat) (k:OA) (l m:Nat) (n:Int) (w:World) (K:KT) (Y6:YT):f87_s8 a c d e f g h i j k l m n w K Y6=(Y6 (Env.mk 54 [(4,(Value.slice a c d)),(5,(Value.slice e f g)),(7,(Value.int .i64 (IntKind.wrap .i64 ((n:Int)+1)))),(6,(Value.slice h i j)),(0,(Value.slice k l m))] []) w):=Eq.trans SGe (by kernel_rfl)
def f87_s9 (a:OA) (b c:Nat) (d:OA) (f g:Nat) (h:OA) (i j:Nat) (k:Int) (l:OA) (m n:Nat) (w:World) (K:KT) (Y6:YT):Prop:=SG P (cA c87 8009) none [4,5,6,0,7] [4,5,6,0,7] (f87_k10 K Y6) (Env.mk 54 [(5,(VS a b c)),(6,(VS d f g)),(0,(VS h i j)),(7,(VI k)),(4,(VS l m n))] []) w
abbrev f87_k13 (K:KT) (Y6:YT):Exit→YT:=kseq P (cA c87 16018) (cA c87 16019) none [4,5,6,0,7] [4,5,6,0,7] (f87_k10 K Y6)
def f87_s10 (a b c:Int) (d:OA) (e f:Nat) (g:OA) (h i:Nat) (j:OA) (k l:Nat) (m:Int) (n:OA) (o p:Nat) (w:World) (K:KT) (Y6:YT):Prop:=CS P (cA c87 16019) none [4,5,6,0,7] [4,5,6,0,7] (f87_k10 K Y6) (Env.mk 54 [(8,(VI a)),(31,(VI b)),(30,(VI c)),(5,(VS d e f)),(6,(VS g h i)),(0,(VS j k l)),(7,(VI m)),(4,(VS n o p))] []) w
abbrev f87_k14 (K:KT) (Y6:YT):Exit→YT:=kblock 2 (f87_k10 K Y6)
def f87_lp11 (K:KT) (Y6 Y11:YT) (e:Env) (w:World):Prop:=Join (fun e w=>CS P (cA c87 64076) none [8,5,6,0,7,4] [4,5,6,0,7] (kloop [8,5,6,0,7,4] Y11 (f87_k14 K Y6)) e w) e w
abbrev f87_kl11 (K:KT) (Y6 Y11:YT):Exit→YT:=kloop [8,5,6,0,7,4] Y11 (f87_k14 K Y6)
def f87_lb11 (a:Int) (b:OA) (c d:Nat) (f:OA) (g h:Nat) (i:OA) (j k:Nat) (l:Int) (m:OA) (n o:Nat) (w:World) (K:KT) (Y6 Y11:YT):Prop:=SG P (cA c87 64076) none [8,5,6,0,7,4] [4,5,6,0,7] (f87_kl11 K Y6 Y11) (Env.mk 54 [(8,(VI a)),(5,(VS b c d)),(6,(VS f g h)),(0,(VS i j k)),(7,(VI l)),(4,(VS m n o))] []) w
abbrev f87_k15 (K:KT) (Y6 Y11:YT):Exit→YT:=kseq P (cA c87 128152) (cA c87 128153) none [8,5,6,0,7,4] [4,5,6,0,7] (f87_kl11 K Y6 Y11)
abbrev f87_k16 (K:KT) (Y6 Y11:YT):Exit→YT:=kseq P (cA c87 256304) (cA c87 256305) none [5,6,0,7,4,8] [4,5,6,0,7] (f87_k15 K Y6 Y11)
def f87_s12 (a:OA) (b c:Nat) (d:OA) (f g:Nat) (h:OA) (i j:Nat) (k:Int) (l:OA) (m n:Nat) (o:Int) (w:World) (K:KT) (Y6 Y11:YT):Prop:=SG P (cA c87 128153) none [8,5,6,0,7,4] [4,5,6,0,7] (f87_kl11 K Y6 Y11) (Env.mk 54 [(5,(VS a b c)),(6,(VS d f g)),(0,(VS h i j)),(7,(VI k)),(4,(VS l m n)),(8,(VI o))] []) w
abbrev f87_k17 (K:KT) (Y6 Y11:YT):Exit→YT:=kseq P (cA c87 256306) (cA c87 256307) none [8,5,6,0,7,4] [4,5,6,0,7] (f87_kl11 K Y6 Y11)
abbrev f87_k18 (K:KT) (Y6 Y11:YT):Exit→YT:=kblock 3 (f87_k17 K Y6 Y11)
abbrev f87_k19 (K:KT) (Y6 Y11:YT):Exit→YT:=kseq P (cA c87 1025224) (cA c87 1025225) none [5,6,0,7,4,8] [4,5,6,0,7,8] (f87_k18 K Y6 Y11)
def f87_s13 (a:Bool) (b:OA) (c d:Nat) (f:OA) (g h:Nat) (i:OA) (j k:Nat) (l:Int) (m:OA) (n o:Nat) (p:Int) (w:World) (K:KT) (Y6 Y11:YT):Prop:=SG P (cA c87 1025225) none [5,6,0,7,4,8] [4,5,6,0,7,8] (f87_k18 K Y6 Y11) (Env.mk 54 [(46,(VB a)),(5,(VS b c d)),(6,(VS f g h)),(0,(VS i j k)),(7,(VI l)),(4,(VS m n o)),(8,(VI p))] []) w
def f87_s14 (a:OA) (b c:Nat) (d:OA) (f g:Nat) (h:OA) (i j:Nat) (k:Int) (l:OA) (m n:Nat) (o:Int) (w:World) (K:KT) (Y6 Y11:YT):Prop:=SG P (cA c87 256307) none [8,5,6,0,7,4] [4,5,6,0,7] (f87_kl11 K Y6 Y11) (Env.mk 54 [(5,(VS a b c)),(6,(VS d f g)),(0,(VS h i j)),(7,(VI k)),(4,(VS l m n)),(8,(VI o))] []) w
theorem f87_s14_eq (a:OA) (c d:Nat) (e:OA) (f g:Nat) (h:OA) (i j:Nat) (k:Int) (l:OA) (m n:Nat) (o:Int) (w:World) (K:KT) (Y6 Y11:YT):f87_s14 a c d e f g h i j k l m n o w K Y6 Y11=(Y11 (Env.mk 54 [(8,(Value.int .i64 (IntKind.wrap .i64 ((o:Int)+1)))),(5,(Value.slice a c d)),(6,(Value.slice e f g)),(0,(Value.slice h i j)),(7,(Value.int .i64 k)),(4,(Value.slice l m n))] []) w):=Eq.trans SGe (by kernel_rfl)
theorem f87_s13_eq (p:Bool) (c:OA) (d g:Nat) (e:OA) (f h:Nat) (i:OA) (j k:Nat) (l:Int) (m:OA) (n o:Nat) (a:Int) (w:World) (K:KT) (Y6 Y11:YT):f87_s13 p c d g e f h i j k l m n o a w K Y6 Y11=(BIf p (optS e (fun q=>0≤(a:Int)∧(a:Int) < (f:Nat)∧St1 (q.add (Int.toNat a * 1)) (Value.bool true) w (fun r=>optS c (fun s=>0≤(a:Int)∧(a:Int) < (d:Nat)∧St1 (s.add (Int.toNat a * 1)) (Value.bool true) r (fun t=>f87_s14 c d g e f h i j k l m n o a t K Y6 Y11))))) (f87_s14 c d g e f h i j k l m n o a w K Y6 Y11)):=Eq.trans SGe (by kernel_rfl)
theorem f87_s12_eq (g:OA) (h i:Nat) (j:OA) (k l:Nat) (e:OA) (f m:Nat) (c:Int) (n:OA) (o p:Nat) (d:Int) (w:World) (K:KT) (Y6 Y11:YT):f87_s12 g h i j k l e f m c n o p d w K Y6 Y11=(optS e (fun r=>0≤(c:Int)∧(c:Int) < (f:Nat)∧optS e (fun s=>0≤(d:Int)∧(d:Int) < (f:Nat)∧LdA 4 (r.add (Int.toNat c * 4)) w.drew (fun t=>LdA 4 (s.add (Int.toNat d * 4)) w.drew (fun u=>CallL P 101 [(Value.agg t),(Value.agg u)] w.drew (fun v x=>∃ q:Bool,v=(.bool q)∧f87_s13 q g h i j k l e f m c n o p d x K Y6 Y11)))))):=Eq.trans SGe (Eq.trans (CSs [5,6,0,7,4,8] (f87_k17 K Y6 Y11) (by kernel_rfl)) (Eq.trans (CSb 3 [4,5,6,0,7,8] (f87_k18 K Y6 Y11) (by kernel_rfl)) (Eq.trans (CSs [46,5,6,0,7,4,8] (f87_k19 K Y6 Y11) (by kernel_rfl)) (by kernel_rfl))))
theorem f87_lb11_eq (f:Int) (g:OA) (h i:Nat) (j:OA) (k l:Nat) (c:OA) (d e:Nat) (m:Int) (n:OA) (o p:Nat) (w:World) (K:KT) (Y6 Y11:YT):f87_lb11 f g h i j k l c d e m n o p w K Y6 Y11=(∃ q:Int,(∀ wq,Ext w wq→(Builtin.len_ #[60] 3 [(Value.slice c d e)].toArray).run P wq=.ok (.int .i64 q) wq)∧BIf (decide ((f:Int) < q)) (f87_s12 g h i j k l c d e m n o p f w K Y6 Y11) (f87_s8 n o p g h i j k l c d e m w K Y6)):=Eq.trans SGe (Eq.trans (CSs [5,6,0,7,4,8] (f87_k15 K Y6 Y11) (by kernel_rfl)) (Eq.trans (CSs [35,5,6,0,7,4,8] (f87_k16 K Y6 Y11) (by kernel_rfl)) (by kernel_rfl)))
theorem f87_s10_eq (a p q:Int) (c:OA) (d e:Nat) (f:OA) (g h:Nat) (i:OA) (j k:Nat) (l:Int) (m:OA) (n o:Nat) (w:World) (K:KT) (Y6:YT):f87_s10 a p q c d e f g h i j k l m n o w K Y6=(LoopE (f87_lp11 K Y6) (Env.mk 54 [(8,(Value.int .i64 a)),(5,(Value.slice c d e)),(6,(Value.slice f g h)),(0,(Value.slice i j k)),(7,(Value.int .i64 l)),(4,(Value.slice m n o))] []) w):=Eq.trans (b:=CS P (cA c87 16019) none [4,5,6,0,7] [4,5,6,0,7] (f87_k10 K Y6) (Env.mk 54 [(8,(VI a)),(31,(VI p)),(30,(VI q)),(5,(VS c d e)),(6,(VS f g h)),(0,(VS i j k)),(7,(VI l)),(4,(VS m n o))] []) w) (by kernel_rfl) (Eq.trans (CSb 2 [4,5,6,0,7] (f87_k14 K Y6) (by kernel_rfl)) ((CS_loop' (b:=(cA c87 64076)) (X':=[4,5,6,0,7]) (H:=[8,5,6,0,7,4]) (by kernel_rfl) (by kernel_rfl) (by kernel_rfl)).trans (by kernel_rfl)))
theorem f87_s9_eq (d:OA) (e f:Nat) (g:OA) (h i:Nat) (j:OA) (k l:Nat) (c:Int) (m:OA) (n o:Nat) (w:World) (K:KT) (Y6:YT):f87_s9 d e f g h i j k l c m n o w K Y6=(f87_s10 (IntKind.wrap .i64 ((c:Int)+1)) (IntKind.wrap .i64 ((c:Int)+1)) c d e f g h i j k l c m n o w K Y6):=Eq.trans SGe (Eq.trans (CSs [8,5,6,0,7,4] (f87_k13 K Y6) (by kernel_rfl)) (by kernel_rfl))
theorem f87_s7_eq (f:OA) (g h:Nat) (i:OA) (j k:Nat) (d:OA) (e l:Nat) (m:OA) (n o:Nat) (c:Int) (w:World) (K:KT) (Y6:YT):f87_s7 f g h i j k d e l m n o c w K Y6=(optS d (fun q=>0≤(c:Int)∧(c:Int) < (e:Nat)∧∃ p:Bool,w.cell? (q.add (Int.toNat c * 1))=some (.bool p)∧BIf (!p) (f87_s8 f g h i j k d e l m n o c w K Y6) (f87_s9 i j k d e l m n o c f g h w K Y6))):=Eq.trans SGe (Eq.trans (CSs [4,5,6,0,7] (f87_k9 K Y6) (by kernel_rfl)) (Eq.trans (CSb 1 [4,5,6,0,7] (f87_k10 K Y6) (by kernel_rfl)) (Eq.trans (CSs [5,6,0,7,4] (f87_k11 K Y6) (by kernel_rfl)) (Eq.trans (CSs [29,4,5,6,0,7] (f87_k12 K Y6) (by kernel_rfl)) (by kernel_rfl)))))
def f87_s15 (a:OA) (b c:Nat) (w:World) (K:KT):Prop:=SG P (cA c87 63) none [4] [4] (f87_kb K) (Env.mk 54 [(5,(VS a b c))] []) w
abbrev f87_k21 (K:KT):Exit→YT:=kseq P (cA c87 126) (cA c87 127) none [4] [4] (f87_kb K)
theorem f87_s15_eq (c:OA) (d e:Nat) (w:World) (K:KT):f87_s15 c d e w K=(K (Value.slice c d e) w):=Eq.trans SGe (Eq.trans (CSs [4] (f87_k21 K) (by kernel_rfl)) (by kernel_rfl))
theorem f87_lb6_eq (j:OA) (k l:Nat) (c:OA) (d e:Nat) (f:Int) (m:OA) (n o:Nat) (g:OA) (h i:Nat) (w:World) (K:KT) (Y6:YT):f87_lb6 j k l c d e f m n o g h i w K Y6=(∃ p:Int,(∀ wq,Ext w wq→(Builtin.len_ #[60] 3 [(Value.slice g h i)].toArray).run P wq=.ok (.int .i64 p) wq)∧BIf (decide ((f:Int) < p)) (f87_s7 j k l c d e m n o g h i f w K Y6) (f87_s15 c d e w K)):=Eq.trans SGe (Eq.trans (CSs [4,5,6,0,7] (f87_k7 K Y6) (by kernel_rfl)) (Eq.trans (CSs [22,4,5,6,0,7] (f87_k8 K Y6) (by kernel_rfl)) (by kernel_rfl)))
theorem f87_s5_eq (a o:Int) (p:Addr) (q:Int) (r:OA) (s t:Nat) (c:OA) (d e:Nat) (u:OA) (v x:Nat) (y:Int) (z:OA) (a0 b0:Nat) (f:OA) (g h:Nat) (c0:OA) (d0 e0:Nat) (f0:Int) (g0:OA) (h0 i0:Nat) (i:OA) (j k:Nat) (l:OA) (m n:Nat) (j0:Int) (w:World) (K:KT):f87_s5 a o p q r s t c d e u v x y z a0 b0 f g h c0 d0 e0 f0 g0 h0 i0 i j k l m n j0 w K=(LoopE (f87_lp6 K) (Env.mk 54 [(4,(Value.slice i j k)),(5,(Value.slice f g h)),(7,(Value.int .i64 a)),(6,(Value.slice c d e)),(0,(Value.slice l m n))] []) w):=Eq.trans (b:=CS P (cA c87 125) none [5] [4] (f87_k4 K) (Env.mk 54 [(7,(VI a)),(18,(VI o)),(17,(VP (some p))),(16,(VI q)),(15,(VS r s t)),(6,(VS c d e)),(14,(VS u v x)),(13,(VI y)),(12,(VS z a0 b0)),(5,(VS f g h)),(11,(VS c0 d0 e0)),(10,(VI f0)),(9,(VS g0 h0 i0)),(4,(VS i j k)),(0,(VS l m n)),(1,(VI j0))] []) w) (by kernel_rfl) (Eq.trans (CSb 0 [4,5] (f87_k6 K) (by kernel_rfl)) ((CS_loop' (b:=(cA c87 500)) (X':=[4,5]) (H:=[4,5,7,6,0]) (by kernel_rfl) (by kernel_rfl) (by kernel_rfl)).trans (by kernel_rfl)))
theorem f87_s4_eq (d:Addr) (e:Int) (f:OA) (g h:Nat) (i:OA) (j k:Nat) (l:OA) (m n:Nat) (o:Int) (p:OA) (q r:Nat) (s:OA) (t u:Nat) (v:OA) (x y:Nat) (z:Int) (a0:OA) (b0 c0:Nat) (d0:OA) (e0 f0:Nat) (g0:OA) (h0 i0:Nat) (c:Int) (w:World) (K:KT):f87_s4 d e f g h i j k l m n o p q r s t u v x y z a0 b0 c0 d0 e0 f0 g0 h0 i0 c w K=(f87_s5 c c d e f g h i j k l m n o p q r s t u v x y z a0 b0 c0 d0 e0 f0 g0 h0 i0 c w K):=Eq.trans (b:=CS P (cA c87 31) none [4] [4] (f87_kb K) (Env.mk 54 [(17,(VP (some d))),(16,(VI e)),(15,(VS f g h)),(6,(VS i j k)),(14,(VS l m n)),(13,(VI o)),(12,(VS p q r)),(5,(VS s t u)),(11,(VS v x y)),(10,(VI z)),(9,(VS a0 b0 c0)),(4,(VS d0 e0 f0)),(0,(VS g0 h0 i0)),(1,(VI c))] []) w) (by kernel_rfl) (Eq.trans (CSs [5] (f87_k4 K) (by kernel_rfl)) (Eq.trans (CSs [4,5,7,6,0] (f87_k5 K) (by kernel_rfl)) (by kernel_rfl)))
theorem f87_s3_eq (d:OA) (e f:Nat) (g:OA) (h i:Nat) (j:Int) (k:OA) (l m:Nat) (n:OA) (o p:Nat) (q:OA) (r s:Nat) (t:Int) (u:OA) (v x:Nat) (y:OA) (z a0:Nat) (b0:OA) (c0 d0:Nat) (c:Int) (w:World) (K:KT):f87_s3 d e f g h i j k l m n o p q r s t u v x y z a0 b0 c0 d0 c w K=(optS d (fun e0=>0≤(c:Int)∧(c:Int) < (e:Nat)∧St1 (e0.add (Int.toNat c * 1)) (Value.bool true) w (fun f0=>f87_s4 (e0.add (Int.toNat c * 1)) c d e f d e f g h i j k l m n o p q r s t u v x y z a0 b0 c0 d0 c f0 K))):=Eq.trans (b:=CS P (cA c87 15) none [4] [4] (f87_kb K) (Env.mk 54 [(6,(VS d e f)),(14,(VS g h i)),(13,(VI j)),(12,(VS k l m)),(5,(VS n o p)),(11,(VS q r s)),(10,(VI t)),(9,(VS u v x)),(4,(VS y z a0)),(0,(VS b0 c0 d0)),(1,(VI c))] []) w) (by kernel_rfl) (Eq.trans (CSs [4,5,6,0,1] (f87_k3 K) (by kernel_rfl)) (by kernel_rfl))
theorem f87_s2_eq (f:OA) (g h:Nat) (i:OA) (j k:Nat) (l:Int) (m:OA) (n o:Nat) (p:OA) (q r:Nat) (c:OA) (d e:Nat) (s:Int) (w:World) (K:KT):f87_s2 f g h i j k l m n o p q r c d e s w K=(∃ t:Int,(∀ wq,Ext w wq→(Builtin.len_ #[60] 3 [(Value.slice c d e)].toArray).run P wq=.ok (.int .i64 t) wq)∧∃ (u:OA) (v x:Nat),∃ y:World,(Instr.makeSlice 150 (Value.int .i64 t) (Value.int .i64 t)).run P w=.ok (.slice u v x) y∧f87_s3 u v x u v x t c d e f g h i j k l m n o p q r c d e s y K):=Eq.trans (b:=CS P (cA c87 7) none [4] [4] (f87_kb K) (Env.mk 54 [(5,(VS f g h)),(11,(VS i j k)),(10,(VI l)),(9,(VS m n o)),(4,(VS p q r)),(0,(VS c d e)),(1,(VI s))] []) w) (by kernel_rfl) (Eq.trans (CSs [4,5,6,0,1] (f87_k2 K) (by kernel_rfl)) (by kernel_rfl))
theorem f87_s1_eq (f:OA) (g h:Nat) (c:OA) (d e:Nat) (i:Int) (w:World) (K:KT):f87_s1 f g h c d e i w K=(∃ j:Int,(∀ wq,Ext w wq→(Builtin.len_ #[60] 3 [(Value.slice c d e)].toArray).run P wq=.ok (.int .i64 j) wq)∧∃ (k:OA) (l m:Nat),∃ n:World,(Instr.makeSlice 150 (Value.int .i64 j) (Value.int .i64 j)).run P w=.ok (.slice k l m) n∧f87_s2 k l m k l m j c d e f g h c d e i n K):=Eq.trans (b:=CS P (cA c87 3) none [4] [4] (f87_kb K) (Env.mk 54 [(4,(VS f g h)),(0,(VS c d e)),(1,(VI i))] []) w) (by kernel_rfl) (Eq.trans (CSs [4,5,0,1] (f87_k1 K) (by kernel_rfl)) (by kernel_rfl))
theorem f87_s0_eq (c:OA) (d e:Nat) (f:Int) (w:World) (K:KT):f87_s0 c d e f w K=(f87_s1 none 0 0 c d e f w K):=Eq.trans (b:=CS P (cA c87 1) none [4] [4] (f87_kb K) (Env.mk 54 [(0,(VS c d e)),(1,(VI f))] []) w) (by kernel_rfl) (Eq.trans (CSs [4,0,1] (f87_k0 K) (by kernel_rfl)) (by kernel_rfl))
theorem f87_eq (a:OA) (b c:Nat) (d:Int) (w:World) (K:KT):f87 a b c d w K=(f87_s0 a b c d w K):=by kernel_rfl
theorem f87_ok (a:OA) (b c:Nat) (d:Int) (w:World) (K:KT) (h:f87 a b c d w K):CallL P 87 [(Value.slice a b c),(Value.int .i64 d)] w K:=okCS c87 Tryz.func87 (by kernel_rfl) (by kernel_rfl) h
noncomputable def c64:Code:=bodyOf Tryz.f64
noncomputable def rs64:List ResultVar:=Tryz.f64.results.toList
abbrev f64_kb (K:KT):Exit→YT:=bodyK P rs64 K
def f64 (a:Array Value) (b c:Int) (w:World) (K:KT):Prop:=CS P c64 none [6] [6] (f64_kb K) (env0 59 [(Value.agg a),(VI b),(VI c)]) w
def f64_s0 (a:Array Value) (b c:Int) (w:World) (K:KT):Prop:=CS P (cA c64 1) none [6] [6] (f64_kb K) (Env.mk 59 [(0,(Value.agg a)),(1,(VI b)),(2,(VI c))] []) w
abbrev f64_k0 (K:KT):Exit→YT:=kseq P (cA c64 2) (cA c64 3) none [6] [6] (f64_kb K)
def f64_s1 (a:OA) (b c:Nat) (d:Addr) (e:Array Value) (f g:Int) (w:World) (K:KT):Prop:=CS P (cA c64 3) none [6] [6] (f64_kb K) (Env.mk 59 [(6,(VS a b c)),(3,(VP (some d))),(0,(Value.agg e)),(1,(VI f)),(2,(VI g))] []) w
abbrev f64_k1 (K:KT):Exit→YT:=kseq P (cA c64 6) (cA c64 7) none [6] [6] (f64_kb K)
def f64_s2 (a:OA) (b c:Nat) (d:OA) (e f:Nat) (g:Int) (h:OA) (i j:Nat) (k:Addr) (l:Array Value) (m n:Int) (w:World) (K:KT):Prop:=CS P (cA c64 7) none [6] [6] (f64_kb K) (Env.mk 59 [(7,(VS a b c)),(12,(VS d e f)),(11,(VI g)),(6,(VS h i j)),(3,(VP (some k))),(0,(Value.agg l)),(1,(VI m)),(2,(VI n))] []) w
abbrev f64_k2 (K:KT):Exit→YT:=kseq P (cA c64 14) (cA c64 15) none [6] [6] (f64_kb K)
abbrev f64_k3 (K:KT):Exit→YT:=kseq P (cA c64 28) (cA c64 29) none [7] [6] (f64_k2 K)
def f64_s3 (a:Int) (b:OA) (c d:Nat) (e:OA) (f g:Nat) (h:Int) (i:OA) (j k:Nat) (l:Addr) (m:Array Value) (n o:Int) (w:World) (K:KT):Prop:=CS P (cA c64 29) none [7] [6] (f64_k2 K) (Env.mk 59 [(8,(VI a)),(7,(VS b c d)),(12,(VS e f g)),(11,(VI h)),(6,(VS i j k)),(3,(VP (some l))),(0,(Value.agg m)),(1,(VI n)),(2,(VI o))] []) w
abbrev f64_k4 (K:KT):Exit→YT:=kblock 0 (f64_k2 K)
def f64_lp4 (K:KT) (Y4:YT) (e:Env) (w:World):Prop:=Join (fun e w=>CS P (cA c64 116) none [6,7,8,3,1] [6,7] (kloop [6,7,8,3,1] Y4 (f64_k4 K)) e w) e w
abbrev f64_kl4 (K:KT) (Y4:YT):Exit→YT:=kloop [6,7,8,3,1] Y4 (f64_k4 K)
def f64_lb4 (a:OA) (b c:Nat) (d:OA) (f g:Nat) (h:Int) (i:Addr) (j:Int) (w:World) (K:KT) (Y4:YT):Prop:=SG P (cA c64 116) none [6,7,8,3,1] [6,7] (f64_kl4 K Y4) (Env.mk 59 [(6,(VS a b c)),(7,(VS d f g)),(8,(VI h)),(3,(VP (some i))),(1,(VI j))] []) w
abbrev f64_k5 (K:KT) (Y4:YT):Exit→YT:=kseq P (cA c64 232) (cA c64 233) none [6,7,8,3,1] [6,7] (f64_kl4 K Y4)
abbrev f64_k6 (K:KT) (Y4:YT):Exit→YT:=kseq P (cA c64 464) (cA c64 465) none [6,7,3,1,8] [6,7] (f64_k5 K Y4)
def f64_s5 (a:OA) (b c:Nat) (d:OA) (f g:Nat) (h:Addr) (i j:Int) (w:World) (K:KT) (Y4:YT):Prop:=SG P (cA c64 233) none [6,7,8,3,1] [6,7] (f64_kl4 K Y4) (Env.mk 59 [(6,(VS a b c)),(7,(VS d f g)),(3,(VP (some h))),(1,(VI i)),(8,(VI j))] []) w
abbrev f64_k7 (K:KT) (Y4:YT):Exit→YT:=kseq P (cA c64 466) (cA c64 467) none [6,7,8,3,1] [6,7] (f64_kl4 K Y4)
abbrev f64_k8 (K:KT) (Y4:YT):Exit→YT:=kblock 1 (f64_k7 K Y4)
abbrev f64_k9 (K:KT) (Y4:YT):Exit→YT:=kseq P (cA c64 1864) (cA c64 1865) none [6,7,3,1,8] [6,7,3,1,8] (f64_k8 K Y4)
abbrev f64_k10 (K:KT) (Y4:YT):Exit→YT:=kseq P (cA c64 3728) (cA c64 3729) none [3,7,1,6,8] [6,7,3,1,8] (f64_k9 K Y4)
def f64_s6 (a:OA) (b c:Nat) (d:OA) (f g:Nat) (h:Addr) (i j:Int) (w:World) (K:KT) (Y4:YT):Prop:=SG P (cA c64 467) none [6,7,8,3,1] [6,7] (f64_kl4 K Y4) (Env.mk 59 [(6,(VS a b c)),(7,(VS d f g)),(3,(VP (some h))),(1,(VI i)),(8,(VI j))] []) w
theorem f64_s6_eq (a:OA) (c d:Nat) (e:OA) (f g:Nat) (h:Addr) (i j:Int) (w:World) (K:KT) (Y4:YT):f64_s6 a c d e f g h i j w K Y4=(Y4 (Env.mk 59 [(6,(Value.slice a c d)),(7,(Value.slice e f g)),(8,(Value.int .i64 (IntKind.wrap .i64 ((j:Int)+1)))),(3,(Value.pointer (some h))),(1,(Value.int .i64 i))] []) w):=Eq.trans SGe (by kernel_rfl)
def f64_s7 (a:Addr) (b:OA) (c d:Nat) (f:Int) (g:OA) (h i:Nat) (j:Int) (w:World) (K:KT) (Y4:YT):Prop:=SG P (cA c64 1865) none [6,7,3,1,8] [6,7,3,1,8] (f64_k8 K Y4) (Env.mk 59 [(3,(VP (some a))),(7,(VS b c d)),(1,(VI f)),(6,(VS g h i)),(8,(VI j))] []) w
abbrev f64_k11 (K:KT) (Y4:YT):Exit→YT:=kseq P (cA c64 3730) (cA c64 3731) none [6,7,3,1,8] [6,7,3,1,8] (f64_k8 K Y4)
def f64_s8 (a:OA) (b c:Nat) (d:OA) (e f:Nat) (g:Int) (h:OA) (i j:Nat) (k l:Addr) (m:OA) (n o:Nat) (p:Int) (q:OA) (r s:Nat) (t:Int) (w:World) (K:KT) (Y4:YT):Prop:=CS P (cA c64 3731) none [6,7,3,1,8] [6,7,3,1,8] (f64_k8 K Y4) (Env.mk 59 [(9,(VS a b c)),(30,(VS d e f)),(29,(VI g)),(28,(VS h i j)),(27,(VP (some k))),(3,(VP (some l))),(7,(VS m n o)),(1,(VI p)),(6,(VS q r s)),(8,(VI t))] []) w
abbrev f64_k12 (K:KT) (Y4:YT):Exit→YT:=kseq P (cA c64 7462) (cA c64 7463) none [6,7,3,1,8] [6,7,3,1,8] (f64_k8 K Y4)
def f64_s9 (a:Int) (b:OA) (c d:Nat) (e:OA) (f g:Nat) (h:Int) (i:OA) (j k:Nat) (l m:Addr) (n:OA) (o p:Nat) (q:Int) (r:OA) (s t:Nat) (u:Int) (w:World) (K:KT) (Y4:YT):Prop:=CS P (cA c64 7463) none [6,7,3,1,8] [6,7,3,1,8] (f64_k8 K Y4) (Env.mk 59 [(10,(VI a)),(9,(VS b c d)),(30,(VS e f g)),(29,(VI h)),(28,(VS i j k)),(27,(VP (some l))),(3,(VP (some m))),(7,(VS n o p)),(1,(VI q)),(6,(VS r s t)),(8,(VI u))] []) w
abbrev f64_k13 (K:KT) (Y4:YT):Exit→YT:=kblock 2 (f64_k8 K Y4)
def f64_lp10 (K:KT) (Y4 Y10:YT) (e:Env) (w:World):Prop:=Join (fun e w=>CS P (cA c64 29852) none [10,3,7,1,9,6,8] [6,7,3,1,8] (kloop [10,3,7,1,9,6,8] Y10 (f64_k13 K Y4)) e w) e w
abbrev f64_kl10 (K:KT) (Y4 Y10:YT):Exit→YT:=kloop [10,3,7,1,9,6,8] Y10 (f64_k13 K Y4)
def f64_lb10 (a:Int) (b:Addr) (c:OA) (d f:Nat) (g:Int) (h:OA) (i j:Nat) (k:OA) (l m:Nat) (n:Int) (w:World) (K:KT) (Y4 Y10:YT):Prop:=SG P (cA c64 29852) none [10,3,7,1,9,6,8] [6,7,3,1,8] (f64_kl10 K Y4 Y10) (Env.mk 59 [(10,(VI a)),(3,(VP (some b))),(7,(VS c d f)),(1,(VI g)),(9,(VS h i j)),(6,(VS k l m)),(8,(VI n))] []) w
abbrev f64_k14 (K:KT) (Y4 Y10:YT):Exit→YT:=kseq P (cA c64 59704) (cA c64 59705) none [10,3,7,1,9,6,8] [6,7,3,1,8] (f64_kl10 K Y4 Y10)
abbrev f64_k15 (K:KT) (Y4 Y10:YT):Exit→YT:=kseq P (cA c64 119408) (cA c64 119409) none [3,7,1,9,6,8,10] [6,7,3,1,8] (f64_k14 K Y4 Y10)
def f64_s11 (a:Addr) (b:OA) (c d:Nat) (f:Int) (g:OA) (h i:Nat) (j:OA) (k l:Nat) (m n:Int) (w:World) (K:KT) (Y4 Y10:YT):Prop:=SG P (cA c64 59705) none [10,3,7,1,9,6,8] [6,7,3,1,8] (f64_kl10 K Y4 Y10) (Env.mk 59 [(3,(VP (some a))),(7,(VS b c d)),(1,(VI f)),(9,(VS g h i)),(6,(VS j k l)),(8,(VI m)),(10,(VI n))] []) w
abbrev f64_k16 (K:KT) (Y4 Y10:YT):Exit→YT:=kseq P (cA c64 119410) (cA c64 119411) none [10,3,7,1,9,6,8] [6,7,3,1,8] (f64_kl10 K Y4 Y10)
abbrev f64_k17 (K:KT) (Y4 Y10:YT):Exit→YT:=kblock 3 (f64_k16 K Y4 Y10)
abbrev f64_k18 (K:KT) (Y4 Y10:YT):Exit→YT:=kseq P (cA c64 477640) (cA c64 477641) none [3,7,1,9,6,8,10] [6,7,3,1,8,9,10] (f64_k17 K Y4 Y10)
def f64_s12 (a:Bool) (b:Addr) (c:OA) (d f:Nat) (g:Int) (h:OA) (i j:Nat) (k:OA) (l m:Nat) (n o:Int) (w:World) (K:KT) (Y4 Y10:YT):Prop:=SG P (cA c64 477641) none [3,7,1,9,6,8,10] [6,7,3,1,8,9,10] (f64_k17 K Y4 Y10) (Env.mk 59 [(50,(VB a)),(3,(VP (some b))),(7,(VS c d f)),(1,(VI g)),(9,(VS h i j)),(6,(VS k l m)),(8,(VI n)),(10,(VI o))] []) w
def f64_s13 (a:Addr) (b:OA) (c d:Nat) (f:Int) (g:OA) (h i:Nat) (j:OA) (k l:Nat) (m n:Int) (w:World) (K:KT) (Y4 Y10:YT):Prop:=SG P (cA c64 119411) none [10,3,7,1,9,6,8] [6,7,3,1,8] (f64_kl10 K Y4 Y10) (Env.mk 59 [(3,(VP (some a))),(7,(VS b c d)),(1,(VI f)),(9,(VS g h i)),(6,(VS j k l)),(8,(VI m)),(10,(VI n))] []) w
theorem f64_s13_eq (a:Addr) (c:OA) (d e:Nat) (f:Int) (g:OA) (h i:Nat) (j:OA) (k l:Nat) (m n:Int) (w:World) (K:KT) (Y4 Y10:YT):f64_s13 a c d e f g h i j k l m n w K Y4 Y10=(Y10 (Env.mk 59 [(10,(Value.int .i64 (IntKind.wrap .i64 ((n:Int)+1)))),(3,(Value.pointer (some a))),(7,(Value.slice c d e)),(1,(Value.int .i64 f)),(9,(Value.slice g h i)),(6,(Value.slice j k l)),(8,(Value.int .i64 m))] []) w):=Eq.trans SGe (by kernel_rfl)
theorem f64_s12_eq (p:Bool) (c:Addr) (d:OA) (e f:Nat) (g:Int) (h:OA) (i j:Nat) (k:OA) (l m:Nat) (n a:Int) (w:World) (K:KT) (Y4 Y10:YT):f64_s12 p c d e f g h i j k l m n a w K Y4 Y10=(BIf p (∃ (q:OA) (r s:Nat),w.cell? (c.add 1)=some (.slice q r s)∧optS q (fun t=>0≤(a:Int)∧(a:Int) < (r:Nat)∧∃ o:Int,w.cell? (t.add (Int.toNat a * 1))=some (.int .i64 o)∧optS d (fun u=>0≤(o:Int)∧(o:Int) < (e:Nat)∧St1 (u.add (Int.toNat o * 1)) (Value.bool true) w (fun v=>f64_s13 c d e f g h i j k l m n a v K Y4 Y10)))) (f64_s13 c d e f g h i j k l m n a w K Y4 Y10)):=Eq.trans SGe (by kernel_rfl)
theorem f64_s11_eq (d:Addr) (h:OA) (i j:Nat) (e:Int) (f:OA) (g k:Nat) (l:OA) (m n:Nat) (o c:Int) (w:World) (K:KT) (Y4 Y10:YT):f64_s11 d h i j e f g k l m n o c w K Y4 Y10=(optS f (fun t=>0≤(c:Int)∧(c:Int) < (g:Nat)∧∃ p:Bool,w.cell? (t.add (Int.toNat c * 1))=some (.bool p)∧BIf p (∃ (q:OA) (r u:Nat),w.cell? (d.add 1)=some (.slice q r u)∧optS q (fun v=>0≤(c:Int)∧(c:Int) < (r:Nat)∧∃ s:Int,w.cell? (v.add (Int.toNat c * 1))=some (.int .i64 s)∧f64_s12 (decide ((s:Int) > e)) d h i j e f g k l m n o c w K Y4 Y10)) (f64_s12 false d h i j e f g k l m n o c w K Y4 Y10))):=Eq.trans SGe (Eq.trans (CSs [3,7,1,9,6,8,10] (f64_k16 K Y4 Y10) (by kernel_rfl)) (Eq.trans (CSb 3 [6,7,3,1,8,9,10] (f64_k17 K Y4 Y10) (by kernel_rfl)) (Eq.trans (CSs [50,3,7,1,9,6,8,10] (f64_k18 K Y4 Y10) (by kernel_rfl)) (by kernel_rfl))))
theorem f64_lb10_eq (d:Int) (c:Addr) (e:OA) (f g:Nat) (h:Int) (m:OA) (n o:Nat) (i:OA) (j k:Nat) (l:Int) (w:World) (K:KT) (Y4 Y10:YT):f64_lb10 d c e f g h m n o i j k l w K Y4 Y10=(∃ (p:OA) (q r:Nat),w.cell? c=some (.slice p q r)∧∃ s:Int,(∀ wq,Ext w wq→(Builtin.len_ #[60] 3 [(Value.slice p q r)].toArray).run P wq=.ok (.int .i64 s) wq)∧BIf (decide ((d:Int) < s)) (f64_s11 c e f g h m n o i j k l d w K Y4 Y10) (f64_s6 i j k e f g c h l w K Y4)):=Eq.trans SGe (Eq.trans (CSs [3,7,1,9,6,8,10] (f64_k14 K Y4 Y10) (by kernel_rfl)) (Eq.trans (CSs [35,3,7,1,9,6,8,10] (f64_k15 K Y4 Y10) (by kernel_rfl)) (by kernel_rfl)))
theorem f64_s9_eq (a:Int) (c:OA) (d e:Nat) (o:OA) (p q:Nat) (r:Int) (s:OA) (t u:Nat) (v f:Addr) (g:OA) (h i:Nat) (j:Int) (k:OA) (l m:Nat) (n:Int) (w:World) (K:KT) (Y4:YT):f64_s9 a c d e o p q r s t u v f g h i j k l m n w K Y4=(LoopE (f64_lp10 K Y4) (Env.mk 59 [(10,(Value.int .i64 a)),(3,(Value.pointer (some f))),(7,(Value.slice g h i)),(1,(Value.int .i64 j)),(9,(Value.slice c d e)),(6,(Value.slice k l m)),(8,(Value.int .i64 n))] []) w):=Eq.trans (b:=CS P (cA c64 7463) none [6,7,3,1,8] [6,7,3,1,8] (f64_k8 K Y4) (Env.mk 59 [(10,(VI a)),(9,(VS c d e)),(30,(VS o p q)),(29,(VI r)),(28,(VS s t u)),(27,(VP (some v))),(3,(VP (some f))),(7,(VS g h i)),(1,(VI j)),(6,(VS k l m)),(8,(VI n))] []) w) (by kernel_rfl) (Eq.trans (CSb 2 [6,7,3,1,8] (f64_k13 K Y4) (by kernel_rfl)) ((CS_loop' (b:=(cA c64 29852)) (X':=[6,7,3,1,8]) (H:=[10,3,7,1,9,6,8]) (by kernel_rfl) (by kernel_rfl) (by kernel_rfl)).trans (by kernel_rfl)))
theorem f64_s8_eq (c:OA) (d e:Nat) (f:OA) (g h:Nat) (i:Int) (j:OA) (k l:Nat) (m n:Addr) (o:OA) (p q:Nat) (r:Int) (s:OA) (t u:Nat) (v:Int) (w:World) (K:KT) (Y4:YT):f64_s8 c d e f g h i j k l m n o p q r s t u v w K Y4=(f64_s9 0 c d e f g h i j k l m n o p q r s t u v w K Y4):=Eq.trans (b:=CS P (cA c64 3731) none [6,7,3,1,8] [6,7,3,1,8] (f64_k8 K Y4) (Env.mk 59 [(9,(VS c d e)),(30,(VS f g h)),(29,(VI i)),(28,(VS j k l)),(27,(VP (some m))),(3,(VP (some n))),(7,(VS o p q)),(1,(VI r)),(6,(VS s t u)),(8,(VI v))] []) w) (by kernel_rfl) (Eq.trans (CSs [10,3,7,1,9,6,8] (f64_k12 K Y4) (by kernel_rfl)) (by kernel_rfl))
theorem f64_s7_eq (c:Addr) (e:OA) (f g:Nat) (h:Int) (i:OA) (j k:Nat) (d:Int) (w:World) (K:KT) (Y4:YT):f64_s7 c e f g h i j k d w K Y4=(∃ (l:OA) (m n:Nat),w.cell? c=some (.slice l m n)∧CallL P 87 [(Value.slice l m n),(Value.int .i64 d)] w (fun r s=>∃ (o:OA) (p q:Nat),r=(.slice o p q)∧f64_s8 o p q o p q d l m n c c e f g h i j k d s K Y4)):=Eq.trans SGe (Eq.trans (CSs [3,7,1,9,6,8] (f64_k11 K Y4) (by kernel_rfl)) (by kernel_rfl))
theorem f64_s5_eq (f:OA) (g h:Nat) (i:OA) (j k:Nat) (d:Addr) (e c:Int) (w:World) (K:KT) (Y4:YT):f64_s5 f g h i j k d e c w K Y4=(∃ (l:OA) (m o:Nat),w.cell? (d.add 1)=some (.slice l m o)∧optS l (fun p=>0≤(c:Int)∧(c:Int) < (m:Nat)∧∃ n:Int,w.cell? (p.add (Int.toNat c * 1))=some (.int .i64 n)∧BIf ((n:Int) != e) (f64_s6 f g h i j k d e c w K Y4) (f64_s7 d i j k e f g h c w K Y4))):=Eq.trans SGe (Eq.trans (CSs [6,7,3,1,8] (f64_k7 K Y4) (by kernel_rfl)) (Eq.trans (CSb 1 [6,7,3,1,8] (f64_k8 K Y4) (by kernel_rfl)) (Eq.trans (CSs [3,7,1,6,8] (f64_k9 K Y4) (by kernel_rfl)) (Eq.trans (CSs [26,6,7,3,1,8] (f64_k10 K Y4) (by kernel_rfl)) (by kernel_rfl)))))
def f64_s14 (a:OA) (b c:Nat) (w:World) (K:KT):Prop:=SG P (cA c64 15) none [6] [6] (f64_kb K) (Env.mk 59 [(7,(VS a b c))] []) w
abbrev f64_k19 (K:KT):Exit→YT:=kseq P (cA c64 30) (cA c64 31) none [6] [6] (f64_kb K)
theorem f64_s14_eq (c:OA) (d e:Nat) (w:World) (K:KT):f64_s14 c d e w K=(K (Value.slice c d e) w):=Eq.trans SGe (Eq.trans (CSs [6] (f64_k19 K) (by kernel_rfl)) (by kernel_rfl))
theorem f64_lb4_eq (h:OA) (i j:Nat) (c:OA) (d e:Nat) (f:Int) (g:Addr) (k:Int) (w:World) (K:KT) (Y4:YT):f64_lb4 h i j c d e f g k w K Y4=(∃ (l:OA) (m n:Nat),w.cell? g=some (.slice l m n)∧∃ o:Int,(∀ wq,Ext w wq→(Builtin.len_ #[60] 3 [(Value.slice l m n)].toArray).run P wq=.ok (.int .i64 o) wq)∧BIf (decide ((f:Int) < o)) (f64_s5 h i j c d e g k f w K Y4) (f64_s14 c d e w K)):=Eq.trans SGe (Eq.trans (CSs [6,7,3,1,8] (f64_k5 K Y4) (by kernel_rfl)) (Eq.trans (CSs [17,6,7,3,1,8] (f64_k6 K Y4) (by kernel_rfl)) (by kernel_rfl)))
theorem f64_s3_eq (a:Int) (c:OA) (d e:Nat) (k:OA) (l m:Nat) (n:Int) (f:OA) (g h:Nat) (i:Addr) (o:Array Value) (j p:Int) (w:World) (K:KT):f64_s3 a c d e k l m n f g h i o j p w K=(LoopE (f64_lp4 K) (Env.mk 59 [(6,(Value.slice f g h)),(7,(Value.slice c d e)),(8,(Value.int .i64 a)),(3,(Value.pointer (some i))),(1,(Value.int .i64 j))] []) w):=Eq.trans (b:=CS P (cA c64 29) none [7] [6] (f64_k2 K) (Env.mk 59 [(8,(VI a)),(7,(VS c d e)),(12,(VS k l m)),(11,(VI n)),(6,(VS f g h)),(3,(VP (some i))),(0,(Value.agg o)),(1,(VI j)),(2,(VI p))] []) w) (by kernel_rfl) (Eq.trans (CSb 0 [6,7] (f64_k4 K) (by kernel_rfl)) ((CS_loop' (b:=(cA c64 116)) (X':=[6,7]) (H:=[6,7,8,3,1]) (by kernel_rfl) (by kernel_rfl) (by kernel_rfl)).trans (by kernel_rfl)))
theorem f64_s2_eq (c:OA) (d e:Nat) (f:OA) (g h:Nat) (i:Int) (j:OA) (k l:Nat) (m:Addr) (n:Array Value) (o p:Int) (w:World) (K:KT):f64_s2 c d e f g h i j k l m n o p w K=(f64_s3 0 c d e f g h i j k l m n o p w K):=Eq.trans (b:=CS P (cA c64 7) none [6] [6] (f64_kb K) (Env.mk 59 [(7,(VS c d e)),(12,(VS f g h)),(11,(VI i)),(6,(VS j k l)),(3,(VP (some m))),(0,(Value.agg n)),(1,(VI o)),(2,(VI p))] []) w) (by kernel_rfl) (Eq.trans (CSs [7] (f64_k2 K) (by kernel_rfl)) (Eq.trans (CSs [6,7,8,3,1] (f64_k3 K) (by kernel_rfl)) (by kernel_rfl)))
theorem f64_s1_eq (d:OA) (e f:Nat) (g:Addr) (h:Array Value) (i c:Int) (w:World) (K:KT):f64_s1 d e f g h i c w K=(∃ (j:OA) (k l:Nat),∃ m:World,(Instr.makeSlice 150 (Value.int .i64 c) (Value.int .i64 c)).run P w=.ok (.slice j k l) m∧f64_s2 j k l j k l c d e f g h i c m K):=Eq.trans (b:=CS P (cA c64 3) none [6] [6] (f64_kb K) (Env.mk 59 [(6,(VS d e f)),(3,(VP (some g))),(0,(Value.agg h)),(1,(VI i)),(2,(VI c))] []) w) (by kernel_rfl) (Eq.trans (CSs [6,7,3,1] (f64_k1 K) (by kernel_rfl)) (by kernel_rfl))
theorem f64_s0_eq (c:Array Value) (d e:Int) (w:World) (K:KT):f64_s0 c d e w K=(NewC c 64 w (fun f g=>f64_s1 none 0 0 (Addr.mk f 0 none) c d e g K)):=Eq.trans (b:=CS P (cA c64 1) none [6] [6] (f64_kb K) (Env.mk 59 [(0,(Value.agg c)),(1,(VI d)),(2,(VI e))] []) w) (by kernel_rfl) (Eq.trans (CSs [6,3,1,2] (f64_k0 K) (by kernel_rfl)) (by kernel_rfl))
theorem f64_eq (a:Array Value) (b c:Int) (w:World) (K:KT):f64 a b c w K=(f64_s0 a b c w K):=by kernel_rfl
theorem f64_ok (a:Array Value) (b c:Int) (w:World) (K:KT) (h:f64 a b c w K):CallL P 64 [(Value.agg a),(Value.int .i64 b),(Value.int .i64 c)] w K:=okCS c64 Tryz.func64 (by kernel_rfl) (by kernel_rfl) h
end Go.Fx.Tryz
namespace Go.Fx.Mo
def aIn (L:List Ord) (k:Nat):Nat→Nat→List Bool × List Bool→List Bool × List Bool
 | 0,_,s=>s
 | m+1,j,s=>aIn L k m (j+1) (if direct (L.getD k default) (L.getD j default) then (s.1.set j true,s.2.set j true) else s)
def aOut (L:List Ord):Nat→Nat→List Bool × List Bool→List Bool × List Bool
 | 0,_,s=>s
 | m+1,k,s=>aOut L m (k+1) (if s.2.getD k false then aIn L k (L.length - (k+1)) (k+1) s else s)
def after29 (L:List Ord) (i:Nat):List Bool:=(aOut L (L.length - i) i (List.replicate L.length false,(List.replicate L.length false).set i true)).1
end Go.Fx.Mo
namespace Go.Fx.Tryz
open Go Go.Fx Go.Fx.Mo
open Go.Proofs
variable {w0 w:World} {H Y:HL} {K:KT}
set_option maxRecDepth 20000
theorem ord_at {L:List Ord} {i:Nat} (hi:i < L.length):((ords L).drop (i * 4)).take 4=Ordcs L[i]:=flat_slice (f:=Ordcs) (fun _ _=>rfl) hi
theorem info4:P.info? 4=some Tryz.t4:=by kernel_rfl
theorem made_false (n:Nat):madeCells (Value.bool false).cells n=(List.replicate n (Value.bool false)).toArray:=by
 apply Array.ext
 ·simp [madeCells]
 ·intro i h1 h2
  simp [madeCells,Value.cells,Nat.mod_one]
theorem new_flags (h:St w0 w H) {n:Nat} (hn:n≤1000000):∃ g,w0.heap.size≤g∧(Instr.makeSlice 150 (.int .i64 (n:Nat)) (.int .i64 (n:Nat))).run P w=.ok (.slice (some ⟨g,0,none⟩) n n) (w.alloc (Cs ((List.replicate n false).map .bool) 4))∧
  St w0 (w.alloc (Cs ((List.replicate n false).map .bool) 4)) ((g,Cs ((List.replicate n false).map .bool) 4)::H):=by
 refine ⟨w.heap.size,h.le,?_,h.alloc _⟩
 have hr:=run_make (P:=P) w 150 4 Tryz.t4 (.bool false) Tryz.underlying150 info4 rfl .i64 .i64 n n (by omega) (by omega) (by show ((1:Nat):Int) * _≤_; omega) (by omega)
 simp only [Int.toNat_natCast] at hr
 rw [hr,show Tryz.t4.size=1 from rfl,Nat.mul_one,made_false]
 rw [List.map_replicate]
 rfl
theorem aIn_len (L:List Ord) (k:Nat):∀ (m j:Nat) (s:List Bool × List Bool),(aIn L k m j s).1.length=s.1.length∧(aIn L k m j s).2.length=s.2.length
 | 0,_,_=>⟨rfl,rfl⟩
 | m+1,j,s=>by
  unfold aIn
  obtain ⟨h1,h2⟩:=aIn_len L k m (j+1) (if direct (L.getD k default) (L.getD j default) then (s.1.set j true,s.2.set j true) else s)
  rw [h1,h2]
  split <;> simp
theorem flag_at {l:List Bool} {i:Nat} (hi:i < l.length):(l.map Value.bool)[i]?=some (.bool (l.getD i false)):=by
 rw [List.getElem?_map,List.getElem?_eq_getElem hi]
 simp [List.getD,hi]
theorem set_flag (l:List Bool) (i:Nat):(l.map Value.bool).set i (.bool true)=(l.set i true).map Value.bool:=by rw [List.map_set]
theorem after29_ok {L:List Ord} {lv:Value} {i:Nat} (h:St w0 w H) (hrow:∀ w',St w0 w' H→Row w' 4 lv L.length (ords L)) (hn:L.length≤1000000) (hi:i < L.length)
  (hK:∀ w' g,w0.heap.size≤g→(after29 L i).length=L.length→St w0 w' ((g,Cs ((after29 L i).map .bool) 4)::H)→K (.slice (some ⟨g,0,none⟩) L.length L.length) w'):CallL P 87 [lv,.int .i64 i] w K:=by
 obtain ⟨la,lc,hlv⟩:=(hrow w h).form
 rw [hlv]
 refine f87_ok _ _ _ _ _ _ ?_
 rw [f87_eq,f87_s0_eq,f87_s1_eq]
 refine ⟨L.length,fun wq _=>run_len_57 wq,?_⟩
 obtain ⟨go,hgo,hr1,g1⟩:=new_flags h hn
 refine ⟨_,_,_,_,hr1,?_⟩
 rw [f87_s2_eq]
 refine ⟨L.length,fun wq _=>run_len_57 wq,?_⟩
 obtain ⟨gr,hgr,hr2,g2⟩:=new_flags g1 hn
 refine ⟨_,_,_,_,hr2,?_⟩
 rw [f87_s3_eq]
 refine ⟨by omega,by omega,?_⟩
 have ad:∀ (g j:Nat),(Addr.mk g 0 none).add (Int.toNat (j:Int) * 1)=Addr.mk g j none:=fun g j=>by rw [add_lit',Nat.zero_add,Int.toNat_natCast,Nat.mul_one]
 rw [ad]
 refine g2.st1 (k:=0) rfl (by simpa using hi) rfl fun w3 g3=>?_
 have g3:St w0 w3 ((gr,Cs (((List.replicate L.length false).map Value.bool).set i (.bool true)) 4)::(go,Cs ((List.replicate L.length false).map Value.bool) 4)::H):=g3
 rw [set_flag] at g3
 rw [f87_s4_eq,f87_s5_eq]
 refine ⟨fun m ee w=>∃ (k:Nat) (s:List Bool × List Bool),k≤L.length∧m=L.length - k∧ee=Env.mk 54 [(4,nilS),(5,.slice (some ⟨go,0,none⟩) L.length L.length),(7,I64 (k:Nat)),(6,.slice (some ⟨gr,0,none⟩) L.length L.length),(0,.slice la L.length lc)] []∧
   s.1.length=L.length∧s.2.length=L.length∧(aOut L (L.length - k) k s).1=after29 L i∧St w0 w ((gr,Cs (s.2.map .bool) 4)::(go,Cs (s.1.map .bool) 4)::H),
  ⟨L.length - i,i,(List.replicate L.length false,(List.replicate L.length false).set i true),by omega,rfl,rfl,by simp,by simp,rfl,g3⟩,?_⟩
 rintro m ee w4 ⟨k,s,hk,rfl,rfl,hs1,hs2,hfin,hw⟩
 show f87_lb6 ..
 rw [f87_lb6_eq]
 refine ⟨L.length,fun wq _=>run_len_57 wq,?_⟩
 rw [BIf_iff]
 constructor
 ·intro hlt
  have hlt:k < L.length:=by simpa using hlt
  rw [f87_s7_eq]
  refine ⟨by omega,by omega,s.2.getD k false,by rw [ad,hw.cell (k:=0) rfl]; exact flag_at (by omega),?_⟩
  rw [show L.length - k=(L.length - (k+1))+1 by omega,aOut] at hfin
  generalize hY:(fun e' w'=>∃ m,m < L.length - k∧∃ (k:Nat) (s:List Bool × List Bool),k≤L.length∧m=L.length - k∧e'=Env.mk 54 [(4,nilS),(5,.slice (some ⟨go,0,none⟩) L.length L.length),(7,I64 (k:Nat)),(6,.slice (some ⟨gr,0,none⟩) L.length L.length),(0,.slice la L.length lc)] []∧
   s.1.length=L.length∧s.2.length=L.length∧(aOut L (L.length - k) k s).1=after29 L i∧St w0 w' ((gr,Cs (s.2.map .bool) 4)::(go,Cs (s.1.map .bool) 4)::H))=Y
  have wr:∀ j:Nat,j < L.length→IntKind.wrap .i64 ((j:Int)+1)=((j+1:Nat):Int):=fun j hj=>by rw [wrap_i64 (by omega) (by omega)]; rfl
  have next:∀ w5 (s':List Bool × List Bool),s'.1.length=L.length→s'.2.length=L.length→(aOut L (L.length - (k+1)) (k+1) s').1=after29 L i→St w0 w5 ((gr,Cs (s'.2.map .bool) 4)::(go,Cs (s'.1.map .bool) 4)::H)→
    f87_s8 none 0 0 (some ⟨go,0,none⟩) L.length L.length (some ⟨gr,0,none⟩) L.length L.length la L.length lc (k:Nat) w5 K Y:=by
   intro w5 s' h1 h2 h3 h5
   rw [f87_s8_eq,← hY,wr k hlt]
   exact ⟨L.length - (k+1),by omega,k+1,s',by omega,rfl,rfl,h1,h2,h3,h5⟩
  cases hb:s.2.getD k false
  ·rw [Bool.not_false,BIf_true]
   rw [hb,if_neg (by decide)] at hfin
   exact next w4 s hs1 hs2 hfin hw
  ·rw [Bool.not_true,BIf_false,f87_s9_eq,wr k hlt,f87_s10_eq]
   rw [hb,if_pos rfl] at hfin
   refine ⟨fun m ee w=>∃ (j:Nat) (t:List Bool × List Bool),k+1≤j∧j≤L.length∧m=L.length - j∧ee=Env.mk 54 [(8,I64 (j:Nat)),(5,.slice (some ⟨go,0,none⟩) L.length L.length),(6,.slice (some ⟨gr,0,none⟩) L.length L.length),(0,.slice la L.length lc),(7,I64 (k:Nat)),(4,nilS)] []∧
     t.1.length=L.length∧t.2.length=L.length∧aIn L k (L.length - j) j t=aIn L k (L.length - (k+1)) (k+1) s∧St w0 w ((gr,Cs (t.2.map .bool) 4)::(go,Cs (t.1.map .bool) 4)::H),
    ⟨L.length - (k+1),k+1,s,by omega,by omega,rfl,rfl,hs1,hs2,rfl,hw⟩,?_⟩
   rintro m ee w5 ⟨j,t,hkj,hj,rfl,rfl,ht1,ht2,hin,hw5⟩
   show f87_lb11 ..
   rw [f87_lb11_eq]
   refine ⟨L.length,fun wq _=>run_len_57 wq,?_⟩
   rw [BIf_iff]
   constructor
   ·intro hjl
    have hjl:j < L.length:=by simpa using hjl
    rw [f87_s12_eq]
    have hd:=hw5.drew
    have hrw:=hrow _ ((hd.tail hgr).tail hgo)
    obtain ⟨a,c,hac,hld⟩:=hrw.ldA hlt
    rw [hlv] at hac
    obtain ⟨hsa,-⟩:la=some a∧lc=c:=by simpa using hac
    subst hsa
    obtain ⟨a',c',hac',hld'⟩:=hrw.ldA hjl
    rw [hlv] at hac'
    obtain ⟨rfl,-⟩:a=a'∧lc=c':=by simpa using hac'
    refine ⟨by omega,by omega,by omega,by omega,hld _ (hld' _ ?_)⟩
    rw [ord_at hlt,ord_at hjl]
    refine direct_ok hd L[k] L[j] fun w6 h6=>⟨_,rfl,?_⟩
    rw [show L.length - j=(L.length - (j+1))+1 by omega,aIn] at hin
    have gk:L.getD k default=L[k]:=by simp [List.getD,hlt]
    have gj:L.getD j default=L[j]:=by simp [List.getD,hjl]
    rw [gk,gj] at hin
    rw [f87_s13_eq]
    cases hdir:direct L[k] L[j]
    ·rw [BIf_false,f87_s14_eq,wr j hjl]
     rw [hdir,if_neg (by decide)] at hin
     exact ⟨L.length - (j+1),by omega,j+1,t,by omega,by omega,rfl,rfl,ht1,ht2,hin,h6⟩
    ·rw [BIf_true]
     rw [hdir,if_pos rfl] at hin
     refine ⟨by omega,by omega,?_⟩
     rw [ad]
     refine h6.st1 (k:=0) rfl (by simpa [ht2] using hjl) rfl fun w7 h7=>⟨by omega,by omega,?_⟩
     rw [ad]
     refine h7.st1 (k:=1) rfl (by simpa [ht1] using hjl) rfl fun w8 h8=>?_
     have h8:St w0 w8 ((gr,Cs ((t.2.map Value.bool).set j (.bool true)) 4)::(go,Cs ((t.1.map Value.bool).set j (.bool true)) 4)::H):=h8
     rw [set_flag,set_flag] at h8
     rw [f87_s14_eq,wr j hjl]
     exact ⟨L.length - (j+1),by omega,j+1,(t.1.set j true,t.2.set j true),by omega,by omega,rfl,rfl,by simp [ht1],by simp [ht2],hin,h8⟩
   ·intro hge
    have hge:L.length≤j:=by simpa using hge
    have:j=L.length:=by omega
    subst this
    rw [Nat.sub_self,aIn] at hin
    refine next w5 t ht1 ht2 ?_ hw5
    rw [hin]; exact hfin
 ·intro hge
  have hge:L.length≤k:=by simpa using hge
  have:k=L.length:=by omega
  subst this
  rw [Nat.sub_self,aOut] at hfin
  rw [f87_s15_eq]
  have hw':=hw.tail hgr
  rw [hfin] at hw'
  exact hK w4 go hgo (by rw [← hfin]; exact hs1) hw'
end Go.Fx.Tryz
namespace Go.Fx.Mo
def eIn (l:List Bool) (of:List Int) (i:Int):Nat→Nat→List Bool→List Bool
 | 0,_,s=>s
 | m+1,b,s=>eIn l of i m (b+1) (if l.getD b false=true∧of.getD b 0 > i then s.set (of.getD b 0).toNat true else s)
def eOut (r:RR) (i:Int):Nat→Nat→List Bool→List Bool
 | 0,_,s=>s
 | m+1,a,s=>eOut r i m (a+1) (if r.of.getD a 0=i then eIn (after29 r.L a) r.of i r.L.length 0 s else s)
def afterE (r:RR) (i:Int) (many:Nat):List Bool:=eOut r i r.L.length 0 (List.replicate many false)
theorem eIn_len (l:List Bool) (of:List Int) (i:Int):∀ (m b:Nat) (s:List Bool),(eIn l of i m b s).length=s.length
 | 0,_,_=>rfl
 | m+1,b,s=>by
  unfold eIn
  rw [eIn_len l of i m (b+1)]
  split <;> simp
theorem eOut_len (r:RR) (i:Int):∀ (m a:Nat) (s:List Bool),(eOut r i m a s).length=s.length
 | 0,_,_=>rfl
 | m+1,a,s=>by
  unfold eOut
  rw [eOut_len r i m (a+1)]
  split
  ·exact eIn_len ..
  ·rfl
theorem afterE_len (r:RR) (i:Int) (many:Nat):(afterE r i many).length=many:=by
 unfold afterE
 rw [eOut_len]
 simp
end Go.Fx.Mo
namespace Go.Fx.Tryz
open Go Go.Fx Go.Fx.Mo
open Go.Proofs
variable {w0 w:World} {H Y:HL} {K:KT}
set_option maxRecDepth 20000
theorem rowc {ov:Value} {n:Nat} {xs:List Value} (h:Row w 1 ov n xs) {i:Nat} (hi:i < n):∃ a c,ov=.slice (some a) n c∧w.cell? (a.add (i * 1))=xs[i]?:=by
 rcases h.2 with ⟨_,h0⟩ | ⟨a,c,h1,h2⟩
 ·omega
 ·exact ⟨a,c,h1,by rw [Nat.mul_one]; exact h2 i (by omega)⟩
theorem behind_ok {r:RR} {lv ov xv:Value} {i many:Nat} (h:St w0 w H) (hL:∀ w',St w0 w' H→Row w' 4 lv r.L.length (ords r.L)) (hO:∀ w',St w0 w' H→Row w' 1 ov r.of.length (r.of.map I64))
  (hol:r.of.length=r.L.length) (hn:r.L.length≤1000000) (hof:∀ x∈r.of,0≤x∧x < many) (hm:many≤1000000) (hbl:r.begun.length=8) (hel:r.ended.length=8)
  (hK:∀ w' g,w0.heap.size≤g→St w0 w' ((g,Cs ((afterE r i many).map .bool) 4)::H)→K (.slice (some ⟨g,0,none⟩) many many) w') :
  CallL P 64 [.agg (runCs r 0 lv ov xv).toArray,.int .i64 i,.int .i64 many] w K:=by
 obtain ⟨la,lc,hlv⟩:=(hL w h).form
 obtain ⟨oa,oc,hov⟩:=(hO w h).form
 refine f64_ok _ _ _ _ _ ?_
 rw [f64_eq,f64_s0_eq]
 refine h.newC fun n6 w1 hn6 h1=>?_
 rw [f64_s1_eq]
 obtain ⟨go,hgo,hr1,g1⟩:=new_flags h1 hm
 refine ⟨_,_,_,_,hr1,?_⟩
 rw [f64_s2_eq,f64_s3_eq]
 have g1:St w0 _ ((go,Cs ((List.replicate many false).map .bool) 4)::(n6,Cs (runCs r 0 lv ov xv) 64)::H):=g1
 have ad:∀ (g j:Nat),(Addr.mk g 0 none).add (Int.toNat (j:Int) * 1)=Addr.mk g j none:=fun g j=>by rw [add_lit',Nat.zero_add,Int.toNat_natCast,Nat.mul_one]
 have rL:∀ {w':World} {Z:HL},St w0 w' (Z++((n6,Cs (runCs r 0 lv ov xv) 64)::H))→w'.cell? (Addr.mk n6 0 none)=some (.slice la r.L.length lc):=fun h'=>by
  rw [cell_of (h'.has n6 (Cs (runCs r 0 lv ov xv) 64) (by simp)),← hlv]; rfl
 have rO:∀ {w':World} {Z:HL},St w0 w' (Z++((n6,Cs (runCs r 0 lv ov xv) 64)::H))→w'.cell? ((Addr.mk n6 0 none).add 1)=some (.slice oa r.of.length oc):=fun h'=>by
  rw [add_lit',cell_of (h'.has n6 (Cs (runCs r 0 lv ov xv) 64) (by simp)),← hov]; rfl
 have ofc:∀ {w':World} {b:Nat},St w0 w' H→(hb:b < r.of.length)→∃ a,oa=some a∧w'.cell? (a.add (b * 1))=some (I64 (r.of.getD b 0)):=fun {w' b} h' hb=>by
  obtain ⟨a,c,hac,hld⟩:=rowc (hO w' h') hb
  rw [hov] at hac
  obtain ⟨hsa,-⟩:oa=some a∧oc=c:=by simpa using hac
  refine ⟨a,hsa,?_⟩
  rw [hld,List.getElem?_map,List.getElem?_eq_getElem hb]
  simp [List.getD,hb]
 have ofr:∀ {b:Nat},(hb:b < r.of.length)→0≤r.of.getD b 0∧r.of.getD b 0 < many:=fun {b} hb=>by
  have:r.of.getD b 0=r.of[b]:=by simp [List.getD,hb]
  rw [this]
  exact hof _ (List.getElem_mem hb)
 refine ⟨fun m ee w=>∃ (a:Nat) (s:List Bool),a≤r.L.length∧m=r.L.length - a∧ee=Env.mk 59 [(6,nilS),(7,.slice (some ⟨go,0,none⟩) many many),(8,I64 (a:Nat)),(3,(Value.pointer (some (Addr.mk n6 0 none)))),(1,I64 (i:Nat))] []∧
   s.length=many∧eOut r i (r.L.length - a) a s=afterE r i many∧St w0 w ((go,Cs (s.map .bool) 4)::(n6,Cs (runCs r 0 lv ov xv) 64)::H),
  ⟨r.L.length,0,List.replicate many false,by omega,rfl,rfl,by simp,rfl,g1⟩,?_⟩
 rintro m ee w4 ⟨a,s,ha,rfl,rfl,hs,hfin,hw⟩
 show f64_lb4 ..
 rw [f64_lb4_eq]
 refine ⟨la,_,lc,rL (Z:=[(go,Cs (s.map .bool) 4)]) hw,r.L.length,fun wq _=>run_len_57 wq,?_⟩
 rw [BIf_iff]
 have wr:∀ j:Nat,j < r.L.length→IntKind.wrap .i64 ((j:Int)+1)=((j+1:Nat):Int):=fun j hj=>by rw [wrap_i64 (by omega) (by omega)]; rfl
 constructor
 ·intro hlt
  have hlt:a < r.L.length:=by simpa using hlt
  rw [f64_s5_eq]
  obtain ⟨o,ho,hcell⟩:=ofc (b:=a) ((hw.tail hgo).tail hn6) (by omega)
  subst ho
  refine ⟨_,_,oc,rO (Z:=[(go,Cs (s.map .bool) 4)]) hw,by omega,by omega,_,by rw [Int.toNat_natCast]; exact hcell,?_⟩
  rw [show r.L.length - a=(r.L.length - (a+1))+1 by omega,eOut] at hfin
  generalize hY:(fun e' w'=>∃ m,m < r.L.length - a∧∃ (a:Nat) (s:List Bool),a≤r.L.length∧m=r.L.length - a∧e'=Env.mk 59 [(6,nilS),(7,.slice (some ⟨go,0,none⟩) many many),(8,I64 (a:Nat)),(3,(Value.pointer (some (Addr.mk n6 0 none)))),(1,I64 (i:Nat))] []∧
   s.length=many∧eOut r i (r.L.length - a) a s=afterE r i many∧St w0 w' ((go,Cs (s.map .bool) 4)::(n6,Cs (runCs r 0 lv ov xv) 64)::H))=Y
  have next:∀ w5 (s':List Bool),s'.length=many→eOut r i (r.L.length - (a+1)) (a+1) s'=afterE r i many→St w0 w5 ((go,Cs (s'.map .bool) 4)::(n6,Cs (runCs r 0 lv ov xv) 64)::H)→
    f64_s6 none 0 0 (some ⟨go,0,none⟩) many many (Addr.mk n6 0 none) (i:Nat) (a:Nat) w5 K Y:=by
   intro w5 s' h1 h2 h3
   rw [f64_s6_eq,← hY,wr a hlt]
   exact ⟨r.L.length - (a+1),by omega,a+1,s',by omega,rfl,rfl,h1,h2,h3⟩
  rw [BIf_iff]
  constructor
  ·intro hne
   have hne:¬ r.of.getD a 0=i:=by simpa using hne
   rw [if_neg hne] at hfin
   exact next w4 s hs hfin hw
  ·intro heq
   have heq:r.of.getD a 0=i:=by simpa using heq
   rw [if_pos heq] at hfin
   rw [f64_s7_eq]
   refine ⟨la,_,lc,rL (Z:=[(go,Cs (s.map .bool) 4)]) hw,?_⟩
   rw [← hlv]
   refine after29_ok hw (fun w' h'=>hL w' ((h'.tail hgo).tail hn6)) hn hlt fun w5 gl hgl hall h5=>⟨_,_,_,rfl,?_⟩
   rw [f64_s8_eq,f64_s9_eq]
   refine ⟨fun m ee w=>∃ (b:Nat) (t:List Bool),b≤r.L.length∧m=r.L.length - b∧ee=Env.mk 59 [(10,I64 (b:Nat)),(3,(Value.pointer (some (Addr.mk n6 0 none)))),(7,.slice (some ⟨go,0,none⟩) many many),(1,I64 (i:Nat)),(9,.slice (some ⟨gl,0,none⟩) r.L.length r.L.length),(6,nilS),(8,I64 (a:Nat))] []∧
     t.length=many∧eIn (after29 r.L a) r.of i (r.L.length - b) b t=eIn (after29 r.L a) r.of i r.L.length 0 s∧St w0 w ((gl,Cs ((after29 r.L a).map .bool) 4)::(go,Cs (t.map .bool) 4)::(n6,Cs (runCs r 0 lv ov xv) 64)::H),
    ⟨r.L.length,0,s,by omega,rfl,rfl,hs,rfl,h5⟩,?_⟩
   rintro m ee w6 ⟨b,t,hb,rfl,rfl,ht,hin,hw6⟩
   show f64_lb10 ..
   rw [f64_lb10_eq]
   refine ⟨la,_,lc,rL (Z:=[(gl,_),(go,_)]) hw6,r.L.length,fun wq _=>run_len_57 wq,?_⟩
   rw [BIf_iff]
   constructor
   ·intro hbl
    have hbl:b < r.L.length:=by simpa using hbl
    rw [f64_s11_eq]
    refine ⟨by omega,by omega,(after29 r.L a).getD b false,by rw [ad,hw6.cell (k:=0) rfl]; exact flag_at (by omega),?_⟩
    rw [show r.L.length - b=(r.L.length - (b+1))+1 by omega,eIn] at hin
    have step:∀ w7 (t':List Bool),t'.length=many→eIn (after29 r.L a) r.of i (r.L.length - (b+1)) (b+1) t'=eIn (after29 r.L a) r.of i r.L.length 0 s→St w0 w7 ((gl,Cs ((after29 r.L a).map .bool) 4)::(go,Cs (t'.map .bool) 4)::(n6,Cs (runCs r 0 lv ov xv) 64)::H)→
      f64_s13 (Addr.mk n6 0 none) (some ⟨go,0,none⟩) many many (i:Nat) (some ⟨gl,0,none⟩) r.L.length r.L.length none 0 0 (a:Nat) (b:Nat) w7 K Y
       (fun e' w'=>∃ m,m < r.L.length - b∧∃ (b:Nat) (t:List Bool),b≤r.L.length∧m=r.L.length - b∧e'=Env.mk 59 [(10,I64 (b:Nat)),(3,(Value.pointer (some (Addr.mk n6 0 none)))),(7,.slice (some ⟨go,0,none⟩) many many),(1,I64 (i:Nat)),(9,.slice (some ⟨gl,0,none⟩) r.L.length r.L.length),(6,nilS),(8,I64 (a:Nat))] []∧
     t.length=many∧eIn (after29 r.L a) r.of i (r.L.length - b) b t=eIn (after29 r.L a) r.of i r.L.length 0 s∧St w0 w' ((gl,Cs ((after29 r.L a).map .bool) 4)::(go,Cs (t.map .bool) 4)::(n6,Cs (runCs r 0 lv ov xv) 64)::H)):=by
     intro w7 t' h1 h2 h3
     rw [f64_s13_eq,wr b hbl]
     exact ⟨r.L.length - (b+1),by omega,b+1,t',by omega,rfl,rfl,h1,h2,h3⟩
    obtain ⟨o2,ho2,hcell2⟩:=ofc (b:=b) (((hw6.tail hgl).tail hgo).tail hn6) (by omega)
    obtain rfl:o=o2:=by simpa using ho2
    obtain ⟨f1,f2⟩:=ofr (b:=b) (by omega)
    have set:f64_s12 true (Addr.mk n6 0 none) (some ⟨go,0,none⟩) many many (i:Nat) (some ⟨gl,0,none⟩) r.L.length r.L.length none 0 0 (a:Nat) (b:Nat) w6 K Y
      (fun e' w'=>∃ m,m < r.L.length - b∧∃ (b:Nat) (t:List Bool),b≤r.L.length∧m=r.L.length - b∧e'=Env.mk 59 [(10,I64 (b:Nat)),(3,(Value.pointer (some (Addr.mk n6 0 none)))),(7,.slice (some ⟨go,0,none⟩) many many),(1,I64 (i:Nat)),(9,.slice (some ⟨gl,0,none⟩) r.L.length r.L.length),(6,nilS),(8,I64 (a:Nat))] []∧
     t.length=many∧eIn (after29 r.L a) r.of i (r.L.length - b) b t=eIn (after29 r.L a) r.of i r.L.length 0 s∧St w0 w' ((gl,Cs ((after29 r.L a).map .bool) 4)::(go,Cs (t.map .bool) 4)::(n6,Cs (runCs r 0 lv ov xv) 64)::H))∨¬ ((after29 r.L a).getD b false=true∧r.of.getD b 0 > i):=by
     by_cases hc:(after29 r.L a).getD b false=true∧r.of.getD b 0 > i
     ·left
      rw [if_pos hc] at hin
      rw [f64_s12_eq,BIf_true]
      refine ⟨_,_,oc,rO (Z:=[(gl,_),(go,_)]) hw6,by omega,by omega,_,by rw [Int.toNat_natCast]; exact hcell2,f1,by omega,?_⟩
      rw [add_lit',Nat.zero_add,Nat.mul_one]
      refine hw6.st1 (k:=1) rfl (by rw [List.length_map,ht]; omega) rfl fun w7 h7=>?_
      have h7:St w0 w7 ((gl,Cs ((after29 r.L a).map .bool) 4)::(go,Cs ((t.map Value.bool).set (r.of.getD b 0).toNat (.bool true)) 4)::(n6,Cs (runCs r 0 lv ov xv) 64)::H):=h7
      rw [set_flag] at h7
      exact step w7 _ (by simp [ht]) hin h7
     ·right; exact hc
    have no:¬ ((after29 r.L a).getD b false=true∧r.of.getD b 0 > i)→f64_s12 false (Addr.mk n6 0 none) (some ⟨go,0,none⟩) many many (i:Nat) (some ⟨gl,0,none⟩) r.L.length r.L.length none 0 0 (a:Nat) (b:Nat) w6 K Y
      (fun e' w'=>∃ m,m < r.L.length - b∧∃ (b:Nat) (t:List Bool),b≤r.L.length∧m=r.L.length - b∧e'=Env.mk 59 [(10,I64 (b:Nat)),(3,(Value.pointer (some (Addr.mk n6 0 none)))),(7,.slice (some ⟨go,0,none⟩) many many),(1,I64 (i:Nat)),(9,.slice (some ⟨gl,0,none⟩) r.L.length r.L.length),(6,nilS),(8,I64 (a:Nat))] []∧
     t.length=many∧eIn (after29 r.L a) r.of i (r.L.length - b) b t=eIn (after29 r.L a) r.of i r.L.length 0 s∧St w0 w' ((gl,Cs ((after29 r.L a).map .bool) 4)::(go,Cs (t.map .bool) 4)::(n6,Cs (runCs r 0 lv ov xv) 64)::H)):=by
     intro hc
     rw [if_neg hc] at hin
     rw [f64_s12_eq,BIf_false]
     exact step w6 t ht hin hw6
    cases hfl:(after29 r.L a).getD b false
    ·rw [BIf_false]
     exact no (by rw [hfl]; simp)
    ·rw [BIf_true]
     refine ⟨_,_,oc,rO (Z:=[(gl,_),(go,_)]) hw6,by omega,by omega,_,by rw [Int.toNat_natCast]; exact hcell2,?_⟩
     rw [hfl] at set no
     cases hgt:decide (r.of.getD b 0 > i)
     ·exact no (by simp at hgt ⊢; omega)
     ·rcases set with h | h
      ·exact h
      ·exact absurd ⟨rfl,by simpa using hgt⟩ h
   ·intro hge
    have hge:r.L.length≤b:=by simpa using hge
    have:b=r.L.length:=by omega
    subst this
    rw [Nat.sub_self,eIn] at hin
    exact next w6 t ht (by rw [hin]; exact hfin) (hw6.tail hgl)
 ·intro hge
  have hge:r.L.length≤a:=by simpa using hge
  have:a=r.L.length:=by omega
  subst this
  rw [Nat.sub_self,eOut] at hfin
  rw [f64_s14_eq]
  rw [hfin] at hw
  exact hK w4 go hgo (St.tail (b:=n6) (hw.perm (List.Perm.swap ..)) hn6)
end Go.Fx.Tryz
namespace Go.Fx.Mo
abbrev Tab:=List (List Bool)
end Go.Fx.Mo
namespace Go.Fx.Tryz
open Go Go.Fx Go.Fx.Mo
open Go.Proofs
variable {w0 w:World} {H Y:HL} {K:KT}
set_option maxRecDepth 20000
section
variable {l:List Ev} {t:Tab} {b:Int} {lv tv:Value} {la ta:Option Addr} {lc tc:Nat} {oa:Option Addr} {oc:Nat} {Lo:HL} {out:List Mo.Race} {i j:Nat}
end
end Go.Fx.Tryz
namespace Go.Fx.Tryz
open Go Go.Fx Go.Fx.Mo
open Go.Proofs
variable {w0 w:World} {H Y:HL} {K:KT}
set_option maxRecDepth 20000
section
variable {l:List Ev} {t:Tab} {b:Int} {la ta:Option Addr} {lc tc:Nat} {oa:Option Addr} {oc:Nat} {Lo:HL} {out:List Mo.Race} {i j:Nat}
end
end Go.Fx.Tryz
namespace Go.Fx.Mo
structure OfOk (r:RR) (n:Nat):Prop where
 len:r.of.length=r.L.length
 mem:∀ x∈r.of,0≤x∧x < n
 bl:r.begun.length=8
 el:r.ended.length=8
theorem rput_of {r r':RR} {o:Ord} {i:Nat} (h:rput r o i=some r') (hr:OfOk r (i+1)):OfOk r' (i+1):=by
 unfold rput at h
 split at h
 ·cases h
 ·cases h
  refine ⟨by simp [hr.len],fun x hx=>?_,?_,?_⟩
  ·rcases List.mem_append.1 hx with hx | hx
   ·exact hr.mem x hx
   ·have:x=(i:Int):=by simpa using hx
    omega
  ·show (if _ then _ else _:List Bool).length=8
   split
   ·simp [hr.bl]
   ·exact hr.bl
  ·show (if _ then _ else _:List Bool).length=8
   split
   ·simp [hr.el]
   ·exact hr.el
theorem come_of {r:RR} {x:Ob} {n:Nat} (hr:OfOk r n):OfOk (come r x) n:=by
 unfold come
 split
 ·exact ⟨hr.len,hr.mem,hr.bl,hr.el⟩
 ·exact hr
theorem rtouch_of {r r':RR} {k:Int} {e:Ev} {x:Ob} {i:Nat} (h:rtouch r k e x i=some r') (hr:OfOk r (i+1)):OfOk r' (i+1):=by
 unfold rtouch at h
 split at h
 ·cases h
 ·exact rput_of h (come_of hr)
theorem rtouches_of {e:Ev} {i:Nat}:∀ {l:List Ob} {r r':RR},rtouches e i l r=some r'→OfOk r (i+1)→OfOk r' (i+1)
 | [],r,r',h,hr=>by cases h; exact hr
 | x::t,r,r',h,hr=>by
  unfold rtouches at h
  split at h
  ·cases h
  ·rename_i r2 h2
   exact rtouches_of h (rtouch_of h2 hr)
theorem rwith_of {r r':RR} {e:Ev} {i:Nat} (h:rwith r e i=some r') (hr:OfOk r (i+1)):OfOk r' (i+1):=by
 unfold rwith at h
 repeat' split at h
 ·cases h
 ·exact rtouches_of h hr
 ·exact rtouch_of h hr
 ·exact rtouch_of h hr
 ·exact rput_of h hr
 ·exact rput_of h hr
 ·exact rput_of h hr
theorem OfOk.more {r:RR} {n m:Nat} (h:OfOk r n) (hm:n≤m):OfOk r m:=⟨h.len,fun x hx=>by have:=h.mem x hx; omega,h.bl,h.el⟩
theorem rsteps_of:∀ {l:List Ev} {i:Nat} {r r':RR},rsteps l i r=some r'→OfOk r i→OfOk r' (i+l.length)
 | [],i,r,r',h,hr=>by cases h; exact hr
 | e::t,i,r,r',h,hr=>by
  unfold rsteps at h
  split at h
  ·cases h
  ·rename_i r2 h2
   have:=rsteps_of (i:=i+1) h (rwith_of h2 (hr.more (by omega)))
   rw [List.length_cons,show i+(t.length+1)=i+1+t.length by omega]
   exact this
theorem rord_of {l:List Ev} {r:RR} (h:rord l=.inl r):OfOk r l.length:=by
 unfold rord at h
 split at h
 ·cases h
 ·split at h
  ·cases h
  ·rename_i r2 h2
   cases h
   have:=rsteps_of (i:=0) h2 ⟨rfl,by simp [rr0],rfl,rfl⟩
   simpa using this
end Go.Fx.Mo
namespace Go.Fx.Tryz
open Go Go.Fx Go.Fx.Mo
open Go.Proofs
variable {w0 w:World} {H Y:HL} {K:KT}
set_option maxRecDepth 20000
end Go.Fx.Tryz
namespace Go.Fx.Tryz
set_option maxRecDepth 100000
open Go Go.Fx Go.Proofs
noncomputable def c79:Code:=bodyOf Tryz.f79
noncomputable def rs79:List ResultVar:=Tryz.f79.results.toList
abbrev f79_kb (K:KT):Exit→YT:=bodyK P rs79 K
def f79 (a:OA) (b c:Nat) (d:Array Value) (w:World) (K:KT):Prop:=CS P c79 none [4] [4] (f79_kb K) (env0 81 [(VS a b c),(Value.agg d)]) w
def f79_s0 (a:OA) (b c:Nat) (d:Array Value) (w:World) (K:KT):Prop:=CS P (cA c79 1) none [4] [4] (f79_kb K) (Env.mk 81 [(0,(VS a b c)),(1,(Value.agg d))] []) w
abbrev f79_k0 (K:KT):Exit→YT:=kseq P (cA c79 2) (cA c79 3) none [4] [4] (f79_kb K)
def f79_s1 (a:OA) (b c:Nat) (d:Addr) (e:OA) (f g:Nat) (h:Array Value) (w:World) (K:KT):Prop:=CS P (cA c79 3) none [4] [4] (f79_kb K) (Env.mk 81 [(4,(VS a b c)),(3,(VP (some d))),(0,(VS e f g)),(1,(Value.agg h))] []) w
abbrev f79_k1 (K:KT):Exit→YT:=kseq P (cA c79 6) (cA c79 7) none [4] [4] (f79_kb K)
abbrev f79_k2 (K:KT):Exit→YT:=kseq P (cA c79 12) (cA c79 13) none [0,3,4] [4] (f79_k1 K)
def f79_s2 (a:OA) (b c:Nat) (d:Addr) (f:OA) (g h:Nat) (w:World) (K:KT):Prop:=SG P (cA c79 7) none [4] [4] (f79_kb K) (Env.mk 81 [(0,(VS a b c)),(3,(VP (some d))),(4,(VS f g h))] []) w
abbrev f79_k4 (K:KT):Exit→YT:=kseq P (cA c79 14) (cA c79 15) none [4] [4] (f79_kb K)
def f79_s3 (a:OA) (b c:Nat) (d:OA) (e f:Nat) (g:OA) (h i:Nat) (j:Addr) (k:OA) (l m:Nat) (w:World) (K:KT):Prop:=CS P (cA c79 15) none [4] [4] (f79_kb K) (Env.mk 81 [(5,(VS a b c)),(14,(VS d e f)),(0,(VS g h i)),(3,(VP (some j))),(4,(VS k l m))] []) w
abbrev f79_k5 (K:KT):Exit→YT:=kseq P (cA c79 30) (cA c79 31) none [4] [4] (f79_kb K)
def f79_s4 (a:OA) (b c:Nat) (d:OA) (e f:Nat) (g:OA) (h i:Nat) (j:Addr) (k:OA) (l m:Nat) (w:World) (K:KT):Prop:=CS P (cA c79 31) none [4] [4] (f79_kb K) (Env.mk 81 [(6,(VB false)),(5,(VS a b c)),(14,(VS d e f)),(0,(VS g h i)),(3,(VP (some j))),(4,(VS k l m))] []) w
abbrev f79_k6 (K:KT):Exit→YT:=kseq P (cA c79 62) (cA c79 63) none [4] [4] (f79_kb K)
abbrev f79_k7 (K:KT):Exit→YT:=kseq P (cA c79 124) (cA c79 125) none [3,5,6] [4] (f79_k6 K)
def f79_s5 (a:Int) (b:OA) (c d:Nat) (e:OA) (f g:Nat) (h:OA) (i j:Nat) (k:Addr) (l:OA) (m n:Nat) (w:World) (K:KT):Prop:=CS P (cA c79 125) none [3,5,6] [4] (f79_k6 K) (Env.mk 81 [(7,(VI a)),(6,(VB false)),(5,(VS b c d)),(14,(VS e f g)),(0,(VS h i j)),(3,(VP (some k))),(4,(VS l m n))] []) w
abbrev f79_k8 (K:KT):Exit→YT:=kblock 0 (f79_k6 K)
def f79_lp6 (K:KT) (Y6:YT) (e:Env) (w:World):Prop:=Join (fun e w=>CS P (cA c79 500) none [7,0,5,3,6,4] [4,3,5,6] (kloop [7,0,5,3,6,4] Y6 (f79_k8 K)) e w) e w
abbrev f79_kl6 (K:KT) (Y6:YT):Exit→YT:=kloop [7,0,5,3,6,4] Y6 (f79_k8 K)
def f79_lb6 (a:Int) (b:OA) (c d:Nat) (f:OA) (g h:Nat) (i:Addr) (j:Bool) (k:OA) (l m:Nat) (w:World) (K:KT) (Y6:YT):Prop:=SG P (cA c79 500) none [7,0,5,3,6,4] [4,3,5,6] (f79_kl6 K Y6) (Env.mk 81 [(7,(VI a)),(0,(VS b c d)),(5,(VS f g h)),(3,(VP (some i))),(6,(VB j)),(4,(VS k l m))] []) w
abbrev f79_k9 (K:KT) (Y6:YT):Exit→YT:=kseq P (cA c79 1000) (cA c79 1001) none [7,0,5,3,6,4] [4,3,5,6] (f79_kl6 K Y6)
abbrev f79_k10 (K:KT) (Y6:YT):Exit→YT:=kseq P (cA c79 2000) (cA c79 2001) none [0,3,6,4,7,5] [4,3,5,6] (f79_k9 K Y6)
def f79_s7 (a:OA) (b c:Nat) (d:Addr) (f:Bool) (g:OA) (h i:Nat) (j:Int) (k:OA) (l m:Nat) (w:World) (K:KT) (Y6:YT):Prop:=SG P (cA c79 1001) none [7,0,5,3,6,4] [4,3,5,6] (f79_kl6 K Y6) (Env.mk 81 [(0,(VS a b c)),(3,(VP (some d))),(6,(VB f)),(4,(VS g h i)),(7,(VI j)),(5,(VS k l m))] []) w
abbrev f79_k11 (K:KT) (Y6:YT):Exit→YT:=kseq P (cA c79 2002) (cA c79 2003) none [7,0,5,3,6,4] [4,3,5,6] (f79_kl6 K Y6)
abbrev f79_k12 (K:KT) (Y6:YT):Exit→YT:=kblock 1 (f79_k11 K Y6)
abbrev f79_k13 (K:KT) (Y6:YT):Exit→YT:=kseq P (cA c79 8008) (cA c79 8009) none [0,5,3,6,4,7] [4,3,5,6,0,7] (f79_k12 K Y6)
def f79_s8 (a:OA) (b c:Nat) (d:OA) (f g:Nat) (h:Addr) (i:Bool) (j:OA) (k l:Nat) (m:Int) (w:World) (K:KT) (Y6:YT):Prop:=SG P (cA c79 2003) none [7,0,5,3,6,4] [4,3,5,6] (f79_kl6 K Y6) (Env.mk 81 [(0,(VS a b c)),(5,(VS d f g)),(3,(VP (some h))),(6,(VB i)),(4,(VS j k l)),(7,(VI m))] []) w
theorem f79_s8_eq (a:OA) (c d:Nat) (e:OA) (f g:Nat) (h:Addr) (i:Bool) (j:OA) (k l:Nat) (m:Int) (w:World) (K:KT) (Y6:YT):f79_s8 a c d e f g h i j k l m w K Y6=(Y6 (Env.mk 81 [(7,(Value.int .i64 (IntKind.wrap .i64 ((m:Int)+1)))),(0,(Value.slice a c d)),(5,(Value.slice e f g)),(3,(Value.pointer (some h))),(6,(Value.bool i)),(4,(Value.slice j k l))] []) w):=Eq.trans SGe (by kernel_rfl)
def f79_s9 (a:OA) (b c:Nat) (d:Addr) (f:OA) (g h:Nat) (i:Int) (j:OA) (k l:Nat) (w:World) (K:KT) (Y6:YT):Prop:=SG P (cA c79 128157) none [0,5,3,6,4,7] [4,3,5,6,0,7] (f79_k12 K Y6) (Env.mk 81 [(0,(VS a b c)),(3,(VP (some d))),(4,(VS f g h)),(7,(VI i)),(5,(VS j k l))] []) w
abbrev f79_k17 (K:KT) (Y6:YT):Exit→YT:=kseq P (cA c79 256314) (cA c79 256315) none [0,5,3,6,4,7] [4,3,5,6,0,7] (f79_k12 K Y6)
theorem f79_s9_eq (d:OA) (e f:Nat) (g:Addr) (h:OA) (i j:Nat) (c:Int) (k:OA) (l m:Nat) (w:World) (K:KT) (Y6:YT):f79_s9 d e f g h i j c k l m w K Y6=(optS d (fun s=>0≤(c:Int)∧(c:Int) < (e:Nat)∧LdA 2 (s.add (Int.toNat c * 2)) w (fun n=>sizesAre 2 [(Value.agg n)]∧NewC (([(Value.agg n)].map fun (v:Value)=>v.cells.toList).flatten.toArray) 148 w (fun t u=>∃ (o:OA) (p q:Nat),∃ r:World,(Builtin.append_ #[127,127] 127 [(Value.slice k l m),(Value.slice (some (Addr.mk t 0 none)) 1 1)].toArray).run P u=.ok (.slice o p q) r∧f79_s8 d e f o p q g true h i j c r K Y6)))):=Eq.trans SGe (Eq.trans (CSs [0,3,6,4,7,5] (f79_k17 K Y6) (by kernel_rfl)) (by kernel_rfl))
theorem f79_s7_eq (e:OA) (f g:Nat) (c:Addr) (n:Bool) (h:OA) (i j:Nat) (d:Int) (k:OA) (l m:Nat) (w:World) (K:KT) (Y6:YT):f79_s7 e f g c n h i j d k l m w K Y6=(optS e (fun d00=>0≤(d:Int)∧(d:Int) < (f:Nat)∧∃ N1:Int,w.drew.cell? ((d00.add (Int.toNat d * 2)).add 1)=some (.int .i64 N1)∧∃ O1:Int,w.drew.cell? c=some (.int .i64 O1)∧BIf (decide ((N1:Int) < O1)) (optS e (fun e00=>0≤(d:Int)∧(d:Int) < (f:Nat)∧LdA 2 (e00.add (Int.toNat d * 2)) w.drew (fun Q1=>sizesAre 2 [(Value.agg Q1)]∧NewC (([(Value.agg Q1)].map fun (v:Value)=>v.cells.toList).flatten.toArray) 148 w.drew (fun f00 g00=>∃ (R1:OA) (S1 T1:Nat),∃ U1:World,(Builtin.append_ #[127,127] 127 [(Value.slice k l m),(Value.slice (some (Addr.mk f00 0 none)) 1 1)].toArray).run P g00=.ok (.slice R1 S1 T1) U1∧f79_s8 e f g R1 S1 T1 c n h i j d U1 K Y6)))) (optS e (fun h00=>0≤(d:Int)∧(d:Int) < (f:Nat)∧∃ V1:Int,w.drew.drew.cell? (h00.add (Int.toNat d * 2))=some (.int .i64 V1)∧∃ W1:Int,w.drew.drew.cell? (c.add 1)=some (.int .i64 W1)∧BIf (decide ((V1:Int) > W1)) (BIf (!n) (LdA 2 c w.drew.drew (fun X1=>sizesAre 2 [(Value.agg X1)]∧NewC (([(Value.agg X1)].map fun (v:Value)=>v.cells.toList).flatten.toArray) 148 w.drew.drew (fun i00 j00=>∃ (Y1:OA) (Z1 a2:Nat),∃ b2:World,(Builtin.append_ #[127,127] 127 [(Value.slice k l m),(Value.slice (some (Addr.mk i00 0 none)) 1 1)].toArray).run P j00=.ok (.slice Y1 Z1 a2) b2∧f79_s9 e f g c h i j d Y1 Z1 a2 b2 K Y6))) (f79_s9 e f g c h i j d k l m w.drew.drew K Y6)) (optS e (fun o=>0≤(d:Int)∧(d:Int) < (f:Nat)∧optS e (fun p=>0≤(d:Int)∧(d:Int) < (f:Nat)∧(∃ q:Int,w.drew.drew.drew.cell? c=some (.int .i64 q)∧(∃ u:Int,w.drew.drew.drew.cell? (o.add (Int.toNat d * 2))=some (.int .i64 u)∧(MN P q u w.drew.drew.drew (fun c2 i0=>∃ d2:Int,i0.cell? (c.add 1)=some (.int .i64 d2)∧∃ e2:Int,i0.cell? ((p.add (Int.toNat d * 2)).add 1)=some (.int .i64 e2)∧MX P d2 e2 i0 (fun f2 g2=>BV P 148 c2 f2 (fun h2=>StA 2 c h2 g2 (fun l00=>f79_s8 e f g k l m c n h i j d l00 K Y6)))))∧(∃ j0:Int,w.drew.drew.drew.cell? (c.add 1)=some (.int .i64 j0)∧(MN P q u w.drew.drew.drew (fun i2 N0=>∃ j2:Int,N0.cell? ((p.add (Int.toNat d * 2)).add 1)=some (.int .i64 j2)∧MX P j0 j2 N0 (fun l2 m2=>BV P 148 i2 l2 (fun n2=>StA 2 c n2 m2 (fun m00=>f79_s8 e f g k l m c n h i j d m00 K Y6)))))∧(∃ O0:Int,w.drew.drew.drew.cell? ((p.add (Int.toNat d * 2)).add 1)=some (.int .i64 O0)∧(MN P q u w.drew.drew.drew (fun o2 p2=>MX P j0 O0 p2 (fun q2 r2=>BV P 148 o2 q2 (fun s2=>StA 2 c s2 r2 (fun n00=>f79_s8 e f g k l m c n h i j d n00 K Y6)))))∧(MX P j0 O0 w.drew.drew.drew (fun t2 u2=>MN P q u u2 (fun v2 x2=>BV P 148 v2 t2 (fun y2=>StA 2 c y2 x2 (fun o00=>f79_s8 e f g k l m c n h i j d o00 K Y6)))))))∧(∃ l0:Int,w.drew.drew.drew.cell? ((p.add (Int.toNat d * 2)).add 1)=some (.int .i64 l0)∧(MN P q u w.drew.drew.drew (fun z2 Q0=>∃ A2:Int,Q0.cell? (c.add 1)=some (.int .i64 A2)∧MX P A2 l0 Q0 (fun B2 C2=>BV P 148 z2 B2 (fun D2=>StA 2 c D2 C2 (fun p00=>f79_s8 e f g k l m c n h i j d p00 K Y6)))))∧(∃ R0:Int,w.drew.drew.drew.cell? (c.add 1)=some (.int .i64 R0)∧(MN P q u w.drew.drew.drew (fun E2 F2=>MX P R0 l0 F2 (fun G2 H2=>BV P 148 E2 G2 (fun I2=>StA 2 c I2 H2 (fun q00=>f79_s8 e f g k l m c n h i j d q00 K Y6)))))∧(MX P R0 l0 w.drew.drew.drew (fun J2 L2=>MN P q u L2 (fun M2 N2=>BV P 148 M2 J2 (fun O2=>StA 2 c O2 N2 (fun r00=>f79_s8 e f g k l m c n h i j d r00 K Y6))))))))∧(∃ a0:Int,w.drew.drew.drew.cell? (c.add 1)=some (.int .i64 a0)∧(∃ m0:Int,w.drew.drew.drew.cell? (o.add (Int.toNat d * 2))=some (.int .i64 m0)∧(MN P q m0 w.drew.drew.drew (fun Q2 S0=>∃ R2:Int,S0.cell? ((p.add (Int.toNat d * 2)).add 1)=some (.int .i64 R2)∧MX P a0 R2 S0 (fun S2 T2=>BV P 148 Q2 S2 (fun U2=>StA 2 c U2 T2 (fun s00=>f79_s8 e f g k l m c n h i j d s00 K Y6)))))∧(∃ T0:Int,w.drew.drew.drew.cell? ((p.add (Int.toNat d * 2)).add 1)=some (.int .i64 T0)∧(MN P q m0 w.drew.drew.drew (fun V2 W2=>MX P a0 T0 W2 (fun X2 Y2=>BV P 148 V2 X2 (fun Z2=>StA 2 c Z2 Y2 (fun t00=>f79_s8 e f g k l m c n h i j d t00 K Y6)))))∧(MX P a0 T0 w.drew.drew.drew (fun a3 b3=>MN P q m0 b3 (fun c3 d3=>BV P 148 c3 a3 (fun e3=>StA 2 c e3 d3 (fun u00=>f79_s8 e f g k l m c n h i j d u00 K Y6)))))))∧(∃ n0:Int,w.drew.drew.drew.cell? ((p.add (Int.toNat d * 2)).add 1)=some (.int .i64 n0)∧(∃ U0:Int,w.drew.drew.drew.cell? (o.add (Int.toNat d * 2))=some (.int .i64 U0)∧(MN P q U0 w.drew.drew.drew (fun f3 g3=>MX P a0 n0 g3 (fun h3 i3=>BV P 148 f3 h3 (fun j3=>StA 2 c j3 i3 (fun v00=>f79_s8 e f g k l m c n h i j d v00 K Y6)))))∧(MX P a0 n0 w.drew.drew.drew (fun l3 m3=>MN P q U0 m3 (fun n3 o3=>BV P 148 n3 l3 (fun p3=>StA 2 c p3 o3 (fun x00=>f79_s8 e f g k l m c n h i j d x00 K Y6))))))∧(MX P a0 n0 w.drew.drew.drew (fun q3 V0=>∃ r3:Int,V0.cell? (o.add (Int.toNat d * 2))=some (.int .i64 r3)∧MN P q r3 V0 (fun s3 t3=>BV P 148 s3 q3 (fun u3=>StA 2 c u3 t3 (fun y00=>f79_s8 e f g k l m c n h i j d y00 K Y6)))))))∧(∃ b0:Int,w.drew.drew.drew.cell? ((p.add (Int.toNat d * 2)).add 1)=some (.int .i64 b0)∧(∃ o0:Int,w.drew.drew.drew.cell? (o.add (Int.toNat d * 2))=some (.int .i64 o0)∧(MN P q o0 w.drew.drew.drew (fun v3 W0=>∃ x3:Int,W0.cell? (c.add 1)=some (.int .i64 x3)∧MX P x3 b0 W0 (fun y3 z3=>BV P 148 v3 y3 (fun A3=>StA 2 c A3 z3 (fun z00=>f79_s8 e f g k l m c n h i j d z00 K Y6)))))∧(∃ X0:Int,w.drew.drew.drew.cell? (c.add 1)=some (.int .i64 X0)∧(MN P q o0 w.drew.drew.drew (fun B3 C3=>MX P X0 b0 C3 (fun D3 E3=>BV P 148 B3 D3 (fun F3=>StA 2 c F3 E3 (fun A00=>f79_s8 e f g k l m c n h i j d A00 K Y6)))))∧(MX P X0 b0 w.drew.drew.drew (fun G3 H3=>MN P q o0 H3 (fun I3 J3=>BV P 148 I3 G3 (fun L3=>StA 2 c L3 J3 (fun B00=>f79_s8 e f g k l m c n h i j d B00 K Y6)))))))∧(∃ p0:Int,w.drew.drew.drew.cell? (c.add 1)=some (.int .i64 p0)∧(∃ Y0:Int,w.drew.drew.drew.cell? (o.add (Int.toNat d * 2))=some (.int .i64 Y0)∧(MN P q Y0 w.drew.drew.drew (fun M3 N3=>MX P p0 b0 N3 (fun O3 Q3=>BV P 148 M3 O3 (fun R3=>StA 2 c R3 Q3 (fun C00=>f79_s8 e f g k l m c n h i j d C00 K Y6)))))∧(MX P p0 b0 w.drew.drew.drew (fun S3 T3=>MN P q Y0 T3 (fun U3 V3=>BV P 148 U3 S3 (fun W3=>StA 2 c W3 V3 (fun D00=>f79_s8 e f g k l m c n h i j d D00 K Y6))))))∧(MX P p0 b0 w.drew.drew.drew (fun X3 Z0=>∃ Y3:Int,Z0.cell? (o.add (Int.toNat d * 2))=some (.int .i64 Y3)∧MN P q Y3 Z0 (fun Z3 a4=>BV P 148 Z3 X3 (fun b4=>StA 2 c b4 a4 (fun E00=>f79_s8 e f g k l m c n h i j d E00 K Y6))))))))∧(∃ r:Int,w.drew.drew.drew.cell? (o.add (Int.toNat d * 2))=some (.int .i64 r)∧(∃ x:Int,w.drew.drew.drew.cell? c=some (.int .i64 x)∧(MN P x r w.drew.drew.drew (fun c4 q0=>∃ d4:Int,q0.cell? (c.add 1)=some (.int .i64 d4)∧∃ e4:Int,q0.cell? ((p.add (Int.toNat d * 2)).add 1)=some (.int .i64 e4)∧MX P d4 e4 q0 (fun f4 g4=>BV P 148 c4 f4 (fun h4=>StA 2 c h4 g4 (fun F00=>f79_s8 e f g k l m c n h i j d F00 K Y6)))))∧(∃ r0:Int,w.drew.drew.drew.cell? (c.add 1)=some (.int .i64 r0)∧(MN P x r w.drew.drew.drew (fun i4 a1=>∃ j4:Int,a1.cell? ((p.add (Int.toNat d * 2)).add 1)=some (.int .i64 j4)∧MX P r0 j4 a1 (fun l4 m4=>BV P 148 i4 l4 (fun n4=>StA 2 c n4 m4 (fun G00=>f79_s8 e f g k l m c n h i j d G00 K Y6)))))∧(∃ b1:Int,w.drew.drew.drew.cell? ((p.add (Int.toNat d * 2)).add 1)=some (.int .i64 b1)∧(MN P x r w.drew.drew.drew (fun o4 p4=>MX P r0 b1 p4 (fun q4 r4=>BV P 148 o4 q4 (fun s4=>StA 2 c s4 r4 (fun H00=>f79_s8 e f g k l m c n h i j d H00 K Y6)))))∧(MX P r0 b1 w.drew.drew.drew (fun t4 u4=>MN P x r u4 (fun v4 x4=>BV P 148 v4 t4 (fun y4=>StA 2 c y4 x4 (fun I00=>f79_s8 e f g k l m c n h i j d I00 K Y6)))))))∧(∃ s0:Int,w.drew.drew.drew.cell? ((p.add (Int.toNat d * 2)).add 1)=some (.int .i64 s0)∧(MN P x r w.drew.drew.drew (fun z4 c1=>∃ A4:Int,c1.cell? (c.add 1)=some (.int .i64 A4)∧MX P A4 s0 c1 (fun B4 C4=>BV P 148 z4 B4 (fun D4=>StA 2 c D4 C4 (fun J00=>f79_s8 e f g k l m c n h i j d J00 K Y6)))))∧(∃ d1:Int,w.drew.drew.drew.cell? (c.add 1)=some (.int .i64 d1)∧(MN P x r w.drew.drew.drew (fun E4 F4=>MX P d1 s0 F4 (fun G4 H4=>BV P 148 E4 G4 (fun I4=>StA 2 c I4 H4 (fun L00=>f79_s8 e f g k l m c n h i j d L00 K Y6)))))∧(MX P d1 s0 w.drew.drew.drew (fun J4 L4=>MN P x r L4 (fun M4 N4=>BV P 148 M4 J4 (fun O4=>StA 2 c O4 N4 (fun M00=>f79_s8 e f g k l m c n h i j d M00 K Y6))))))))∧(∃ c0:Int,w.drew.drew.drew.cell? (c.add 1)=some (.int .i64 c0)∧(∃ t0:Int,w.drew.drew.drew.cell? c=some (.int .i64 t0)∧(MN P t0 r w.drew.drew.drew (fun Q4 e1=>∃ R4:Int,e1.cell? ((p.add (Int.toNat d * 2)).add 1)=some (.int .i64 R4)∧MX P c0 R4 e1 (fun S4 T4=>BV P 148 Q4 S4 (fun U4=>StA 2 c U4 T4 (fun N00=>f79_s8 e f g k l m c n h i j d N00 K Y6)))))∧(∃ f1:Int,w.drew.drew.drew.cell? ((p.add (Int.toNat d * 2)).add 1)=some (.int .i64 f1)∧(MN P t0 r w.drew.drew.drew (fun V4 W4=>MX P c0 f1 W4 (fun X4 Y4=>BV P 148 V4 X4 (fun Z4=>StA 2 c Z4 Y4 (fun O00=>f79_s8 e f g k l m c n h i j d O00 K Y6)))))∧(MX P c0 f1 w.drew.drew.drew (fun a5 b5=>MN P t0 r b5 (fun c5 d5=>BV P 148 c5 a5 (fun e5=>StA 2 c e5 d5 (fun Q00=>f79_s8 e f g k l m c n h i j d Q00 K Y6)))))))∧(∃ u0:Int,w.drew.drew.drew.cell? ((p.add (Int.toNat d * 2)).add 1)=some (.int .i64 u0)∧(∃ g1:Int,w.drew.drew.drew.cell? c=some (.int .i64 g1)∧(MN P g1 r w.drew.drew.drew (fun f5 g5=>MX P c0 u0 g5 (fun h5 i5=>BV P 148 f5 h5 (fun j5=>StA 2 c j5 i5 (fun R00=>f79_s8 e f g k l m c n h i j d R00 K Y6)))))∧(MX P c0 u0 w.drew.drew.drew (fun l5 m5=>MN P g1 r m5 (fun n5 o5=>BV P 148 n5 l5 (fun p5=>StA 2 c p5 o5 (fun S00=>f79_s8 e f g k l m c n h i j d S00 K Y6))))))∧(MX P c0 u0 w.drew.drew.drew (fun q5 h1=>∃ r5:Int,h1.cell? c=some (.int .i64 r5)∧MN P r5 r h1 (fun s5 t5=>BV P 148 s5 q5 (fun u5=>StA 2 c u5 t5 (fun T00=>f79_s8 e f g k l m c n h i j d T00 K Y6)))))))∧(∃ d0:Int,w.drew.drew.drew.cell? ((p.add (Int.toNat d * 2)).add 1)=some (.int .i64 d0)∧(∃ v0:Int,w.drew.drew.drew.cell? c=some (.int .i64 v0)∧(MN P v0 r w.drew.drew.drew (fun v5 i1=>∃ x5:Int,i1.cell? (c.add 1)=some (.int .i64 x5)∧MX P x5 d0 i1 (fun y5 z5=>BV P 148 v5 y5 (fun A5=>StA 2 c A5 z5 (fun U00=>f79_s8 e f g k l m c n h i j d U00 K Y6)))))∧(∃ j1:Int,w.drew.drew.drew.cell? (c.add 1)=some (.int .i64 j1)∧(MN P v0 r w.drew.drew.drew (fun B5 C5=>MX P j1 d0 C5 (fun D5 E5=>BV P 148 B5 D5 (fun F5=>StA 2 c F5 E5 (fun V00=>f79_s8 e f g k l m c n h i j d V00 K Y6)))))∧(MX P j1 d0 w.drew.drew.drew (fun G5 H5=>MN P v0 r H5 (fun I5 J5=>BV P 148 I5 G5 (fun L5=>StA 2 c L5 J5 (fun W00=>f79_s8 e f g k l m c n h i j d W00 K Y6)))))))∧(∃ x0:Int,w.drew.drew.drew.cell? (c.add 1)=some (.int .i64 x0)∧(∃ l1:Int,w.drew.drew.drew.cell? c=some (.int .i64 l1)∧(MN P l1 r w.drew.drew.drew (fun M5 N5=>MX P x0 d0 N5 (fun O5 Q5=>BV P 148 M5 O5 (fun R5=>StA 2 c R5 Q5 (fun X00=>f79_s8 e f g k l m c n h i j d X00 K Y6)))))∧(MX P x0 d0 w.drew.drew.drew (fun S5 T5=>MN P l1 r T5 (fun U5 V5=>BV P 148 U5 S5 (fun W5=>StA 2 c W5 V5 (fun Y00=>f79_s8 e f g k l m c n h i j d Y00 K Y6))))))∧(MX P x0 d0 w.drew.drew.drew (fun X5 m1=>∃ Y5:Int,m1.cell? c=some (.int .i64 Y5)∧MN P Y5 r m1 (fun Z5 a6=>BV P 148 Z5 X5 (fun b6=>StA 2 c b6 a6 (fun Z00=>f79_s8 e f g k l m c n h i j d Z00 K Y6))))))))∧(∃ s:Int,w.drew.drew.drew.cell? (c.add 1)=some (.int .i64 s)∧(∃ e0:Int,w.drew.drew.drew.cell? c=some (.int .i64 e0)∧(∃ y0:Int,w.drew.drew.drew.cell? (o.add (Int.toNat d * 2))=some (.int .i64 y0)∧(MN P e0 y0 w.drew.drew.drew (fun c6 n1=>∃ d6:Int,n1.cell? ((p.add (Int.toNat d * 2)).add 1)=some (.int .i64 d6)∧MX P s d6 n1 (fun e6 f6=>BV P 148 c6 e6 (fun g6=>StA 2 c g6 f6 (fun a01=>f79_s8 e f g k l m c n h i j d a01 K Y6)))))∧(∃ o1:Int,w.drew.drew.drew.cell? ((p.add (Int.toNat d * 2)).add 1)=some (.int .i64 o1)∧(MN P e0 y0 w.drew.drew.drew (fun h6 i6=>MX P s o1 i6 (fun j6 l6=>BV P 148 h6 j6 (fun m6=>StA 2 c m6 l6 (fun b01=>f79_s8 e f g k l m c n h i j d b01 K Y6)))))∧(MX P s o1 w.drew.drew.drew (fun n6 o6=>MN P e0 y0 o6 (fun p6 q6=>BV P 148 p6 n6 (fun r6=>StA 2 c r6 q6 (fun c01=>f79_s8 e f g k l m c n h i j d c01 K Y6)))))))∧(∃ z0:Int,w.drew.drew.drew.cell? ((p.add (Int.toNat d * 2)).add 1)=some (.int .i64 z0)∧(∃ p1:Int,w.drew.drew.drew.cell? (o.add (Int.toNat d * 2))=some (.int .i64 p1)∧(MN P e0 p1 w.drew.drew.drew (fun s6 t6=>MX P s z0 t6 (fun u6 v6=>BV P 148 s6 u6 (fun x6=>StA 2 c x6 v6 (fun d01=>f79_s8 e f g k l m c n h i j d d01 K Y6)))))∧(MX P s z0 w.drew.drew.drew (fun y6 z6=>MN P e0 p1 z6 (fun A6 B6=>BV P 148 A6 y6 (fun C6=>StA 2 c C6 B6 (fun e01=>f79_s8 e f g k l m c n h i j d e01 K Y6))))))∧(MX P s z0 w.drew.drew.drew (fun D6 q1=>∃ E6:Int,q1.cell? (o.add (Int.toNat d * 2))=some (.int .i64 E6)∧MN P e0 E6 q1 (fun F6 G6=>BV P 148 F6 D6 (fun H6=>StA 2 c H6 G6 (fun f01=>f79_s8 e f g k l m c n h i j d f01 K Y6)))))))∧(∃ f0:Int,w.drew.drew.drew.cell? (o.add (Int.toNat d * 2))=some (.int .i64 f0)∧(∃ A0:Int,w.drew.drew.drew.cell? c=some (.int .i64 A0)∧(MN P A0 f0 w.drew.drew.drew (fun I6 r1=>∃ J6:Int,r1.cell? ((p.add (Int.toNat d * 2)).add 1)=some (.int .i64 J6)∧MX P s J6 r1 (fun L6 M6=>BV P 148 I6 L6 (fun N6=>StA 2 c N6 M6 (fun g01=>f79_s8 e f g k l m c n h i j d g01 K Y6)))))∧(∃ s1:Int,w.drew.drew.drew.cell? ((p.add (Int.toNat d * 2)).add 1)=some (.int .i64 s1)∧(MN P A0 f0 w.drew.drew.drew (fun O6 Q6=>MX P s s1 Q6 (fun R6 S6=>BV P 148 O6 R6 (fun T6=>StA 2 c T6 S6 (fun h01=>f79_s8 e f g k l m c n h i j d h01 K Y6)))))∧(MX P s s1 w.drew.drew.drew (fun U6 V6=>MN P A0 f0 V6 (fun W6 X6=>BV P 148 W6 U6 (fun Z6=>StA 2 c Z6 X6 (fun i01=>f79_s8 e f g k l m c n h i j d i01 K Y6)))))))∧(∃ B0:Int,w.drew.drew.drew.cell? ((p.add (Int.toNat d * 2)).add 1)=some (.int .i64 B0)∧(∃ t1:Int,w.drew.drew.drew.cell? c=some (.int .i64 t1)∧(MN P t1 f0 w.drew.drew.drew (fun a7 b7=>MX P s B0 b7 (fun c7 d7=>BV P 148 a7 c7 (fun e7=>StA 2 c e7 d7 (fun j01=>f79_s8 e f g k l m c n h i j d j01 K Y6)))))∧(MX P s B0 w.drew.drew.drew (fun f7 g7=>MN P t1 f0 g7 (fun h7 i7=>BV P 148 h7 f7 (fun j7=>StA 2 c j7 i7 (fun l01=>f79_s8 e f g k l m c n h i j d l01 K Y6))))))∧(MX P s B0 w.drew.drew.drew (fun l7 u1=>∃ m7:Int,u1.cell? c=some (.int .i64 m7)∧MN P m7 f0 u1 (fun n7 o7=>BV P 148 n7 l7 (fun p7=>StA 2 c p7 o7 (fun m01=>f79_s8 e f g k l m c n h i j d m01 K Y6)))))))∧(∃ y:Int,w.drew.drew.drew.cell? ((p.add (Int.toNat d * 2)).add 1)=some (.int .i64 y)∧(∃ C0:Int,w.drew.drew.drew.cell? c=some (.int .i64 C0)∧(∃ v1:Int,w.drew.drew.drew.cell? (o.add (Int.toNat d * 2))=some (.int .i64 v1)∧(MN P C0 v1 w.drew.drew.drew (fun q7 r7=>MX P s y r7 (fun s7 t7=>BV P 148 q7 s7 (fun u7=>StA 2 c u7 t7 (fun n01=>f79_s8 e f g k l m c n h i j d n01 K Y6)))))∧(MX P s y w.drew.drew.drew (fun v7 x7=>MN P C0 v1 x7 (fun y7 z7=>BV P 148 y7 v7 (fun A7=>StA 2 c A7 z7 (fun o01=>f79_s8 e f g k l m c n h i j d o01 K Y6))))))∧(MX P s y w.drew.drew.drew (fun B7 x1=>∃ C7:Int,x1.cell? (o.add (Int.toNat d * 2))=some (.int .i64 C7)∧MN P C0 C7 x1 (fun D7 E7=>BV P 148 D7 B7 (fun F7=>StA 2 c F7 E7 (fun p01=>f79_s8 e f g k l m c n h i j d p01 K Y6))))))∧(∃ D0:Int,w.drew.drew.drew.cell? (o.add (Int.toNat d * 2))=some (.int .i64 D0)∧(∃ y1:Int,w.drew.drew.drew.cell? c=some (.int .i64 y1)∧(MN P y1 D0 w.drew.drew.drew (fun G7 H7=>MX P s y H7 (fun I7 J7=>BV P 148 G7 I7 (fun L7=>StA 2 c L7 J7 (fun q01=>f79_s8 e f g k l m c n h i j d q01 K Y6)))))∧(MX P s y w.drew.drew.drew (fun M7 N7=>MN P y1 D0 N7 (fun O7 Q7=>BV P 148 O7 M7 (fun R7=>StA 2 c R7 Q7 (fun r01=>f79_s8 e f g k l m c n h i j d r01 K Y6))))))∧(MX P s y w.drew.drew.drew (fun S7 z1=>∃ T7:Int,z1.cell? c=some (.int .i64 T7)∧MN P T7 D0 z1 (fun U7 V7=>BV P 148 U7 S7 (fun W7=>StA 2 c W7 V7 (fun s01=>f79_s8 e f g k l m c n h i j d s01 K Y6))))))∧(MX P s y w.drew.drew.drew (fun X7 E0=>∃ Y7:Int,E0.cell? c=some (.int .i64 Y7)∧∃ Z7:Int,E0.cell? (o.add (Int.toNat d * 2))=some (.int .i64 Z7)∧MN P Y7 Z7 E0 (fun a8 b8=>BV P 148 a8 X7 (fun c8=>StA 2 c c8 b8 (fun t01=>f79_s8 e f g k l m c n h i j d t01 K Y6)))))))∧(∃ t:Int,w.drew.drew.drew.cell? ((p.add (Int.toNat d * 2)).add 1)=some (.int .i64 t)∧(∃ g0:Int,w.drew.drew.drew.cell? c=some (.int .i64 g0)∧(∃ F0:Int,w.drew.drew.drew.cell? (o.add (Int.toNat d * 2))=some (.int .i64 F0)∧(MN P g0 F0 w.drew.drew.drew (fun d8 A1=>∃ e8:Int,A1.cell? (c.add 1)=some (.int .i64 e8)∧MX P e8 t A1 (fun f8 g8=>BV P 148 d8 f8 (fun h8=>StA 2 c h8 g8 (fun u01=>f79_s8 e f g k l m c n h i j d u01 K Y6)))))∧(∃ B1:Int,w.drew.drew.drew.cell? (c.add 1)=some (.int .i64 B1)∧(MN P g0 F0 w.drew.drew.drew (fun i8 j8=>MX P B1 t j8 (fun l8 m8=>BV P 148 i8 l8 (fun n8=>StA 2 c n8 m8 (fun v01=>f79_s8 e f g k l m c n h i j d v01 K Y6)))))∧(MX P B1 t w.drew.drew.drew (fun o8 p8=>MN P g0 F0 p8 (fun q8 r8=>BV P 148 q8 o8 (fun s8=>StA 2 c s8 r8 (fun x01=>f79_s8 e f g k l m c n h i j d x01 K Y6)))))))∧(∃ G0:Int,w.drew.drew.drew.cell? (c.add 1)=some (.int .i64 G0)∧(∃ C1:Int,w.drew.drew.drew.cell? (o.add (Int.toNat d * 2))=some (.int .i64 C1)∧(MN P g0 C1 w.drew.drew.drew (fun t8 u8=>MX P G0 t u8 (fun v8 x8=>BV P 148 t8 v8 (fun y8=>StA 2 c y8 x8 (fun y01=>f79_s8 e f g k l m c n h i j d y01 K Y6)))))∧(MX P G0 t w.drew.drew.drew (fun z8 A8=>MN P g0 C1 A8 (fun B8 C8=>BV P 148 B8 z8 (fun D8=>StA 2 c D8 C8 (fun z01=>f79_s8 e f g k l m c n h i j d z01 K Y6))))))∧(MX P G0 t w.drew.drew.drew (fun E8 D1=>∃ F8:Int,D1.cell? (o.add (Int.toNat d * 2))=some (.int .i64 F8)∧MN P g0 F8 D1 (fun G8 H8=>BV P 148 G8 E8 (fun I8=>StA 2 c I8 H8 (fun A01=>f79_s8 e f g k l m c n h i j d A01 K Y6)))))))∧(∃ h0:Int,w.drew.drew.drew.cell? (o.add (Int.toNat d * 2))=some (.int .i64 h0)∧(∃ H0:Int,w.drew.drew.drew.cell? c=some (.int .i64 H0)∧(MN P H0 h0 w.drew.drew.drew (fun J8 E1=>∃ L8:Int,E1.cell? (c.add 1)=some (.int .i64 L8)∧MX P L8 t E1 (fun M8 N8=>BV P 148 J8 M8 (fun O8=>StA 2 c O8 N8 (fun B01=>f79_s8 e f g k l m c n h i j d B01 K Y6)))))∧(∃ F1:Int,w.drew.drew.drew.cell? (c.add 1)=some (.int .i64 F1)∧(MN P H0 h0 w.drew.drew.drew (fun Q8 R8=>MX P F1 t R8 (fun S8 T8=>BV P 148 Q8 S8 (fun U8=>StA 2 c U8 T8 (fun C01=>f79_s8 e f g k l m c n h i j d C01 K Y6)))))∧(MX P F1 t w.drew.drew.drew (fun V8 W8=>MN P H0 h0 W8 (fun X8 Y8=>BV P 148 X8 V8 (fun Z8=>StA 2 c Z8 Y8 (fun D01=>f79_s8 e f g k l m c n h i j d D01 K Y6)))))))∧(∃ I0:Int,w.drew.drew.drew.cell? (c.add 1)=some (.int .i64 I0)∧(∃ G1:Int,w.drew.drew.drew.cell? c=some (.int .i64 G1)∧(MN P G1 h0 w.drew.drew.drew (fun a9 b9=>MX P I0 t b9 (fun c9 d9=>BV P 148 a9 c9 (fun e9=>StA 2 c e9 d9 (fun E01=>f79_s8 e f g k l m c n h i j d E01 K Y6)))))∧(MX P I0 t w.drew.drew.drew (fun f9 g9=>MN P G1 h0 g9 (fun h9 i9=>BV P 148 h9 f9 (fun j9=>StA 2 c j9 i9 (fun F01=>f79_s8 e f g k l m c n h i j d F01 K Y6))))))∧(MX P I0 t w.drew.drew.drew (fun l9 H1=>∃ m9:Int,H1.cell? c=some (.int .i64 m9)∧MN P m9 h0 H1 (fun n9 o9=>BV P 148 n9 l9 (fun p9=>StA 2 c p9 o9 (fun G01=>f79_s8 e f g k l m c n h i j d G01 K Y6)))))))∧(∃ z:Int,w.drew.drew.drew.cell? (c.add 1)=some (.int .i64 z)∧(∃ J0:Int,w.drew.drew.drew.cell? c=some (.int .i64 J0)∧(∃ I1:Int,w.drew.drew.drew.cell? (o.add (Int.toNat d * 2))=some (.int .i64 I1)∧(MN P J0 I1 w.drew.drew.drew (fun q9 r9=>MX P z t r9 (fun s9 t9=>BV P 148 q9 s9 (fun u9=>StA 2 c u9 t9 (fun H01=>f79_s8 e f g k l m c n h i j d H01 K Y6)))))∧(MX P z t w.drew.drew.drew (fun v9 x9=>MN P J0 I1 x9 (fun y9 z9=>BV P 148 y9 v9 (fun A9=>StA 2 c A9 z9 (fun I01=>f79_s8 e f g k l m c n h i j d I01 K Y6))))))∧(MX P z t w.drew.drew.drew (fun B9 J1=>∃ C9:Int,J1.cell? (o.add (Int.toNat d * 2))=some (.int .i64 C9)∧MN P J0 C9 J1 (fun D9 E9=>BV P 148 D9 B9 (fun F9=>StA 2 c F9 E9 (fun J01=>f79_s8 e f g k l m c n h i j d J01 K Y6))))))∧(∃ L0:Int,w.drew.drew.drew.cell? (o.add (Int.toNat d * 2))=some (.int .i64 L0)∧(∃ L1:Int,w.drew.drew.drew.cell? c=some (.int .i64 L1)∧(MN P L1 L0 w.drew.drew.drew (fun G9 H9=>MX P z t H9 (fun I9 J9=>BV P 148 G9 I9 (fun L9=>StA 2 c L9 J9 (fun L01=>f79_s8 e f g k l m c n h i j d L01 K Y6)))))∧(MX P z t w.drew.drew.drew (fun M9 N9=>MN P L1 L0 N9 (fun O9 Q9=>BV P 148 O9 M9 (fun R9=>StA 2 c R9 Q9 (fun M01=>f79_s8 e f g k l m c n h i j d M01 K Y6))))))∧(MX P z t w.drew.drew.drew (fun S9 M1=>∃ T9:Int,M1.cell? c=some (.int .i64 T9)∧MN P T9 L0 M1 (fun U9 V9=>BV P 148 U9 S9 (fun W9=>StA 2 c W9 V9 (fun N01=>f79_s8 e f g k l m c n h i j d N01 K Y6))))))∧(MX P z t w.drew.drew.drew (fun X9 M0=>∃ Y9:Int,M0.cell? c=some (.int .i64 Y9)∧∃ Z9:Int,M0.cell? (o.add (Int.toNat d * 2))=some (.int .i64 Z9)∧MN P Y9 Z9 M0 (fun a00 b00=>BV P 148 a00 X9 (fun c00=>StA 2 c c00 b00 (fun O01=>f79_s8 e f g k l m c n h i j d O01 K Y6)))))))))))))):=Eq.trans SGe (Eq.trans (CSs [0,5,3,6,4,7] (f79_k11 K Y6) (by kernel_rfl)) (Eq.trans (CSb 1 [4,3,5,6,0,7] (f79_k12 K Y6) (by kernel_rfl)) (Eq.trans (CSs [28,0,3,6,4,7,5] (f79_k13 K Y6) (by kernel_rfl)) (by kernel_rfl))))
def f79_s10 (a:Addr) (b:OA) (c d:Nat) (f:Bool) (w:World) (K:KT):Prop:=SG P (cA c79 63) none [4] [4] (f79_kb K) (Env.mk 81 [(3,(VP (some a))),(5,(VS b c d)),(6,(VB f))] []) w
abbrev f79_k18 (K:KT):Exit→YT:=kseq P (cA c79 126) (cA c79 127) none [4] [4] (f79_kb K)
abbrev f79_k19 (K:KT):Exit→YT:=kseq P (cA c79 252) (cA c79 253) none [5] [4] (f79_k18 K)
def f79_s11 (a:OA) (b c:Nat) (w:World) (K:KT):Prop:=SG P (cA c79 127) none [4] [4] (f79_kb K) (Env.mk 81 [(5,(VS a b c))] []) w
abbrev f79_k20 (K:KT):Exit→YT:=kseq P (cA c79 254) (cA c79 255) none [4] [4] (f79_kb K)
theorem f79_s11_eq (c:OA) (d e:Nat) (w:World) (K:KT):f79_s11 c d e w K=(K (Value.slice c d e) w):=Eq.trans SGe (Eq.trans (CSs [4] (f79_k20 K) (by kernel_rfl)) (by kernel_rfl))
theorem f79_s10_eq (f:Addr) (c:OA) (d e:Nat) (g:Bool) (w:World) (K:KT):f79_s10 f c d e g w K=(BIf (!g) (LdA 2 f w (fun h=>sizesAre 2 [(Value.agg h)]∧NewC (([(Value.agg h)].map fun (v:Value)=>v.cells.toList).flatten.toArray) 148 w (fun m n=>∃ (i:OA) (j k:Nat),∃ l:World,(Builtin.append_ #[127,127] 127 [(Value.slice c d e),(Value.slice (some (Addr.mk m 0 none)) 1 1)].toArray).run P n=.ok (.slice i j k) l∧f79_s11 i j k l K))) (f79_s11 c d e w K)):=Eq.trans SGe (Eq.trans (CSs [5] (f79_k18 K) (by kernel_rfl)) (Eq.trans (CSs [75,3,5] (f79_k19 K) (by kernel_rfl)) (by kernel_rfl)))
theorem f79_lb6_eq (c:Int) (d:OA) (e f:Nat) (g:OA) (h i:Nat) (j:Addr) (k:Bool) (l:OA) (m n:Nat) (w:World) (K:KT) (Y6:YT):f79_lb6 c d e f g h i j k l m n w K Y6=(∃ o:Int,(∀ wq,Ext w wq→(Builtin.len_ #[127] 3 [(Value.slice d e f)].toArray).run P wq=.ok (.int .i64 o) wq)∧BIf (decide ((c:Int) < o)) (f79_s7 d e f j k l m n c g h i w K Y6) (f79_s10 j g h i k w K)):=Eq.trans SGe (Eq.trans (CSs [0,3,6,4,7,5] (f79_k9 K Y6) (by kernel_rfl)) (Eq.trans (CSs [18,0,3,6,4,7,5] (f79_k10 K Y6) (by kernel_rfl)) (by kernel_rfl)))
theorem f79_s5_eq (a:Int) (c:OA) (d e:Nat) (m:OA) (n o:Nat) (f:OA) (g h:Nat) (i:Addr) (j:OA) (k l:Nat) (w:World) (K:KT):f79_s5 a c d e m n o f g h i j k l w K=(LoopE (f79_lp6 K) (Env.mk 81 [(7,(Value.int .i64 a)),(0,(Value.slice f g h)),(5,(Value.slice c d e)),(3,(Value.pointer (some i))),(6,(Value.bool false)),(4,(Value.slice j k l))] []) w):=Eq.trans (b:=CS P (cA c79 125) none [3,5,6] [4] (f79_k6 K) (Env.mk 81 [(7,(VI a)),(6,(VB false)),(5,(VS c d e)),(14,(VS m n o)),(0,(VS f g h)),(3,(VP (some i))),(4,(VS j k l))] []) w) (by kernel_rfl) (Eq.trans (CSb 0 [4,3,5,6] (f79_k8 K) (by kernel_rfl)) ((CS_loop' (b:=(cA c79 500)) (X':=[4,3,5,6]) (H:=[7,0,5,3,6,4]) (by kernel_rfl) (by kernel_rfl) (by kernel_rfl)).trans (by kernel_rfl)))
theorem f79_s4_eq (c:OA) (d e:Nat) (f:OA) (g h:Nat) (i:OA) (j k:Nat) (l:Addr) (m:OA) (n o:Nat) (w:World) (K:KT):f79_s4 c d e f g h i j k l m n o w K=(f79_s5 0 c d e f g h i j k l m n o w K):=Eq.trans (b:=CS P (cA c79 31) none [4] [4] (f79_kb K) (Env.mk 81 [(6,(VB false)),(5,(VS c d e)),(14,(VS f g h)),(0,(VS i j k)),(3,(VP (some l))),(4,(VS m n o))] []) w) (by kernel_rfl) (Eq.trans (CSs [3,5,6] (f79_k6 K) (by kernel_rfl)) (Eq.trans (CSs [7,0,5,3,6,4] (f79_k7 K) (by kernel_rfl)) (by kernel_rfl)))
theorem f79_s3_eq (c:OA) (d e:Nat) (f:OA) (g h:Nat) (i:OA) (j k:Nat) (l:Addr) (m:OA) (n o:Nat) (w:World) (K:KT):f79_s3 c d e f g h i j k l m n o w K=(f79_s4 c d e f g h i j k l m n o w K):=Eq.trans (b:=CS P (cA c79 15) none [4] [4] (f79_kb K) (Env.mk 81 [(5,(VS c d e)),(14,(VS f g h)),(0,(VS i j k)),(3,(VP (some l))),(4,(VS m n o))] []) w) (by kernel_rfl) (Eq.trans (CSs [0,5,3,6,4] (f79_k5 K) (by kernel_rfl)) (by kernel_rfl))
theorem f79_s2_eq (c:OA) (d e:Nat) (f:Addr) (g:OA) (h i:Nat) (w:World) (K:KT):f79_s2 c d e f g h i w K=(∃ (j:OA) (k l:Nat),∃ m:World,(Instr.buildSlice 127 0 ([]:List (Nat × Value)).toArray).run P w=.ok (.slice j k l) m∧f79_s3 j k l j k l c d e f g h i m K):=Eq.trans SGe (Eq.trans (CSs [0,5,3,4] (f79_k4 K) (by kernel_rfl)) (by kernel_rfl))
theorem f79_s1_eq (g:OA) (h i:Nat) (c:Addr) (d:OA) (e f:Nat) (j:Array Value) (w:World) (K:KT):f79_s1 g h i c d e f j w K=(∃ k:Int,w.cell? c=some (.int .i64 k)∧∃ l:Int,w.cell? (c.add 1)=some (.int .i64 l)∧BIf (decide ((k:Int)≥l)) (K (Value.slice d e f) w) (f79_s2 d e f c g h i w K)):=Eq.trans (b:=CS P (cA c79 3) none [4] [4] (f79_kb K) (Env.mk 81 [(4,(VS g h i)),(3,(VP (some c))),(0,(VS d e f)),(1,(Value.agg j))] []) w) (by kernel_rfl) (Eq.trans (CSs [0,3,4] (f79_k1 K) (by kernel_rfl)) (Eq.trans (CSs [12,0,3,4] (f79_k2 K) (by kernel_rfl)) (by kernel_rfl)))
theorem f79_s0_eq (d:OA) (e f:Nat) (c:Array Value) (w:World) (K:KT):f79_s0 d e f c w K=(NewC c 148 w (fun g h=>f79_s1 none 0 0 (Addr.mk g 0 none) d e f c h K)):=Eq.trans (b:=CS P (cA c79 1) none [4] [4] (f79_kb K) (Env.mk 81 [(0,(VS d e f)),(1,(Value.agg c))] []) w) (by kernel_rfl) (Eq.trans (CSs [0,3,4] (f79_k0 K) (by kernel_rfl)) (by kernel_rfl))
theorem f79_eq (a:OA) (b c:Nat) (d:Array Value) (w:World) (K:KT):f79 a b c d w K=(f79_s0 a b c d w K):=by kernel_rfl
theorem f79_ok (a:OA) (b c:Nat) (d:Array Value) (w:World) (K:KT) (h:f79 a b c d w K):CallL P 79 [(Value.slice a b c),(Value.agg d)] w K:=okCS c79 Tryz.func79 (by kernel_rfl) (by kernel_rfl) h
noncomputable def c49:Code:=bodyOf Tryz.f49
noncomputable def rs49:List ResultVar:=Tryz.f49.results.toList
abbrev f49_kb (K:KT):Exit→YT:=bodyK P rs49 K
def f49 (a:OA) (b c:Nat) (w:World) (K:KT):Prop:=CS P c49 none [2] [2] (f49_kb K) (env0 44 [(VS a b c)]) w
def f49_s0 (a:OA) (b c:Nat) (w:World) (K:KT):Prop:=CS P (cA c49 1) none [2] [2] (f49_kb K) (Env.mk 44 [(0,(VS a b c))] []) w
abbrev f49_k0 (K:KT):Exit→YT:=kseq P (cA c49 2) (cA c49 3) none [2] [2] (f49_kb K)
def f49_s1 (a:OA) (b c:Nat) (d:OA) (e f:Nat) (w:World) (K:KT):Prop:=CS P (cA c49 3) none [2] [2] (f49_kb K) (Env.mk 44 [(2,(VS a b c)),(0,(VS d e f))] []) w
abbrev f49_k1 (K:KT):Exit→YT:=kseq P (cA c49 6) (cA c49 7) none [2] [2] (f49_kb K)
def f49_s2 (a:OA) (b c:Nat) (d:OA) (e f:Nat) (g:OA) (h i:Nat) (j:OA) (k l:Nat) (w:World) (K:KT):Prop:=CS P (cA c49 7) none [2] [2] (f49_kb K) (Env.mk 44 [(3,(VS a b c)),(7,(VS d e f)),(2,(VS g h i)),(0,(VS j k l))] []) w
abbrev f49_k2 (K:KT):Exit→YT:=kseq P (cA c49 14) (cA c49 15) none [2] [2] (f49_kb K)
abbrev f49_k3 (K:KT):Exit→YT:=kseq P (cA c49 28) (cA c49 29) none [3] [2] (f49_k2 K)
def f49_s3 (a:Int) (b:OA) (c d:Nat) (e:OA) (f g:Nat) (h:OA) (i j:Nat) (k:OA) (l m:Nat) (w:World) (K:KT):Prop:=CS P (cA c49 29) none [3] [2] (f49_k2 K) (Env.mk 44 [(4,(VI a)),(3,(VS b c d)),(7,(VS e f g)),(2,(VS h i j)),(0,(VS k l m))] []) w
abbrev f49_k4 (K:KT):Exit→YT:=kblock 0 (f49_k2 K)
def f49_lp4 (K:KT) (Y4:YT) (e:Env) (w:World):Prop:=Join (fun e w=>CS P (cA c49 116) none [4,3,0,2] [2,3] (kloop [4,3,0,2] Y4 (f49_k4 K)) e w) e w
abbrev f49_kl4 (K:KT) (Y4:YT):Exit→YT:=kloop [4,3,0,2] Y4 (f49_k4 K)
def f49_lb4 (a:Int) (b:OA) (c d:Nat) (f:OA) (g h:Nat) (i:OA) (j k:Nat) (w:World) (K:KT) (Y4:YT):Prop:=SG P (cA c49 116) none [4,3,0,2] [2,3] (f49_kl4 K Y4) (Env.mk 44 [(4,(VI a)),(3,(VS b c d)),(0,(VS f g h)),(2,(VS i j k))] []) w
abbrev f49_k5 (K:KT) (Y4:YT):Exit→YT:=kseq P (cA c49 232) (cA c49 233) none [4,3,0,2] [2,3] (f49_kl4 K Y4)
abbrev f49_k6 (K:KT) (Y4:YT):Exit→YT:=kseq P (cA c49 464) (cA c49 465) none [0,2,4,3] [2,3] (f49_k5 K Y4)
def f49_s5 (a:OA) (b c:Nat) (d:OA) (f g:Nat) (h:Int) (i:OA) (j k:Nat) (w:World) (K:KT) (Y4:YT):Prop:=SG P (cA c49 233) none [4,3,0,2] [2,3] (f49_kl4 K Y4) (Env.mk 44 [(0,(VS a b c)),(2,(VS d f g)),(4,(VI h)),(3,(VS i j k))] []) w
abbrev f49_k7 (K:KT) (Y4:YT):Exit→YT:=kseq P (cA c49 466) (cA c49 467) none [4,3,0,2] [2,3] (f49_kl4 K Y4)
abbrev f49_k8 (K:KT) (Y4:YT):Exit→YT:=kblock 1 (f49_k7 K Y4)
abbrev f49_k9 (K:KT) (Y4:YT):Exit→YT:=kseq P (cA c49 1864) (cA c49 1865) none [3,0,2,4] [2,3,0,4] (f49_k8 K Y4)
def f49_s6 (a:OA) (b c:Nat) (d:OA) (f g:Nat) (h:OA) (i j:Nat) (k:Int) (w:World) (K:KT) (Y4:YT):Prop:=SG P (cA c49 467) none [4,3,0,2] [2,3] (f49_kl4 K Y4) (Env.mk 44 [(3,(VS a b c)),(0,(VS d f g)),(2,(VS h i j)),(4,(VI k))] []) w
theorem f49_s6_eq (a:OA) (c d:Nat) (e:OA) (f g:Nat) (h:OA) (i j:Nat) (k:Int) (w:World) (K:KT) (Y4:YT):f49_s6 a c d e f g h i j k w K Y4=(Y4 (Env.mk 44 [(4,(Value.int .i64 (IntKind.wrap .i64 ((k:Int)+1)))),(3,(Value.slice a c d)),(0,(Value.slice e f g)),(2,(Value.slice h i j))] []) w):=Eq.trans SGe (by kernel_rfl)
theorem f49_s5_eq (d:OA) (e f:Nat) (g:OA) (h i:Nat) (c:Int) (j:OA) (k l:Nat) (w:World) (K:KT) (Y4:YT):f49_s5 d e f g h i c j k l w K Y4=(optS d (fun b0=>0≤(c:Int)∧(c:Int) < (e:Nat)∧LdA 6 (b0.add (Int.toNat c * 6)) w (fun c0=>CallL P 50 [(Value.agg c0)] w (fun d0 m=>∃ p:Bool,d0=(.bool p)∧BIf p (optS d (fun e0=>0≤(c:Int)∧(c:Int) < (e:Nat)∧∃ n:Int,m.cell? ((e0.add (Int.toNat c * 6)).add 3)=some (.int .u32 n)∧optS d (fun f0=>0≤(c:Int)∧(c:Int) < (e:Nat)∧∃ o:Int,m.cell? ((f0.add (Int.toNat c * 6)).add 5)=some (.int .i64 o)∧∃ q:Int,∃ r:World,(Builtin.min_ #[3,3] 3 [(Value.int .i64 (IntKind.wrap .i64 (((IntKind.wrap .i64 n):Int)+o))),(Value.int .i64 4294967296)].toArray).run P m=.ok (.int .i64 q) r∧∃ s:Array Value,(∀ wq,(Instr.build 148 [(0,(Value.int .i64 (IntKind.wrap .i64 n))),(1,(Value.int .i64 q))].toArray).run P wq=.ok (.agg s) wq)∧CallL P 79 [(Value.slice j k l),(Value.agg s)] r (fun g0 h0=>∃ (t:OA) (u v:Nat),g0=(.slice t u v)∧∃ x:Array Value,(∀ wq,(Instr.build 148 [(0,(Value.int .i64 0)),(1,(Value.int .i64 (IntKind.wrap .i64 (((IntKind.wrap .i64 (((IntKind.wrap .i64 n):Int)+o)):Int) - 4294967296))))].toArray).run P wq=.ok (.agg x) wq)∧CallL P 79 [(Value.slice t u v),(Value.agg x)] h0 (fun i0 j0=>∃ (y:OA) (z a0:Nat),i0=(.slice y z a0)∧f49_s6 y z a0 d e f g h i c j0 K Y4))))) (f49_s6 j k l d e f g h i c m K Y4))))):=Eq.trans SGe (Eq.trans (CSs [3,0,2,4] (f49_k7 K Y4) (by kernel_rfl)) (Eq.trans (CSb 1 [2,3,0,4] (f49_k8 K Y4) (by kernel_rfl)) (Eq.trans (CSs [18,0,2,4,3] (f49_k9 K Y4) (by kernel_rfl)) (by kernel_rfl))))
def f49_s7 (a:OA) (b c:Nat) (w:World) (K:KT):Prop:=SG P (cA c49 15) none [2] [2] (f49_kb K) (Env.mk 44 [(3,(VS a b c))] []) w
abbrev f49_k13 (K:KT):Exit→YT:=kseq P (cA c49 30) (cA c49 31) none [2] [2] (f49_kb K)
theorem f49_s7_eq (c:OA) (d e:Nat) (w:World) (K:KT):f49_s7 c d e w K=(K (Value.slice c d e) w):=Eq.trans SGe (Eq.trans (CSs [2] (f49_k13 K) (by kernel_rfl)) (by kernel_rfl))
theorem f49_lb4_eq (c:Int) (d:OA) (e f:Nat) (g:OA) (h i:Nat) (j:OA) (k l:Nat) (w:World) (K:KT) (Y4:YT):f49_lb4 c d e f g h i j k l w K Y4=(∃ m:Int,(∀ wq,Ext w wq→(Builtin.len_ #[22] 3 [(Value.slice g h i)].toArray).run P wq=.ok (.int .i64 m) wq)∧BIf (decide ((c:Int) < m)) (f49_s5 g h i j k l c d e f w K Y4) (f49_s7 d e f w K)):=Eq.trans SGe (Eq.trans (CSs [0,2,4,3] (f49_k5 K Y4) (by kernel_rfl)) (Eq.trans (CSs [11,0,2,4,3] (f49_k6 K Y4) (by kernel_rfl)) (by kernel_rfl)))
theorem f49_s3_eq (a:Int) (c:OA) (d e:Nat) (l:OA) (m n:Nat) (f:OA) (g h:Nat) (i:OA) (j k:Nat) (w:World) (K:KT):f49_s3 a c d e l m n f g h i j k w K=(LoopE (f49_lp4 K) (Env.mk 44 [(4,(Value.int .i64 a)),(3,(Value.slice c d e)),(0,(Value.slice i j k)),(2,(Value.slice f g h))] []) w):=Eq.trans (b:=CS P (cA c49 29) none [3] [2] (f49_k2 K) (Env.mk 44 [(4,(VI a)),(3,(VS c d e)),(7,(VS l m n)),(2,(VS f g h)),(0,(VS i j k))] []) w) (by kernel_rfl) (Eq.trans (CSb 0 [2,3] (f49_k4 K) (by kernel_rfl)) ((CS_loop' (b:=(cA c49 116)) (X':=[2,3]) (H:=[4,3,0,2]) (by kernel_rfl) (by kernel_rfl) (by kernel_rfl)).trans (by kernel_rfl)))
theorem f49_s2_eq (c:OA) (d e:Nat) (f:OA) (g h:Nat) (i:OA) (j k:Nat) (l:OA) (m n:Nat) (w:World) (K:KT):f49_s2 c d e f g h i j k l m n w K=(f49_s3 0 c d e f g h i j k l m n w K):=Eq.trans (b:=CS P (cA c49 7) none [2] [2] (f49_kb K) (Env.mk 44 [(3,(VS c d e)),(7,(VS f g h)),(2,(VS i j k)),(0,(VS l m n))] []) w) (by kernel_rfl) (Eq.trans (CSs [3] (f49_k2 K) (by kernel_rfl)) (Eq.trans (CSs [4,3,0,2] (f49_k3 K) (by kernel_rfl)) (by kernel_rfl)))
theorem f49_s1_eq (c:OA) (d e:Nat) (f:OA) (g h:Nat) (w:World) (K:KT):f49_s1 c d e f g h w K=(∃ (i:OA) (j k:Nat),∃ l:World,(Instr.buildSlice 127 0 ([]:List (Nat × Value)).toArray).run P w=.ok (.slice i j k) l∧f49_s2 i j k i j k c d e f g h l K):=Eq.trans (b:=CS P (cA c49 3) none [2] [2] (f49_kb K) (Env.mk 44 [(2,(VS c d e)),(0,(VS f g h))] []) w) (by kernel_rfl) (Eq.trans (CSs [3,0,2] (f49_k1 K) (by kernel_rfl)) (by kernel_rfl))
theorem f49_s0_eq (c:OA) (d e:Nat) (w:World) (K:KT):f49_s0 c d e w K=(f49_s1 none 0 0 c d e w K):=Eq.trans (b:=CS P (cA c49 1) none [2] [2] (f49_kb K) (Env.mk 44 [(0,(VS c d e))] []) w) (by kernel_rfl) (Eq.trans (CSs [0,2] (f49_k0 K) (by kernel_rfl)) (by kernel_rfl))
theorem f49_eq (a:OA) (b c:Nat) (w:World) (K:KT):f49 a b c w K=(f49_s0 a b c w K):=by kernel_rfl
theorem f49_ok (a:OA) (b c:Nat) (w:World) (K:KT) (h:f49 a b c w K):CallL P 49 [(Value.slice a b c)] w K:=okCS c49 Tryz.func49 (by kernel_rfl) (by kernel_rfl) h
noncomputable def c48:Code:=bodyOf Tryz.f48
noncomputable def rs48:List ResultVar:=Tryz.f48.results.toList
abbrev f48_kb (K:KT):Exit→YT:=bodyK P rs48 K
def f48 (a:OA) (b c:Nat) (w:World) (K:KT):Prop:=CS P c48 none [2] [2] (f48_kb K) (env0 25 [(VS a b c)]) w
abbrev f48_k2 (K:KT):Exit→YT:=kseq P (cA c48 14) (cA c48 15) none [2] [2] (f48_kb K)
abbrev f48_k4 (K:KT):Exit→YT:=kblock 0 (f48_k2 K)
def f48_lp0 (K:KT) (Y0:YT) (e:Env) (w:World):Prop:=Join (fun e w=>CS P (cA c48 116) none [4,0,3,2] [2,3] (kloop [4,0,3,2] Y0 (f48_k4 K)) e w) e w
abbrev f48_kl0 (K:KT) (Y0:YT):Exit→YT:=kloop [4,0,3,2] Y0 (f48_k4 K)
def f48_lb0 (a:Int) (b:OA) (c d:Nat) (f g:Int) (w:World) (K:KT) (Y0:YT):Prop:=SG P (cA c48 116) none [4,0,3,2] [2,3] (f48_kl0 K Y0) (Env.mk 25 [(4,(VI a)),(0,(VS b c d)),(3,(VI f)),(2,(VI g))] []) w
def f48_s1 (a:OA) (b c:Nat) (d f g:Int) (w:World) (K:KT) (Y0:YT):Prop:=SG P (cA c48 233) none [4,0,3,2] [2,3] (f48_kl0 K Y0) (Env.mk 25 [(0,(VS a b c)),(2,(VI d)),(4,(VI f)),(3,(VI g))] []) w
def f48_s2 (a:OA) (b c:Nat) (d f g:Int) (w:World) (K:KT) (Y0:YT):Prop:=SG P (cA c48 467) none [4,0,3,2] [2,3] (f48_kl0 K Y0) (Env.mk 25 [(0,(VS a b c)),(3,(VI d)),(2,(VI f)),(4,(VI g))] []) w
theorem f48_s2_eq (a:OA) (b c:Nat) (d e f:Int) (w:World) (K:KT) (Y0:YT):f48_s2 a b c d e f w K Y0=(Y0 (Env.mk 25 [(4,(Value.int .i64 (IntKind.wrap .i64 ((f:Int)+1)))),(0,(Value.slice a b c)),(3,(Value.int .i64 d)),(2,(Value.int .i64 e))] []) w):=by kernel_rfl
theorem f48_s1_eq (b:OA) (c d:Nat) (e a f:Int) (w:World) (K:KT) (Y0:YT):f48_s1 b c d e a f w K Y0=(optS b (fun i=>0≤(a:Int)∧(a:Int) < (c:Nat)∧optS b (fun j=>0≤(a:Int)∧(a:Int) < (c:Nat)∧∃ g:Int,w.drew.cell? ((i.add (Int.toNat a * 2)).add 1)=some (.int .i64 g)∧∃ h:Int,w.drew.cell? (j.add (Int.toNat a * 2))=some (.int .i64 h)∧f48_s2 b c d (IntKind.wrap .i64 ((f:Int)+(IntKind.wrap .i64 ((g:Int) - h)))) e a w.drew K Y0))):=by kernel_rfl
def f48_s3 (a:Int) (w:World) (K:KT):Prop:=SG P (cA c48 15) none [2] [2] (f48_kb K) (Env.mk 25 [(3,(VI a))] []) w
theorem f48_s3_eq (a:Int) (w:World) (K:KT):f48_s3 a w K=(K (Value.int .i64 a) w):=by kernel_rfl
theorem f48_lb0_eq (a:Int) (b:OA) (c d:Nat) (e f:Int) (w:World) (K:KT) (Y0:YT):f48_lb0 a b c d e f w K Y0=(∃ g:Int,(∀ wq,Ext w wq→(Builtin.len_ #[127] 3 [(Value.slice b c d)].toArray).run P wq=.ok (.int .i64 g) wq)∧BIf (decide ((a:Int) < g)) (f48_s1 b c d f a e w K Y0) (f48_s3 e w K)):=by kernel_rfl
theorem f48_eq (a:OA) (b c:Nat) (w:World) (K:KT):f48 a b c w K=(LoopE (f48_lp0 K) (Env.mk 25 [(4,(Value.int .i64 0)),(0,(Value.slice a b c)),(3,(Value.int .i64 0)),(2,(Value.int .i64 0))] []) w):=by kernel_rfl
theorem f48_ok (a:OA) (b c:Nat) (w:World) (K:KT) (h:f48 a b c w K):CallL P 48 [(Value.slice a b c)] w K:=okCS c48 Tryz.func48 (by kernel_rfl) (by kernel_rfl) h
noncomputable def c26:Code:=bodyOf Tryz.f26
noncomputable def rs26:List ResultVar:=Tryz.f26.results.toList
abbrev f26_kb (K:KT):Exit→YT:=bodyK P rs26 K
def f26 (a:OA) (b c:Nat) (w:World) (K:KT):Prop:=CS P c26 none [2,3] [2,3] (f26_kb K) (env0 47 [(VS a b c)]) w
def f26_s0 (a:OA) (b c:Nat) (w:World) (K:KT):Prop:=CS P (cA c26 1) none [2,3] [2,3] (f26_kb K) (Env.mk 47 [(0,(VS a b c))] []) w
abbrev f26_k0 (K:KT):Exit→YT:=kseq P (cA c26 2) (cA c26 3) none [2,3] [2,3] (f26_kb K)
def f26_s1 (a:Int) (b:OA) (c d:Nat) (e:OA) (f g:Nat) (w:World) (K:KT):Prop:=CS P (cA c26 3) none [2,3] [2,3] (f26_kb K) (Env.mk 47 [(3,(VI a)),(2,(VS b c d)),(0,(VS e f g))] []) w
abbrev f26_k1 (K:KT):Exit→YT:=kseq P (cA c26 6) (cA c26 7) none [2,3] [2,3] (f26_kb K)
abbrev f26_k2 (K:KT):Exit→YT:=kseq P (cA c26 12) (cA c26 13) none [2,3,0] [2,3] (f26_k1 K)
def f26_s2 (a:OA) (b c:Nat) (d:Int) (f:OA) (g h:Nat) (w:World) (K:KT):Prop:=SG P (cA c26 7) none [2,3] [2,3] (f26_kb K) (Env.mk 47 [(2,(VS a b c)),(3,(VI d)),(0,(VS f g h))] []) w
abbrev f26_k5 (K:KT):Exit→YT:=kseq P (cA c26 14) (cA c26 15) none [2,3] [2,3] (f26_kb K)
def f26_s3 (a:OA) (b c:Nat) (d:OA) (e f:Nat) (g:OA) (h i:Nat) (j:OA) (k l:Nat) (m:Int) (n:OA) (o p:Nat) (w:World) (K:KT):Prop:=CS P (cA c26 15) none [2,3] [2,3] (f26_kb K) (Env.mk 47 [(5,(VS a b c)),(16,(VS d e f)),(15,(VS g h i)),(2,(VS j k l)),(3,(VI m)),(0,(VS n o p))] []) w
abbrev f26_k6 (K:KT):Exit→YT:=kseq P (cA c26 30) (cA c26 31) none [2,3] [2,3] (f26_kb K)
abbrev f26_k7 (K:KT):Exit→YT:=kseq P (cA c26 60) (cA c26 61) none [2,3,5] [2,3] (f26_k6 K)
def f26_s4 (a:OA) (b c:Nat) (d:Int) (f:OA) (g h:Nat) (w:World) (K:KT):Prop:=SG P (cA c26 31) none [2,3] [2,3] (f26_kb K) (Env.mk 47 [(2,(VS a b c)),(3,(VI d)),(5,(VS f g h))] []) w
abbrev f26_k9 (K:KT):Exit→YT:=kseq P (cA c26 62) (cA c26 63) none [2,3] [2,3] (f26_kb K)
def f26_s5 (a:OA) (b c:Nat) (d:OA) (e f:Nat) (g:OA) (h i:Nat) (j:Int) (k:OA) (l m:Nat) (w:World) (K:KT):Prop:=CS P (cA c26 63) none [2,3] [2,3] (f26_kb K) (Env.mk 47 [(6,(VS a b c)),(20,(VS d e f)),(2,(VS g h i)),(3,(VI j)),(5,(VS k l m))] []) w
abbrev f26_k10 (K:KT):Exit→YT:=kseq P (cA c26 126) (cA c26 127) none [2,3] [2,3] (f26_kb K)
abbrev f26_k11 (K:KT):Exit→YT:=kseq P (cA c26 252) (cA c26 253) none [6] [2,3] (f26_k10 K)
def f26_s6 (a:Int) (b:OA) (c d:Nat) (e:OA) (f g:Nat) (h:OA) (i j:Nat) (k:Int) (l:OA) (m n:Nat) (w:World) (K:KT):Prop:=CS P (cA c26 253) none [6] [2,3] (f26_k10 K) (Env.mk 47 [(7,(VI a)),(6,(VS b c d)),(20,(VS e f g)),(2,(VS h i j)),(3,(VI k)),(5,(VS l m n))] []) w
abbrev f26_k12 (K:KT):Exit→YT:=kblock 0 (f26_k10 K)
def f26_lp7 (K:KT) (Y7:YT) (e:Env) (w:World):Prop:=Join (fun e w=>CS P (cA c26 1012) none [6,2,3,7,5] [2,3,6] (kloop [6,2,3,7,5] Y7 (f26_k12 K)) e w) e w
abbrev f26_kl7 (K:KT) (Y7:YT):Exit→YT:=kloop [6,2,3,7,5] Y7 (f26_k12 K)
def f26_lb7 (a:OA) (b c:Nat) (d:OA) (f g:Nat) (h i:Int) (j:OA) (k l:Nat) (w:World) (K:KT) (Y7:YT):Prop:=SG P (cA c26 1012) none [6,2,3,7,5] [2,3,6] (f26_kl7 K Y7) (Env.mk 47 [(6,(VS a b c)),(2,(VS d f g)),(3,(VI h)),(7,(VI i)),(5,(VS j k l))] []) w
abbrev f26_k13 (K:KT) (Y7:YT):Exit→YT:=kseq P (cA c26 2024) (cA c26 2025) none [6,2,3,7,5] [2,3,6] (f26_kl7 K Y7)
abbrev f26_k14 (K:KT) (Y7:YT):Exit→YT:=kseq P (cA c26 4048) (cA c26 4049) none [6,2,3,5,7] [2,3,6] (f26_k13 K Y7)
def f26_s8 (a:OA) (b c:Nat) (d:OA) (f g:Nat) (h:Int) (i:OA) (j k:Nat) (l:Int) (w:World) (K:KT) (Y7:YT):Prop:=SG P (cA c26 2025) none [6,2,3,7,5] [2,3,6] (f26_kl7 K Y7) (Env.mk 47 [(6,(VS a b c)),(2,(VS d f g)),(3,(VI h)),(5,(VS i j k)),(7,(VI l))] []) w
abbrev f26_k15 (K:KT) (Y7:YT):Exit→YT:=kseq P (cA c26 4050) (cA c26 4051) none [6,2,3,7,5] [2,3,6] (f26_kl7 K Y7)
abbrev f26_k16 (K:KT) (Y7:YT):Exit→YT:=kblock 1 (f26_k15 K Y7)
abbrev f26_k17 (K:KT) (Y7:YT):Exit→YT:=kseq P (cA c26 16200) (cA c26 16201) none [6,2,3,5,7] [2,3,6,5,7] (f26_k16 K Y7)
def f26_s9 (a b:Int) (c d:Addr) (e:Int) (f:OA) (g h:Nat) (i:OA) (j k:Nat) (l:OA) (m n:Nat) (o:Int) (p:OA) (q r:Nat) (s:Int) (w:World) (K:KT) (Y7:YT):Prop:=CS P (cA c26 16201) none [6,2,3,5,7] [2,3,6,5,7] (f26_k16 K Y7) (Env.mk 47 [(8,(VI a)),(31,(VI b)),(30,(VP (some c))),(29,(VP (some d))),(28,(VI e)),(27,(VS f g h)),(6,(VS i j k)),(2,(VS l m n)),(3,(VI o)),(5,(VS p q r)),(7,(VI s))] []) w
abbrev f26_k18 (K:KT) (Y7:YT):Exit→YT:=kblock 2 (f26_k16 K Y7)
def f26_lp10 (K:KT) (Y7 Y10:YT) (e:Env) (w:World):Prop:=Join (fun e w=>CS P (cA c26 64804) none [8,6,2,3,5,7] [2,3,6,5,7] (kloop [8,6,2,3,5,7] Y10 (f26_k18 K Y7)) e w) e w
abbrev f26_kl10 (K:KT) (Y7 Y10:YT):Exit→YT:=kloop [8,6,2,3,5,7] Y10 (f26_k18 K Y7)
def f26_lb10 (a:Int) (b:OA) (c d:Nat) (f:OA) (g h:Nat) (i:Int) (j:OA) (k l:Nat) (m:Int) (w:World) (K:KT) (Y7 Y10:YT):Prop:=SG P (cA c26 64804) none [8,6,2,3,5,7] [2,3,6,5,7] (f26_kl10 K Y7 Y10) (Env.mk 47 [(8,(VI a)),(6,(VS b c d)),(2,(VS f g h)),(3,(VI i)),(5,(VS j k l)),(7,(VI m))] []) w
abbrev f26_k19 (K:KT) (Y7 Y10:YT):Exit→YT:=kseq P (cA c26 129608) (cA c26 129609) none [8,6,2,3,5,7] [2,3,6,5,7] (f26_kl10 K Y7 Y10)
abbrev f26_k20 (K:KT) (Y7 Y10:YT):Exit→YT:=kseq P (cA c26 259216) (cA c26 259217) none [2,3,5,7,8,6] [2,3,6,5,7] (f26_k19 K Y7 Y10)
def f26_s11 (a:OA) (b c:Nat) (d:Int) (f:OA) (g h:Nat) (i j:Int) (k:OA) (l m:Nat) (w:World) (K:KT) (Y7 Y10:YT):Prop:=SG P (cA c26 129609) none [8,6,2,3,5,7] [2,3,6,5,7] (f26_kl10 K Y7 Y10) (Env.mk 47 [(2,(VS a b c)),(3,(VI d)),(5,(VS f g h)),(7,(VI i)),(8,(VI j)),(6,(VS k l m))] []) w
abbrev f26_k21 (K:KT) (Y7 Y10:YT):Exit→YT:=kseq P (cA c26 259218) (cA c26 259219) none [8,6,2,3,5,7] [2,3,6,5,7] (f26_kl10 K Y7 Y10)
abbrev f26_k22 (K:KT) (Y7 Y10:YT):Exit→YT:=kblock 3 (f26_k21 K Y7 Y10)
def f26_s12 (a:OA) (b c:Nat) (d:OA) (f g:Nat) (h:Int) (i:OA) (j k:Nat) (l m:Int) (w:World) (K:KT) (Y7 Y10:YT):Prop:=SG P (cA c26 259219) none [8,6,2,3,5,7] [2,3,6,5,7] (f26_kl10 K Y7 Y10) (Env.mk 47 [(6,(VS a b c)),(2,(VS d f g)),(3,(VI h)),(5,(VS i j k)),(7,(VI l)),(8,(VI m))] []) w
theorem f26_s12_eq (a:OA) (c d:Nat) (e:OA) (f g:Nat) (h:Int) (i:OA) (j k:Nat) (l m:Int) (w:World) (K:KT) (Y7 Y10:YT):f26_s12 a c d e f g h i j k l m w K Y7 Y10=(Y10 (Env.mk 47 [(8,(Value.int .i64 (IntKind.wrap .i64 ((m:Int)+1)))),(6,(Value.slice a c d)),(2,(Value.slice e f g)),(3,(Value.int .i64 h)),(5,(Value.slice i j k)),(7,(Value.int .i64 l))] []) w):=Eq.trans SGe (by kernel_rfl)
theorem f26_s11_eq (d:OA) (e f:Nat) (g:Int) (h:OA) (i j:Nat) (k c:Int) (l:OA) (m n:Nat) (w:World) (K:KT) (Y7 Y10:YT):f26_s11 d e f g h i j k c l m n w K Y7 Y10=(sizesAre 1 [(Value.int .u32 (IntKind.wrap .u32 c))]∧NewC (([(Value.int .u32 (IntKind.wrap .u32 c))].map fun (v:Value)=>v.cells.toList).flatten.toArray) 43 w (fun s t=>∃ (o:OA) (p q:Nat),∃ r:World,(Builtin.append_ #[49,49] 49 [(Value.slice l m n),(Value.slice (some (Addr.mk s 0 none)) 1 1)].toArray).run P t=.ok (.slice o p q) r∧f26_s12 o p q d e f g h i j k c r K Y7 Y10)):=Eq.trans SGe (Eq.trans (CSs [6,2,3,5,7,8] (f26_k21 K Y7 Y10) (by kernel_rfl)) (Eq.trans (CSb 3 [2,3,6,5,7,8] (f26_k22 K Y7 Y10) (by kernel_rfl)) (by kernel_rfl)))
def f26_s13 (a:OA) (b c:Nat) (d:OA) (f g:Nat) (h:Int) (i:OA) (j k:Nat) (l:Int) (w:World) (K:KT) (Y7:YT):Prop:=SG P (cA c26 4051) none [6,2,3,7,5] [2,3,6] (f26_kl7 K Y7) (Env.mk 47 [(6,(VS a b c)),(2,(VS d f g)),(3,(VI h)),(5,(VS i j k)),(7,(VI l))] []) w
theorem f26_s13_eq (a:OA) (c d:Nat) (e:OA) (f g:Nat) (h:Int) (i:OA) (j k:Nat) (l:Int) (w:World) (K:KT) (Y7:YT):f26_s13 a c d e f g h i j k l w K Y7=(Y7 (Env.mk 47 [(6,(Value.slice a c d)),(2,(Value.slice e f g)),(3,(Value.int .i64 h)),(7,(Value.int .i64 (IntKind.wrap .i64 ((l:Int)+1)))),(5,(Value.slice i j k))] []) w):=Eq.trans SGe (by kernel_rfl)
theorem f26_lb10_eq (f:Int) (g:OA) (h i:Nat) (j:OA) (k l:Nat) (m:Int) (d:OA) (e n:Nat) (c:Int) (w:World) (K:KT) (Y7 Y10:YT):f26_lb10 f g h i j k l m d e n c w K Y7 Y10=(optS d (fun p=>0≤(c:Int)∧(c:Int) < (e:Nat)∧∃ o:Int,w.cell? ((p.add (Int.toNat c * 2)).add 1)=some (.int .i64 o)∧BIf (decide ((f:Int) < o)) (f26_s11 j k l m d e n c f g h i w K Y7 Y10) (f26_s13 g h i j k l m d e n c w K Y7))):=Eq.trans SGe (Eq.trans (CSs [2,3,5,7,8,6] (f26_k19 K Y7 Y10) (by kernel_rfl)) (Eq.trans (CSs [38,2,3,5,7,8,6] (f26_k20 K Y7 Y10) (by kernel_rfl)) (by kernel_rfl)))
theorem f26_s9_eq (a n:Int) (o p:Addr) (q:Int) (r:OA) (s t:Nat) (c:OA) (d e:Nat) (f:OA) (g h:Nat) (i:Int) (j:OA) (k l:Nat) (m:Int) (w:World) (K:KT) (Y7:YT):f26_s9 a n o p q r s t c d e f g h i j k l m w K Y7=(LoopE (f26_lp10 K Y7) (Env.mk 47 [(8,(Value.int .i64 a)),(6,(Value.slice c d e)),(2,(Value.slice f g h)),(3,(Value.int .i64 i)),(5,(Value.slice j k l)),(7,(Value.int .i64 m))] []) w):=Eq.trans (b:=CS P (cA c26 16201) none [6,2,3,5,7] [2,3,6,5,7] (f26_k16 K Y7) (Env.mk 47 [(8,(VI a)),(31,(VI n)),(30,(VP (some o))),(29,(VP (some p))),(28,(VI q)),(27,(VS r s t)),(6,(VS c d e)),(2,(VS f g h)),(3,(VI i)),(5,(VS j k l)),(7,(VI m))] []) w) (by kernel_rfl) (Eq.trans (CSb 2 [2,3,6,5,7] (f26_k18 K Y7) (by kernel_rfl)) ((CS_loop' (b:=(cA c26 64804)) (X':=[2,3,6,5,7]) (H:=[8,6,2,3,5,7]) (by kernel_rfl) (by kernel_rfl) (by kernel_rfl)).trans (by kernel_rfl)))
theorem f26_s8_eq (g:OA) (h i:Nat) (j:OA) (k l:Nat) (m:Int) (d:OA) (e f:Nat) (c:Int) (w:World) (K:KT) (Y7:YT):f26_s8 g h i j k l m d e f c w K Y7=(optS d (fun n=>0≤(c:Int)∧(c:Int) < (e:Nat)∧∃ o:Int,w.cell? (n.add (Int.toNat c * 2))=some (.int .i64 o)∧f26_s9 o o (n.add (Int.toNat c * 2)) (n.add (Int.toNat c * 2)) c d e f g h i j k l m d e f c w K Y7)):=Eq.trans SGe (Eq.trans (CSs [6,2,3,5,7] (f26_k15 K Y7) (by kernel_rfl)) (Eq.trans (CSb 1 [2,3,6,5,7] (f26_k16 K Y7) (by kernel_rfl)) (Eq.trans (CSs [8,6,2,3,5,7] (f26_k17 K Y7) (by kernel_rfl)) (by kernel_rfl))))
def f26_s14 (a:OA) (b c:Nat) (w:World) (K:KT):Prop:=SG P (cA c26 127) none [2,3] [2,3] (f26_kb K) (Env.mk 47 [(6,(VS a b c))] []) w
abbrev f26_k23 (K:KT):Exit→YT:=kseq P (cA c26 254) (cA c26 255) none [2,3] [2,3] (f26_kb K)
theorem f26_s14_eq (c:OA) (d e:Nat) (w:World) (K:KT):f26_s14 c d e w K=(K (Value.tuple [(Value.slice c d e),(Value.int .i64 0)].toArray) w):=Eq.trans SGe (Eq.trans (CSs [2,3] (f26_k23 K) (by kernel_rfl)) (by kernel_rfl))
theorem f26_lb7_eq (c:OA) (d e:Nat) (j:OA) (k l:Nat) (m f:Int) (g:OA) (h i:Nat) (w:World) (K:KT) (Y7:YT):f26_lb7 c d e j k l m f g h i w K Y7=(∃ n:Int,(∀ wq,Ext w wq→(Builtin.len_ #[127] 3 [(Value.slice g h i)].toArray).run P wq=.ok (.int .i64 n) wq)∧BIf (decide ((f:Int) < n)) (f26_s8 c d e j k l m g h i f w K Y7) (f26_s14 c d e w K)):=Eq.trans SGe (Eq.trans (CSs [6,2,3,5,7] (f26_k13 K Y7) (by kernel_rfl)) (Eq.trans (CSs [24,6,2,3,5,7] (f26_k14 K Y7) (by kernel_rfl)) (by kernel_rfl)))
theorem f26_s6_eq (a:Int) (c:OA) (d e:Nat) (m:OA) (n o:Nat) (f:OA) (g h:Nat) (i:Int) (j:OA) (k l:Nat) (w:World) (K:KT):f26_s6 a c d e m n o f g h i j k l w K=(LoopE (f26_lp7 K) (Env.mk 47 [(6,(Value.slice c d e)),(2,(Value.slice f g h)),(3,(Value.int .i64 i)),(7,(Value.int .i64 a)),(5,(Value.slice j k l))] []) w):=Eq.trans (b:=CS P (cA c26 253) none [6] [2,3] (f26_k10 K) (Env.mk 47 [(7,(VI a)),(6,(VS c d e)),(20,(VS m n o)),(2,(VS f g h)),(3,(VI i)),(5,(VS j k l))] []) w) (by kernel_rfl) (Eq.trans (CSb 0 [2,3,6] (f26_k12 K) (by kernel_rfl)) ((CS_loop' (b:=(cA c26 1012)) (X':=[2,3,6]) (H:=[6,2,3,7,5]) (by kernel_rfl) (by kernel_rfl) (by kernel_rfl)).trans (by kernel_rfl)))
theorem f26_s5_eq (c:OA) (d e:Nat) (f:OA) (g h:Nat) (i:OA) (j k:Nat) (l:Int) (m:OA) (n o:Nat) (w:World) (K:KT):f26_s5 c d e f g h i j k l m n o w K=(f26_s6 0 c d e f g h i j k l m n o w K):=Eq.trans (b:=CS P (cA c26 63) none [2,3] [2,3] (f26_kb K) (Env.mk 47 [(6,(VS c d e)),(20,(VS f g h)),(2,(VS i j k)),(3,(VI l)),(5,(VS m n o))] []) w) (by kernel_rfl) (Eq.trans (CSs [6] (f26_k10 K) (by kernel_rfl)) (Eq.trans (CSs [6,2,3,7,5] (f26_k11 K) (by kernel_rfl)) (by kernel_rfl)))
theorem f26_s4_eq (c:OA) (d e:Nat) (f:Int) (g:OA) (h i:Nat) (w:World) (K:KT):f26_s4 c d e f g h i w K=(∃ (j:OA) (k l:Nat),∃ m:World,(Instr.buildSlice 49 0 ([]:List (Nat × Value)).toArray).run P w=.ok (.slice j k l) m∧f26_s5 j k l j k l c d e f g h i m K):=Eq.trans SGe (Eq.trans (CSs [6,2,3,5] (f26_k9 K) (by kernel_rfl)) (by kernel_rfl))
theorem f26_s3_eq (c:OA) (d e:Nat) (j:OA) (k l:Nat) (m:OA) (n o:Nat) (f:OA) (g h:Nat) (i:Int) (p:OA) (q r:Nat) (w:World) (K:KT):f26_s3 c d e j k l m n o f g h i p q r w K=(CallL P 48 [(Value.slice c d e)] w (fun u s=>∃ t:Int,u=(.int .i64 t)∧BIf (decide ((t:Int) > 20000)) (K (Value.tuple [(Value.slice none 0 0),(Value.int .i64 2)].toArray) s) (f26_s4 f g h i c d e s K))):=Eq.trans (b:=CS P (cA c26 15) none [2,3] [2,3] (f26_kb K) (Env.mk 47 [(5,(VS c d e)),(16,(VS j k l)),(15,(VS m n o)),(2,(VS f g h)),(3,(VI i)),(0,(VS p q r))] []) w) (by kernel_rfl) (Eq.trans (CSs [2,3,5] (f26_k6 K) (by kernel_rfl)) (Eq.trans (CSs [19,2,3,5] (f26_k7 K) (by kernel_rfl)) (by kernel_rfl)))
theorem f26_s2_eq (f:OA) (g h:Nat) (i:Int) (c:OA) (d e:Nat) (w:World) (K:KT):f26_s2 f g h i c d e w K=(CallL P 49 [(Value.slice c d e)] w (fun m n=>∃ (j:OA) (k l:Nat),m=(.slice j k l)∧f26_s3 j k l j k l c d e f g h i c d e n K)):=Eq.trans SGe (Eq.trans (CSs [2,3,5] (f26_k5 K) (by kernel_rfl)) (by kernel_rfl))
theorem f26_s1_eq (f:Int) (g:OA) (h i:Nat) (c:OA) (d e:Nat) (w:World) (K:KT):f26_s1 f g h i c d e w K=(CallL P 17 [(Value.slice c d e)] w (fun m k=>∃ l:Array Value,m=(.agg l)∧∃ j:Int,l[19]?=some (.int .i64 j)∧BIf ((j:Int) != 0) (K (Value.tuple [(Value.slice none 0 0),(Value.int .i64 j)].toArray) k) (f26_s2 g h i f c d e k K))):=Eq.trans (b:=CS P (cA c26 3) none [2,3] [2,3] (f26_kb K) (Env.mk 47 [(3,(VI f)),(2,(VS g h i)),(0,(VS c d e))] []) w) (by kernel_rfl) (Eq.trans (CSs [2,3,0] (f26_k1 K) (by kernel_rfl)) (Eq.trans (CSs [4,2,3,0] (f26_k2 K) (by kernel_rfl)) (by kernel_rfl)))
theorem f26_s0_eq (c:OA) (d e:Nat) (w:World) (K:KT):f26_s0 c d e w K=(f26_s1 0 none 0 0 c d e w K):=Eq.trans (b:=CS P (cA c26 1) none [2,3] [2,3] (f26_kb K) (Env.mk 47 [(0,(VS c d e))] []) w) (by kernel_rfl) (Eq.trans (CSs [2,3,0] (f26_k0 K) (by kernel_rfl)) (by kernel_rfl))
theorem f26_eq (a:OA) (b c:Nat) (w:World) (K:KT):f26 a b c w K=(f26_s0 a b c w K):=by kernel_rfl
theorem f26_ok (a:OA) (b c:Nat) (w:World) (K:KT) (h:f26 a b c w K):CallL P 26 [(Value.slice a b c)] w K:=okCS c26 Tryz.func26 (by kernel_rfl) (by kernel_rfl) h
end Go.Fx.Tryz
namespace Go.Fx.Mo
abbrev Prt:=Int × Int
def mStep (s:List Prt × Bool × Prt) (p:Prt):List Prt × Bool × Prt:=
 if p.2 < s.2.2.1 then (s.1++[p],s.2.1,s.2.2) else
 if p.1 > s.2.2.2 then ((if s.2.1 then s.1 else s.1++[s.2.2])++[p],true,s.2.2) else
 (s.1,s.2.1,(if p.1 < s.2.2.1 then p.1 else s.2.2.1,if s.2.2.2 < p.2 then p.2 else s.2.2.2))
def mFold:List Prt→List Prt × Bool × Prt→List Prt × Bool × Prt
 | [],s=>s
 | p::t,s=>mFold t (mStep s p)
def merged (l:List Prt) (x:Prt):List Prt:=
 if x.1≥x.2 then l else if (mFold l ([],false,x)).2.1 then (mFold l ([],false,x)).1 else (mFold l ([],false,x)).1++[(mFold l ([],false,x)).2.2]
theorem mStep_len (s:List Prt × Bool × Prt) (p:Prt):(mStep s p).1.length+(if (mStep s p).2.1 then 0 else 1)≤s.1.length+(if s.2.1 then 0 else 1)+1:=by
 obtain ⟨o,d,x⟩:=s
 unfold mStep
 dsimp only
 split
 ·simp; omega
 ·split
  ·cases d <;> simp
  ·simp
theorem mFold_len:∀ (l:List Prt) (s:List Prt × Bool × Prt),(mFold l s).1.length+(if (mFold l s).2.1 then 0 else 1)≤s.1.length+(if s.2.1 then 0 else 1)+l.length
 | [],s=>by
  show s.1.length+_≤s.1.length+_+0
  exact Nat.le_refl _
 | p::t,s=>by
  have h1:=mFold_len t (mStep s p)
  have h2:=mStep_len s p
  unfold mFold
  simp only [List.length_cons]
  omega
theorem merged_len (l:List Prt) (x:Prt):(merged l x).length≤l.length+1:=by
 unfold merged
 split
 ·omega
 ·have:=mFold_len l ([],false,x)
  split
  ·rename_i h
   rw [h] at this
   simp at this; omega
  ·rename_i h
   simp at h
   rw [h] at this
   simp at this ⊢; omega
end Go.Fx.Mo
namespace Go.Fx.Tryz
open Go Go.Fx Go.Fx.Mo
open Go.Proofs
variable {w0 w:World} {H Y:HL} {K:KT}
set_option maxRecDepth 20000
def Prcs (p:Prt):List Value:=[I64 p.1,I64 p.2]
def prsCs (l:List Prt):List Value:=(l.map Prcs).flatten
theorem prs_at {l:List Prt} {i:Nat} (hi:i < l.length):((prsCs l).drop (i * 2)).take 2=Prcs l[i]:=flat_slice (f:=Prcs) (fun _ _=>rfl) hi
theorem prs_snoc (l:List Prt) (p:Prt):prsCs (l++[p])=prsCs l++Prcs p:=by simp [prsCs]
theorem bs169 (w:World):(Instr.buildSlice 127 0 ([]:List (Nat × Value)).toArray).run P w=.ok (.slice (some ⟨w.heap.size,0,none⟩) 0 0) (w.alloc (.cells #[] 148 (0,0))):=by kernel_rfl
theorem info173:P.info? 148=some Tryz.t148:=by kernel_rfl
theorem build173 (a b:Int) (wq:World):(Instr.build 148 [(0,(Value.int .i64 a)),(1,(Value.int .i64 b))].toArray).run P wq=.ok (.agg (Prcs (a,b)).toArray) wq:=by kernel_rfl
theorem run_len_169 {p:Option Addr} {l c:Nat} (wq:World):(Builtin.len_ #[127] 3 [Value.slice p l c].toArray).run P wq=.ok (.int .i64 l) wq:=run_len_slice p l c Tryz.underlying127 3
theorem run_max' (a b:Int) (wq:World):(Builtin.max_ #[3,3] 3 [Value.int .i64 a,Value.int .i64 b].toArray).run P wq=.ok (.int .i64 (if a < b then b else a)) wq:=by
 simp [Builtin.max_,Builtin.max2]
theorem app_part {A Lo:HL} {oa:Option Addr} {oc nb:Nat} {out:List Prt} {p:Prt} {t:TypeId} (h:St w0 w (A++(Lo++H))) (hS:SlO 2 148 (.slice oa out.length oc) out.length (prsCs out) Lo) (hN:New w0 Lo) {j:Nat} (hj:A[j]?=some (nb,Cs (Prcs p) t)) (hb:out.length < 1000000000) :
  ∃ g cap w' L',(Builtin.append_ #[127,127] 127 [.slice oa out.length oc,.slice (some ⟨nb,0,none⟩) 1 1].toArray).run P w=.ok (.slice (some ⟨g,0,none⟩) (out++[p]).length cap) w'∧
   SlO 2 148 (.slice (some ⟨g,0,none⟩) (out++[p]).length cap) (out++[p]).length (prsCs (out++[p])) L'∧St w0 w' (A++(L'++H))∧New w0 L':=by
 rw [show (out++[p]).length=out.length+1 by simp,prs_snoc]
 exact St.append (P:=P) 127 127 148 Tryz.t148 (.agg #[I64 0,I64 0]) 2 16 Tryz.underlying127 info173 rfl rfl rfl rfl (by omega) h hS hN hj (by simp [Prcs]) (by simp [Prcs,Value.oneCell']) (by simp [maxLen]; omega) (by omega)
set_option maxHeartbeats 4000000 in
theorem merged_ok {l:List Prt} {x:Prt} {la:Option Addr} {lc:Nat} {Ll:HL} (h:St w0 w (Ll++H)) (hl:SlO 2 148 (.slice la l.length lc) l.length (prsCs l) Ll) (hlN:New w0 Ll) (hb:l.length < 100000000)
  (hK:∀ w' a c L,SlO 2 148 (.slice a (merged l x).length c) (merged l x).length (prsCs (merged l x)) L→New w0 L→St w0 w' (L++H)→K (.slice a (merged l x).length c) w') :
  CallL P 79 [.slice la l.length lc,.agg (Prcs x).toArray] w K:=by
 refine f79_ok _ _ _ _ _ _ ?_
 rw [f79_eq,f79_s0_eq]
 refine h.newC fun n4 w1 hn4 h1=>?_
 rw [f79_s1_eq]
 refine ⟨x.1,by rw [h1.cell (k:=0) rfl]; rfl,x.2,by rw [add_lit',h1.cell (k:=0) rfl]; rfl,?_⟩
 rw [BIf_iff]
 constructor
 ·intro hge
  have hge:x.1≥x.2:=by simpa using hge
  have e:merged l x=l:=by unfold merged; rw [if_pos hge]
  rw [e] at hK
  exact hK w1 la lc Ll hl hlN (h1.tail hn4)
 ·intro hlt
  have hlt:¬ x.1≥x.2:=by simpa using hlt
  have e:merged l x=if (mFold l ([],false,x)).2.1 then (mFold l ([],false,x)).1 else (mFold l ([],false,x)).1++[(mFold l ([],false,x)).2.2]:=by unfold merged; rw [if_neg hlt]
  rw [f79_s2_eq]
  refine ⟨_,_,_,_,bs169 w1,?_⟩
  have h2:=h1.alloc (.cells #[] 148 (0,0))
  have hn:=h1.le
  generalize w1.heap.size=n at h2 hn
  have h2:St w0 (w1.alloc (.cells #[] 148 (0,0))) ((n4,Cs (Prcs x) 148)::([(n,Cs [] 148)]++(Ll++H))):=h2.perm (List.Perm.swap ..)
  rw [f79_s3_eq,f79_s4_eq,f79_s5_eq]
  refine ⟨fun m ee w=>∃ (i:Nat) (s:List Prt × Bool × Prt) (oa:Option Addr) (oc:Nat) (Lo:HL),i≤l.length∧m=l.length - i∧ee=Env.mk 81 [(7,I64 (i:Nat)),(0,.slice la l.length lc),(5,.slice oa s.1.length oc),(3,(Value.pointer (some (Addr.mk n4 0 none)))),(6,.bool s.2.1),(4,nilS)] []∧
    mFold (l.drop i) s=mFold l ([],false,x)∧s.1.length≤2 * i∧SlO 2 148 (.slice oa s.1.length oc) s.1.length (prsCs s.1) Lo∧New w0 Lo∧St w0 w ((n4,Cs (Prcs s.2.2) 148)::(Lo++(Ll++H))),
   ⟨l.length,0,([],false,x),_,_,_,by omega,rfl,rfl,rfl,by simp,slO_nil0 2 148 n,by simpa [New] using hn,h2⟩,?_⟩
  rintro m ee w4 ⟨i,⟨o,d,y⟩,oa,oc,Lo,hi,rfl,rfl,hfin,hob,hS,hN,hw⟩
  show f79_lb6 ..
  rw [f79_lb6_eq]
  refine ⟨l.length,fun wq _=>run_len_169 wq,?_⟩
  rw [BIf_iff]
  dsimp only at hob hS hw
  constructor
  ·intro hlt
   have hlt:i < l.length:=by simpa using hlt
   rw [f79_s7_eq]
   have hdrop:l.drop i=l[i]::l.drop (i+1):=List.drop_eq_getElem_cons hlt
   rw [hdrop,mFold] at hfin
   generalize hY:(fun e' w'=>∃ m,m < l.length - i∧∃ (i:Nat) (s:List Prt × Bool × Prt) (oa:Option Addr) (oc:Nat) (Lo:HL),i≤l.length∧m=l.length - i∧e'=Env.mk 81 [(7,I64 (i:Nat)),(0,.slice la l.length lc),(5,.slice oa s.1.length oc),(3,(Value.pointer (some (Addr.mk n4 0 none)))),(6,.bool s.2.1),(4,nilS)] []∧
    mFold (l.drop i) s=mFold l ([],false,x)∧s.1.length≤2 * i∧SlO 2 148 (.slice oa s.1.length oc) s.1.length (prsCs s.1) Lo∧New w0 Lo∧St w0 w' ((n4,Cs (Prcs s.2.2) 148)::(Lo++(Ll++H))))=Y6
   have next:∀ w5 (s:List Prt × Bool × Prt) oa oc Lo,mStep (o,d,y) l[i]=s→s.1.length≤2 * (i+1)→SlO 2 148 (.slice oa s.1.length oc) s.1.length (prsCs s.1) Lo→New w0 Lo→St w0 w5 ((n4,Cs (Prcs s.2.2) 148)::(Lo++(Ll++H)))→
     f79_s8 la l.length lc oa s.1.length oc (Addr.mk n4 0 none) s.2.1 none 0 0 (i:Nat) w5 K Y6:=by
    intro w5 s oa oc Lo hs hlen hS' hN' h5
    rw [f79_s8_eq,← hY]
    refine ⟨l.length - (i+1),by omega,i+1,s,oa,oc,Lo,by omega,rfl,?_,by rw [← hs]; exact hfin,hlen,hS',hN',h5⟩
    rw [wrap_i64 (by omega) (by omega)]; rfl
   have hd:=hw.drew
   obtain ⟨g,cc,hg,hld⟩:=slO_ldA hl (w:=w4.drew) (i:=i) (fun z hz=>hd.has _ _ (by simp [hz])) hlt
   obtain ⟨hsa,-⟩:la=some ⟨g,0,none⟩∧lc=cc:=by simpa using hg
   subst hsa
   have hrw:∀ {w':World},St w0 w' ((n4,Cs (Prcs y) 148)::(Lo++(Ll++H)))→∀ j,j < 2→w'.cell? (((Addr.mk g 0 none).add (Int.toNat (i:Int) * 2)).add j)=(Prcs l[i])[j]?:=fun {w'} h' j hj=>by
    have hr:Row w' 2 (.slice (some ⟨g,0,none⟩) l.length lc) l.length (prsCs l):=hl.row fun z hz=>h'.has _ _ (by simp [hz])
    obtain ⟨a,c,hac,hld'⟩:=hr.ldA hlt
    obtain ⟨rfl,-⟩:(⟨g,0,none⟩:Addr)=a∧lc=c:=by simpa using hac
    rcases hr.2 with ⟨_,h0⟩ | ⟨a,c,h1,h2⟩
    ·omega
    ·obtain ⟨rfl,-⟩:(⟨g,0,none⟩:Addr)=a∧lc=c:=by simpa using h1
     rw [add_add',Int.toNat_natCast,h2 _ (by omega)]
     have:=prs_at hlt
     rw [← this]
     simp [List.getElem?_take,hj]
   have r0:∀ {w':World},St w0 w' ((n4,Cs (Prcs y) 148)::(Lo++(Ll++H)))→w'.cell? ((Addr.mk g 0 none).add (Int.toNat (i:Int) * 2))=some (I64 l[i].1):=fun {w'} h'=>by
    have:=hrw h' 0 (by omega)
    rw [add_add',Nat.add_zero] at this
    exact this
   have r1:∀ {w':World},St w0 w' ((n4,Cs (Prcs y) 148)::(Lo++(Ll++H)))→w'.cell? (((Addr.mk g 0 none).add (Int.toNat (i:Int) * 2)).add 1)=some (I64 l[i].2):=fun {w'} h'=>hrw h' 1 (by omega)
   have x0:∀ {w':World},St w0 w' ((n4,Cs (Prcs y) 148)::(Lo++(Ll++H)))→w'.cell? (Addr.mk n4 0 none)=some (I64 y.1):=fun {w'} h'=>by rw [h'.cell (k:=0) rfl]; rfl
   have x1:∀ {w':World},St w0 w' ((n4,Cs (Prcs y) 148)::(Lo++(Ll++H)))→w'.cell? ((Addr.mk n4 0 none).add 1)=some (I64 y.2):=fun {w'} h'=>by rw [add_lit',h'.cell (k:=0) rfl]; rfl
   have ldp:∀ {w':World} {Q:Array Value→Prop},St w0 w' ((n4,Cs (Prcs y) 148)::(Lo++(Ll++H)))→Q (Prcs l[i]).toArray→LdA 2 ((Addr.mk g 0 none).add (Int.toNat (i:Int) * 2)) w' Q:=fun {w' Q} h' hq=>by
    obtain ⟨g',cc',hg',hld'⟩:=slO_ldA hl (w:=w') (i:=i) (fun z hz=>h'.has _ _ (by simp [hz])) hlt
    obtain ⟨hgg,-⟩:g=g'∧lc=cc':=by simpa using hg'
    subst hgg
    rw [Int.toNat_natCast]
    refine hld' _ ?_
    rw [prs_at hlt]; exact hq
   refine ⟨by omega,by omega,_,r1 hd,_,x0 hd,?_⟩
   rw [BIf_iff]
   constructor
   ·intro hb1
    have hb1:l[i].2 < y.1:=by simpa using hb1
    refine ⟨by omega,by omega,ldp hd ⟨⟨rfl,trivial⟩,?_⟩⟩
    refine hd.newC fun n58 w5 hn58 h5=>?_
    have h5:St w0 w5 (((n58,Cs (Prcs l[i]) 148)::[(n4,Cs (Prcs y) 148)])++(Lo++(Ll++H))):=h5
    obtain ⟨g',cap,w6,L',hru,hS',g6,hN'⟩:=app_part h5 hS hN (j:=0) rfl (by omega)
    refine ⟨_,_,_,w6,hru,?_⟩
    have hs:mStep (o,d,y) l[i]=(o++[l[i]],d,y):=by unfold mStep; rw [if_pos hb1]
    exact next w6 (o++[l[i]],d,y) _ _ L' hs (by simp; omega) hS' hN' (St.tail (b:=n58) g6 hn58)
   ·intro hb1
    have hb1:¬ l[i].2 < y.1:=by simpa using hb1
    have hd2:=hd.drew
    refine ⟨by omega,by omega,_,r0 hd2,_,x1 hd2,?_⟩
    rw [BIf_iff]
    constructor
    ·intro hb2
     have hb2:l[i].1 > y.2:=by simpa using hb2
     have s9:∀ w5 (o':List Prt) oa oc Lo',(if d then o else o++[y])=o'→SlO 2 148 (.slice oa o'.length oc) o'.length (prsCs o') Lo'→New w0 Lo'→St w0 w5 ((n4,Cs (Prcs y) 148)::(Lo'++(Ll++H)))→
       f79_s9 (some ⟨g,0,none⟩) l.length lc (Addr.mk n4 0 none) none 0 0 (i:Nat) oa o'.length oc w5 K Y6:=by
      intro w5 o' oa oc Lo' ho' hS' hN' h5
      have hol:o'.length≤2 * i+1:=by
       rw [← ho']
       split
       ·omega
       ·simp; omega
      rw [f79_s9_eq]
      refine ⟨by omega,by omega,?_⟩
      obtain ⟨g',cc',hg',hld'⟩:=slO_ldA hl (w:=w5) (i:=i) (fun z hz=>h5.has _ _ (by simp [hz])) hlt
      obtain ⟨hgg,-⟩:g=g'∧lc=cc':=by simpa using hg'
      subst hgg
      rw [Int.toNat_natCast]
      refine hld' _ ?_
      rw [prs_at hlt]
      refine ⟨⟨rfl,trivial⟩,?_⟩
      refine h5.newC fun n87 w6 hn87 h6=>?_
      have h6:St w0 w6 (((n87,Cs (Prcs l[i]) 148)::[(n4,Cs (Prcs y) 148)])++(Lo'++(Ll++H))):=h6
      obtain ⟨g2,cap,w7,L',hru,hS2,g7,hN2⟩:=app_part h6 hS' hN' (j:=0) rfl (by omega)
      refine ⟨_,_,_,w7,hru,?_⟩
      have hs:mStep (o,d,y) l[i]=(o'++[l[i]],true,y):=by unfold mStep; rw [if_neg hb1,if_pos hb2,← ho']
      exact next w7 (o'++[l[i]],true,y) _ _ L' hs (by simp; omega) hS2 hN2 (St.tail (b:=n87) g7 hn87)
     cases d
     ·rw [Bool.not_false,BIf_true]
      refine hd2.ldA (k:=0) (i:=0) rfl (by simp [Prcs]) ⟨⟨rfl,trivial⟩,?_⟩
      refine hd2.newC fun n74 w5 hn74 h5=>?_
      have h5:St w0 w5 (((n74,Cs (Prcs y) 148)::[(n4,Cs (Prcs y) 148)])++(Lo++(Ll++H))):=h5
      obtain ⟨g',cap,w6,L',hru,hS',g6,hN'⟩:=app_part h5 hS hN (j:=0) rfl (by omega)
      refine ⟨_,_,_,w6,hru,?_⟩
      exact s9 w6 (o++[y]) _ _ L' rfl hS' hN' (St.tail (b:=n74) g6 hn74)
     ·rw [Bool.not_true,BIf_false]
      exact s9 _ o oa oc Lo rfl hS hN hd2
    ·intro hb2
     have hb2:¬ l[i].1 > y.2:=by simpa using hb2
     have hd3:=hd2.drew
     refine ⟨by omega,by omega,by omega,by omega,?_⟩
     have p0:=r0 hd3
     have p1:=r1 hd3
     have q0:=x0 hd3
     have q1:=x1 hd3
     have fin:∃ cs:Array Value,(∀ wq,(Instr.build 148 [(0,(Value.int .i64 (if l[i].1 < y.1 then l[i].1 else y.1))),(1,(Value.int .i64 (if y.2 < l[i].2 then l[i].2 else y.2)))].toArray).run P wq=.ok (Value.agg cs) wq)∧
       StA 2 (Addr.mk n4 0 none) cs w4.drew.drew.drew (fun w5=>f79_s8 (some ⟨g,0,none⟩) l.length lc oa o.length oc (Addr.mk n4 0 none) d none 0 0 (i:Nat) w5 K Y6):=by
      refine ⟨_,fun wq=>build173 _ _ wq,?_⟩
      refine hd3.stA (k:=0) rfl rfl (by simp [Prcs]) (by simp [Prcs,Value.oneCell']) fun w5 h5=>?_
      have hs:mStep (o,d,y) l[i]=(o,d,(if l[i].1 < y.1 then l[i].1 else y.1,if y.2 < l[i].2 then l[i].2 else y.2)):=by unfold mStep; rw [if_neg hb1,if_neg hb2]
      exact next w5 (o,d,(if l[i].1 < y.1 then l[i].1 else y.1,if y.2 < l[i].2 then l[i].2 else y.2)) oa oc Lo hs (by simp; omega) hS hN h5
     clear next hK hfin hY r0 r1 x0 x1 ldp hrw
     repeat' first
      | exact fin
      | refine ⟨_,p0,?_⟩
      | refine ⟨_,p1,?_⟩
      | refine ⟨_,q0,?_⟩
      | refine ⟨_,q1,?_⟩
      | refine ⟨_,_,run_min _ _ _,?_⟩
      | refine ⟨_,_,run_max' _ _ _,?_⟩
      | refine ⟨?_,?_⟩
  ·intro hge
   have hge:l.length≤i:=by simpa using hge
   have:i=l.length:=by omega
   subst this
   rw [List.drop_length,mFold] at hfin
   rw [← hfin] at e
   rw [f79_s10_eq]
   have fin:∀ w5 (o':List Prt) oa oc Lo',merged l x=o'→SlO 2 148 (.slice oa o'.length oc) o'.length (prsCs o') Lo'→New w0 Lo'→St w0 w5 ((n4,Cs (Prcs y) 148)::(Lo'++(Ll++H)))→f79_s11 oa o'.length oc w5 K:=by
    intro w5 o' oa oc Lo' he hS' hN' h5
    rw [f79_s11_eq]
    subst he
    refine hK w5 oa oc Lo' hS' hN' ?_
    have h6:=(h5.tail hn4).perm (H':=Ll++(Lo'++H)) (perm_by fun f=>by simp only [List.map_append,List.sum_append]; omega)
    exact h6.sub hlN
   cases d
   ·rw [Bool.not_false,BIf_true]
    refine hw.ldA (k:=0) (i:=0) rfl (by simp [Prcs]) ⟨⟨rfl,trivial⟩,?_⟩
    refine hw.newC fun n74 w5 hn74 h5=>?_
    have h5:St w0 w5 (((n74,Cs (Prcs y) 148)::[(n4,Cs (Prcs y) 148)])++(Lo++(Ll++H))):=h5
    obtain ⟨g',cap,w6,L',hru,hS',g6,hN'⟩:=app_part h5 hS hN (j:=0) rfl (by omega)
    refine ⟨_,_,_,w6,hru,?_⟩
    exact fin w6 (o++[y]) _ _ L' e hS' hN' (St.tail (b:=n74) g6 hn74)
   ·rw [Bool.not_true,BIf_false]
    exact fin w4 o oa oc Lo e hS hN hw
end Go.Fx.Tryz
namespace Go.Fx.Mo
def pStep (ps:List Prt) (e:Ev):List Prt:=if acs e=true then
  merged (merged ps (w64 e.a,if 4294967296 < w64 (w64 e.a+e.n) then 4294967296 else w64 (w64 e.a+e.n))) (0,w64 (w64 (w64 e.a+e.n) - 4294967296)) else ps
def pFold:List Ev→List Prt→List Prt
 | [],ps=>ps
 | e::t,ps=>pFold t (pStep ps e)
def parts (l:List Ev):List Prt:=pFold l []
theorem pStep_len (ps:List Prt) (e:Ev):(pStep ps e).length≤ps.length+2:=by
 unfold pStep
 split
 ·have h1:=merged_len ps (w64 e.a,if 4294967296 < w64 (w64 e.a+e.n) then 4294967296 else w64 (w64 e.a+e.n))
  have h2:=merged_len (merged ps (w64 e.a,if 4294967296 < w64 (w64 e.a+e.n) then 4294967296 else w64 (w64 e.a+e.n))) (0,w64 (w64 (w64 e.a+e.n) - 4294967296))
  omega
 ·omega
def mny:List Prt→Int→Int
 | [],n=>n
 | p::t,n=>mny t (w64 (n+w64 (p.2 - p.1)))
def rangeB (p:Prt):List Int:=(List.range (p.2 - p.1).toNat).map fun k:Nat=>w32 (p.1+k)
def bytesOfP (ps:List Prt):List Int:=ps.flatMap rangeB
structure PartsOk (ps:List Prt):Prop where
 each:∀ p∈ps,0≤p.1∧p.1≤p.2∧p.2≤4294967296
 many:mny ps 0=((bytesOfP ps).length:Int)
def refBytes (l:List Ev):List Int ⊕ Int:=match rord l with
 | .inr x=>.inr x
 | .inl _=>if mny (parts l) 0 > 20000 then .inr 2 else .inl (bytesOfP (parts l))
end Go.Fx.Mo
namespace Go.Fx.Tryz
open Go Go.Fx Go.Fx.Mo
open Go.Proofs
variable {w0 w:World} {H Y:HL} {K:KT}
set_option maxRecDepth 20000
theorem rowcc {size:Nat} {ov:Value} {n:Nat} {xs:List Value} (h:Row w size ov n xs) {i j:Nat} (hi:i < n) (hj:j < size):∃ a c,ov=.slice (some a) n c∧w.cell? ((a.add (i * size)).add j)=xs[i * size+j]?:=by
 rcases h.2 with ⟨_,h0⟩ | ⟨a,c,h1,h2⟩
 ·omega
 ·refine ⟨a,c,h1,?_⟩
  have hle:i * size+size≤n * size:=by rw [← Nat.succ_mul]; exact Nat.mul_le_mul_right _ hi
  rw [add_add',h2 _ (by omega)]
theorem flat_cell {α:Type} {l:List α} {f:α→List Value} {n:Nat} (h:∀ x∈l,(f x).length=n) {i j:Nat} (hi:i < l.length) (hj:j < n):((l.map f).flatten)[i * n+j]?=(f l[i])[j]?:=by
 have h1:=flat_slice h hi
 rw [← h1,List.getElem?_take,if_pos hj,List.getElem?_drop]
theorem parts_ok {l:List Ev} {ov:Value} (h:St w0 w H) (hrow:∀ w',St w0 w' H→Row w' 6 ov l.length (evsCs l)) (hl:l.length≤20000)
  (hK:∀ w' a c Lo,SlO 2 148 (.slice a (parts l).length c) (parts l).length (prsCs (parts l)) Lo→New w0 Lo→(parts l).length≤40000→St w0 w' (Lo++H)→K (.slice a (parts l).length c) w'):CallL P 49 [ov] w K:=by
 obtain ⟨sa,sc,hov⟩:=(hrow w h).form
 rw [hov]
 refine f49_ok _ _ _ _ _ ?_
 rw [f49_eq,f49_s0_eq,f49_s1_eq]
 refine ⟨_,_,_,_,bs169 w,?_⟩
 have h2:=h.alloc (.cells #[] 148 (0,0))
 have hn:=h.le
 generalize w.heap.size=n at h2 hn
 have h2:St w0 (w.alloc (.cells #[] 148 (0,0))) ([(n,Cs [] 148)]++H):=h2
 rw [f49_s2_eq,f49_s3_eq]
 refine ⟨fun m ee w=>∃ (i:Nat) (ps:List Prt) (oa:Option Addr) (oc:Nat) (Lo:HL),i≤l.length∧m=l.length - i∧ee=Env.mk 44 [(4,I64 (i:Nat)),(3,.slice oa ps.length oc),(0,.slice sa l.length sc),(2,nilS)] []∧
   pFold (l.drop i) ps=parts l∧ps.length≤2 * i∧SlO 2 148 (.slice oa ps.length oc) ps.length (prsCs ps) Lo∧New w0 Lo∧St w0 w (Lo++H),
  ⟨l.length,0,[],_,_,_,by omega,rfl,rfl,rfl,by simp,slO_nil0 2 148 n,by simpa [New] using hn,h2⟩,?_⟩
 rintro m ee w4 ⟨i,ps,oa,oc,Lo,hi,rfl,rfl,hfin,hob,hS,hN,hw⟩
 show f49_lb4 ..
 rw [f49_lb4_eq]
 refine ⟨l.length,fun wq _=>run_len_22 wq,?_⟩
 rw [BIf_iff]
 constructor
 ·intro hlt
  have hlt:i < l.length:=by simpa using hlt
  rw [f49_s5_eq]
  have hdrop:l.drop i=l[i]::l.drop (i+1):=List.drop_eq_getElem_cons hlt
  rw [hdrop,pFold] at hfin
  obtain ⟨a,c,hac,hld⟩:=(hrow w4 (hw.sub hN)).ldA hlt
  rw [hov] at hac
  obtain ⟨hsa,-⟩:sa=some a∧sc=c:=by simpa using hac
  subst hsa
  refine ⟨by omega,by omega,hld _ ?_⟩
  rw [evs_at hlt]
  have next:∀ w5 ps' oa oc Lo,pStep ps l[i]=ps'→SlO 2 148 (.slice oa ps'.length oc) ps'.length (prsCs ps') Lo→New w0 Lo→St w0 w5 (Lo++H)→
    f49_s6 oa ps'.length oc (some a) l.length sc none 0 0 (i:Nat) w5 K (fun e' w'=>∃ m,m < l.length - i∧∃ (i:Nat) (ps:List Prt) (oa:Option Addr) (oc:Nat) (Lo:HL),i≤l.length∧m=l.length - i∧e'=Env.mk 44 [(4,I64 (i:Nat)),(3,.slice oa ps.length oc),(0,.slice (some a) l.length sc),(2,nilS)] []∧
     pFold (l.drop i) ps=parts l∧ps.length≤2 * i∧SlO 2 148 (.slice oa ps.length oc) ps.length (prsCs ps) Lo∧New w0 Lo∧St w0 w' (Lo++H)):=by
   intro w5 ps' oa oc Lo hp hS' hN' h5
   rw [f49_s6_eq]
   refine ⟨l.length - (i+1),by omega,i+1,ps',oa,oc,Lo,by omega,rfl,?_,by rw [← hp]; exact hfin,?_,hS',hN',h5⟩
   ·rw [wrap_i64 (by omega) (by omega)]; rfl
   ·have:=pStep_len ps l[i]
    rw [hp] at this; omega
  refine acs_ok hw l[i] fun w5 h5=>⟨_,rfl,?_⟩
  cases ha:acs l[i]
  ·rw [BIf_false]
   exact next w5 ps oa oc Lo (by unfold pStep; rw [ha]; simp) hS hN h5
  ·rw [BIf_true]
   have rd:∀ {w':World} (j:Nat),St w0 w' (Lo++H)→j < 6→w'.cell? ((a.add (Int.toNat (i:Int) * 6)).add j)=(Evcs l[i])[j]?:=fun {w'} j h' hj=>by
    obtain ⟨a',c',hac',hc⟩:=rowcc (hrow w' (h'.sub hN)) hlt hj
    rw [hov] at hac'
    obtain ⟨rfl,-⟩:a=a'∧sc=c':=by simpa using hac'
    rw [Int.toNat_natCast,hc]
    exact flat_cell (f:=Evcs) (fun _ _=>rfl) hlt hj
   refine ⟨by omega,by omega,l[i].a,rd 3 h5 (by omega),by omega,by omega,l[i].n,rd 5 h5 (by omega),_,w5,run_min _ _ _,_,fun wq=>build173 _ _ wq,?_⟩
   refine merged_ok h5 hS hN (by omega) fun w6 a2 c2 L2 hS2 hN2 h6=>⟨a2,_,c2,rfl,_,fun wq=>build173 _ _ wq,?_⟩
   refine merged_ok h6 hS2 hN2 ?_ fun w7 a3 c3 L3 hS3 hN3 h7=>⟨a3,_,c3,rfl,?_⟩
   ·have:=merged_len ps (IntKind.wrap .i64 l[i].a,if (4294967296:Int) < IntKind.wrap .i64 (IntKind.wrap .i64 l[i].a+l[i].n) then 4294967296 else IntKind.wrap .i64 (IntKind.wrap .i64 l[i].a+l[i].n))
    omega
   ·exact next w7 _ a3 c3 L3 (by unfold pStep; rw [ha,if_pos rfl]; rfl) hS3 hN3 h7
 ·intro hge
  have hge:l.length≤i:=by simpa using hge
  have:i=l.length:=by omega
  subst this
  rw [List.drop_length,pFold] at hfin
  rw [f49_s7_eq]
  subst hfin
  exact hK w4 oa oc Lo hS hN (by omega) hw
theorem many_ok {ps:List Prt} {ov:Value} (h:St w0 w H) (hrow:∀ w',St w0 w' H→Row w' 2 ov ps.length (prsCs ps)) (hl:ps.length≤40000) (hK:∀ w',St w0 w' H→K (I64 (mny ps 0)) w'):CallL P 48 [ov] w K:=by
 obtain ⟨sa,sc,hov⟩:=(hrow w h).form
 rw [hov]
 refine f48_ok _ _ _ _ _ ?_
 rw [f48_eq]
 refine ⟨fun m ee w=>∃ (i:Nat) (s:Int),i≤ps.length∧m=ps.length - i∧ee=Env.mk 25 [(4,I64 (i:Nat)),(0,.slice sa ps.length sc),(3,I64 s),(2,I64 0)] []∧mny (ps.drop i) s=mny ps 0∧St w0 w H,
  ⟨ps.length,0,0,by omega,rfl,rfl,rfl,h⟩,?_⟩
 rintro m ee w4 ⟨i,s,hi,rfl,rfl,hfin,hw⟩
 show f48_lb0 ..
 rw [f48_lb0_eq]
 refine ⟨ps.length,fun wq _=>run_len_169 wq,?_⟩
 rw [BIf_iff]
 constructor
 ·intro hlt
  have hlt:i < ps.length:=by simpa using hlt
  rw [f48_s1_eq]
  have hdrop:ps.drop i=ps[i]::ps.drop (i+1):=List.drop_eq_getElem_cons hlt
  rw [hdrop,mny] at hfin
  have hd:=hw.drew
  obtain ⟨a,c,hac,hc1⟩:=rowcc (hrow _ hd) hlt (j:=1) (by omega)
  rw [hov] at hac
  obtain ⟨hsa,-⟩:sa=some a∧sc=c:=by simpa using hac
  subst hsa
  obtain ⟨a',c',hac',hc0⟩:=rowcc (hrow _ hd) hlt (j:=0) (by omega)
  rw [hov] at hac'
  obtain ⟨rfl,-⟩:a=a'∧sc=c':=by simpa using hac'
  have e1:=flat_cell (l:=ps) (f:=Prcs) (n:=2) (fun _ _=>rfl) hlt (j:=1) (by omega)
  have e0:=flat_cell (l:=ps) (f:=Prcs) (n:=2) (fun _ _=>rfl) hlt (j:=0) (by omega)
  rw [show prsCs ps=(ps.map Prcs).flatten from rfl,e1] at hc1
  rw [show prsCs ps=(ps.map Prcs).flatten from rfl,e0,add_add',Nat.add_zero] at hc0
  refine ⟨by omega,by omega,by omega,by omega,ps[i].2,by rw [Int.toNat_natCast]; exact hc1,ps[i].1,by rw [Int.toNat_natCast]; exact hc0,?_⟩
  rw [f48_s2_eq]
  refine ⟨ps.length - (i+1),by omega,i+1,_,by omega,rfl,?_,hfin,hd⟩
  rw [wrap_i64 (by omega) (by omega)]; rfl
 ·intro hge
  have hge:ps.length≤i:=by simpa using hge
  have:i=ps.length:=by omega
  subst this
  rw [List.drop_length,mny] at hfin
  rw [f48_s3_eq,hfin]
  exact hK w4 hw
theorem bs101 (w:World):(Instr.buildSlice 49 0 ([]:List (Nat × Value)).toArray).run P w=.ok (.slice (some ⟨w.heap.size,0,none⟩) 0 0) (w.alloc (.cells #[] 43 (0,0))):=by kernel_rfl
theorem info33:P.info? 43=some Tryz.t43:=by kernel_rfl
theorem rangeB_len (p:Prt):(rangeB p).length=(p.2 - p.1).toNat:=by simp [rangeB]
theorem rangeB_at {p:Prt} {k:Nat} (hk:k < (rangeB p).length):(rangeB p)[k]=w32 (p.1+k):=by simp [rangeB]
theorem bytesOfP_le {ps:List Prt} {i:Nat} (hi:i≤ps.length):(bytesOfP (ps.take i)).length≤(bytesOfP ps).length:=by
 have:bytesOfP ps=bytesOfP (ps.take i)++bytesOfP (ps.drop i):=by
  unfold bytesOfP
  rw [← List.flatMap_append,List.take_append_drop]
 rw [this]; simp
theorem bytesOfP_snoc {ps:List Prt} {i:Nat} (hi:i < ps.length):bytesOfP (ps.take (i+1))=bytesOfP (ps.take i)++rangeB ps[i]:=by
 rw [take_succ' _ hi]
 unfold bytesOfP
 rw [List.flatMap_append]
 simp
theorem bytesRef_ok {l:List Ev} {ov:Value} (h:St w0 w H) (hrow:∀ w',St w0 w' H→Row w' 6 ov l.length (evsCs l)) (hp:∀ r,rord l=.inl r→PartsOk (parts l))
  (herr:∀ x,refBytes l=.inr x→x≠0→∀ w',St w0 w' H→K (.tuple [nilS,I64 x].toArray) w')
  (hok:∀ o,refBytes l=.inl o→o.length≤20000→∀ w' a c Lo,SlO 1 43 (.slice a o.length c) o.length (o.map (.int .u32 ·)) Lo→New w0 Lo→St w0 w' (Lo++H)→K (.tuple [.slice a o.length c,I64 0].toArray) w') :
  CallL P 26 [ov] w K:=by
 obtain ⟨sa,sc,hov⟩:=(hrow w h).form
 rw [hov]
 refine f26_ok _ _ _ _ _ ?_
 rw [f26_eq,f26_s0_eq,f26_s1_eq,← hov]
 refine order_ok' h hrow (fun x hx hx0 w1 h1=>⟨_,rfl,x,by simp [errCs],?_⟩) fun r hr hl20 hbd w1 cs g1=>⟨_,rfl,0,?_,?_⟩
 ·rw [show (x != 0)=true by simpa using hx0,BIf_true]
  exact herr x (by unfold refBytes; rw [hx]) hx0 w1 h1
 ·obtain ⟨lv,vv,xv,LL,LO,LX,rfl,hri,hs⟩:=g1
  have:(runCs r 0 lv vv xv)[19]?=some (I64 0):=by
   show (flagCs r 0)[16]?=_
   unfold flagCs
   rw [List.getElem?_append_right (by simp [hri.bl]),List.getElem?_append_right (by simp [hri.bl,hri.el])]
   simp [hri.bl,hri.el]
  simpa using this
 ·rw [show ((0:Int) != 0)=false by decide,BIf_false,f26_s2_eq]
  try rw [← hov]
  have hpo:=hp r hr
  refine parts_ok g1.base hrow hl20 fun w2 pa pc Lp hS hN hpl h2=>⟨pa,_,pc,rfl,?_⟩
  rw [f26_s3_eq]
  refine many_ok h2 (fun w' h'=>hS.row fun y hy=>h'.has _ _ (by simp [hy])) hpl fun w3 h3=>⟨_,rfl,?_⟩
  rw [BIf_iff]
  constructor
  ·intro hgt
   have hgt:mny (parts l) 0 > 20000:=by simpa using hgt
   exact herr 2 (by unfold refBytes; rw [hr]; simp only [if_pos hgt]) (by decide) w3 (h3.sub hN)
  ·intro hle
   have hle:¬ mny (parts l) 0 > 20000:=by simpa using hle
   have hrb:refBytes l=.inl (bytesOfP (parts l)):=by unfold refBytes; rw [hr]; simp only [if_neg hle]
   have htot:(bytesOfP (parts l)).length≤20000:=by have:=hpo.many; omega
   rw [f26_s4_eq]
   refine ⟨_,_,_,_,bs101 w3,?_⟩
   have h4:=h3.alloc (.cells #[] 43 (0,0))
   have hn:=h3.le
   generalize w3.heap.size=n at h4 hn
   have h4:St w0 (w3.alloc (.cells #[] 43 (0,0))) ([(n,Cs [] 43)]++(Lp++H)):=h4
   rw [f26_s5_eq,f26_s6_eq]
   generalize hpe:parts l=ps at *
   refine ⟨fun m ee w=>∃ (i:Nat) (oa:Option Addr) (oc:Nat) (Lo:HL),i≤ps.length∧m=ps.length - i∧ee=Env.mk 47 [(6,.slice oa (bytesOfP (ps.take i)).length oc),(2,nilS),(3,I64 0),(7,I64 (i:Nat)),(5,.slice pa ps.length pc)] []∧
     SlO 1 43 (.slice oa (bytesOfP (ps.take i)).length oc) (bytesOfP (ps.take i)).length ((bytesOfP (ps.take i)).map (.int .u32 ·)) Lo∧New w0 Lo∧St w0 w (Lo++(Lp++H)),
    ⟨ps.length,0,_,_,_,by omega,rfl,rfl,slO_nil0 1 43 n,by simpa [New] using hn,h4⟩,?_⟩
   rintro m ee w4 ⟨i,oa,oc,Lo,hi,rfl,rfl,hS2,hN2,hw⟩
   show f26_lb7 ..
   rw [f26_lb7_eq]
   refine ⟨ps.length,fun wq _=>run_len_169 wq,?_⟩
   rw [BIf_iff]
   constructor
   ·intro hlt
    have hlt:i < ps.length:=by simpa using hlt
    rw [f26_s8_eq]
    obtain ⟨hp0,hp1,hp2⟩:=hpo.each ps[i] (List.getElem_mem hlt)
    have hpr:∀ {w':World} {Z:HL},St w0 w' (Z++(Lp++H))→∀ j,j < 2→∃ a,pa=some a∧w'.cell? ((a.add (i * 2)).add j)=(Prcs ps[i])[j]?:=fun {w' Z} h' j hj=>by
     obtain ⟨a,c,hac,hc⟩:=rowcc (hS.row (w:=w') fun y hy=>h'.has _ _ (by simp [hy])) hlt hj
     obtain ⟨hsa,-⟩:pa=some a∧pc=c:=by simpa using hac
     refine ⟨a,hsa,?_⟩
     rw [hc]
     exact flat_cell (f:=Prcs) (fun _ _=>rfl) hlt hj
    obtain ⟨a,ha,hc0⟩:=hpr hw 0 (by omega)
    subst ha
    refine ⟨by omega,by omega,ps[i].1,?_,?_⟩
    ·rw [add_add',Nat.add_zero] at hc0
     rw [Int.toNat_natCast]; exact hc0
    rw [f26_s9_eq]
    generalize hY:(fun e' w'=>∃ m,m < ps.length - i∧∃ (i:Nat) (oa:Option Addr) (oc:Nat) (Lo:HL),i≤ps.length∧m=ps.length - i∧e'=Env.mk 47 [(6,.slice oa (bytesOfP (ps.take i)).length oc),(2,nilS),(3,I64 0),(7,I64 (i:Nat)),(5,.slice (some a) ps.length pc)] []∧
     SlO 1 43 (.slice oa (bytesOfP (ps.take i)).length oc) (bytesOfP (ps.take i)).length ((bytesOfP (ps.take i)).map (.int .u32 ·)) Lo∧New w0 Lo∧St w0 w' (Lo++(Lp++H)))=Y
    have hsn:=bytesOfP_snoc hlt
    have hle1:=bytesOfP_le (ps:=ps) (i:=i+1) (by omega)
    rw [hsn,List.length_append] at hle1
    refine ⟨fun m ee w=>∃ (k:Nat) (o:List Int) (oa:Option Addr) (oc:Nat) (Lo:HL),k≤(rangeB ps[i]).length∧m=(rangeB ps[i]).length - k∧o=bytesOfP (ps.take i)++(rangeB ps[i]).take k∧ee=Env.mk 47 [(8,I64 (ps[i].1+k)),(6,.slice oa o.length oc),(2,nilS),(3,I64 0),(5,.slice (some a) ps.length pc),(7,I64 (i:Nat))] []∧
      SlO 1 43 (.slice oa o.length oc) o.length (o.map (.int .u32 ·)) Lo∧New w0 Lo∧St w0 w (Lo++(Lp++H)),
     ⟨(rangeB ps[i]).length,0,bytesOfP (ps.take i),oa,oc,Lo,by omega,rfl,by simp,by simp,hS2,hN2,hw⟩,?_⟩
    rintro m ee w5 ⟨k,o,oa,oc,Lo,hk,rfl,ho,rfl,hS3,hN3,hw5⟩
    show f26_lb10 ..
    rw [f26_lb10_eq]
    obtain ⟨a2,ha2,hc1⟩:=hpr hw5 1 (by omega)
    obtain rfl:a=a2:=by simpa using ha2
    have hrl:=rangeB_len ps[i]
    refine ⟨by omega,by omega,ps[i].2,by rw [Int.toNat_natCast]; exact hc1,?_⟩
    have hol:o.length=(bytesOfP (ps.take i)).length+k:=by rw [ho,List.length_append,List.length_take]; omega
    rw [BIf_iff]
    constructor
    ·intro hltk
     have hltk:ps[i].1+(k:Int) < ps[i].2:=by simpa using hltk
     have hk2:k < (rangeB ps[i]).length:=by omega
     rw [f26_s11_eq]
     refine ⟨⟨rfl,trivial⟩,?_⟩
     refine hw5.newC fun n85 w6 hn85 h6=>?_
     have h6:St w0 w6 ([(n85,Cs [.int .u32 (w32 (ps[i].1+k))] 43)]++(Lo++(Lp++H))):=h6
     obtain ⟨g,cap,w7,L',hru,hS',g7,hN'⟩:=St.append (P:=P) 49 49 43 Tryz.t43 (.int .u32 0) 1 4 Tryz.underlying49 info33 rfl rfl rfl rfl (by omega) h6 hS3 hN3 (j:=0) rfl rfl (by simp [Value.oneCell']) (by simp [maxLen]; omega) (by omega)
     refine ⟨_,_,_,w7,hru,?_⟩
     rw [f26_s12_eq]
     have e1:o.length+1=(o++[w32 (ps[i].1+k)]).length:=by simp
     rw [e1] at hS' ⊢
     refine ⟨(rangeB ps[i]).length - (k+1),by omega,k+1,o++[w32 (ps[i].1+k)],some ⟨g,0,none⟩,cap,L',by omega,rfl,?_,?_,?_,hN',St.tail (b:=n85) g7 hn85⟩
     ·rw [ho,List.append_assoc]
      congr 1
      rw [take_succ' _ hk2,rangeB_at]
     ·rw [wrap_i64 (by omega) (by omega)]
      rw [show ps[i].1+(k:Int)+1=ps[i].1+((k+1:Nat):Int) by omega]
     ·rw [List.map_append]
      exact hS'
    ·intro hge
     have hge:ps[i].2≤ps[i].1+(k:Int):=by simpa using hge
     have hkk:k=(rangeB ps[i]).length:=by omega
     rw [hkk,List.take_length,← hsn] at ho
     rw [f26_s13_eq,← hY]
     subst ho
     refine ⟨ps.length - (i+1),by omega,i+1,oa,oc,Lo,by omega,rfl,?_,hS3,hN3,hw5⟩
     rw [wrap_i64 (by omega) (by omega)]; rfl
   ·intro hge
    have hge:ps.length≤i:=by simpa using hge
    have:i=ps.length:=by omega
    subst this
    rw [List.take_length] at hS2 ⊢
    rw [f26_s14_eq]
    refine hok _ hrb htot w4 oa oc Lo hS2 hN2 ?_
    have h9:=hw.perm (H':=Lp++(Lo++H)) (perm_by fun f=>by simp only [List.map_append,List.sum_append]; omega)
    exact h9.sub hN
end Go.Fx.Tryz
namespace Go.Fx.Tryz
set_option maxRecDepth 100000
open Go Go.Fx
noncomputable def c18:Code:=match Go.Proofs.Tryz.f18.body with
 | some c=>c
 | none=>.skip
noncomputable def rs18:List ResultVar:=Go.Proofs.Tryz.f18.results.toList
abbrev f18_kb (K:KT):Exit→YT:=bodyK P rs18 K
def f18 (s0a:Option Addr) (s0l:Nat) (s0c:Nat) (w:World) (K:KT):Prop:=CS P c18 none [2,3,4] [2,3,4] (f18_kb K) (env0 17 [(Value.slice s0a s0l s0c)]) w
theorem f18_eq (s0a:Option Addr) (s0l:Nat) (s0c:Nat) (w:World) (K:KT):f18 s0a s0l s0c w K=(CallL P 59 [(Value.slice s0a s0l s0c)] w (fun r1 w2=>∃ cs3:Array Value,∃ x4:Int,r1=(Value.tuple [(Value.agg cs3),(Value.int .i64 x4)].toArray)∧NewC (zcells P 141) 141 w2 (fun n5 w6=>StA 3 (Addr.mk n5 0 none) cs3 w6 (fun w7=>∃ (s8a:Option Addr) (s8l s8c:Nat),w7.drew.cell? (Addr.mk n5 0 none)=some (Value.slice s8a s8l s8c)∧∃ (s9a:Option Addr) (s9l s9c:Nat),w7.drew.cell? ((Addr.mk n5 0 none).add 1)=some (Value.slice s9a s9l s9c)∧K (Value.tuple [(Value.slice s8a s8l s8c),(Value.slice s9a s9l s9c),(Value.int .i64 x4)].toArray) w7.drew)))):=by kernel_rfl
theorem c18_eq:Go.Proofs.Tryz.f18.body=some c18:=by kernel_rfl
theorem f18_un (s0a:Option Addr) (s0l:Nat) (s0c:Nat) (w:World) (K:KT):f18 s0a s0l s0c w K=CS P c18 none (resT Go.Proofs.Tryz.f18.results.toList) (resT Go.Proofs.Tryz.f18.results.toList) (bodyK P Go.Proofs.Tryz.f18.results.toList K) (env0 Go.Proofs.Tryz.f18.ntmps [(Value.slice s0a s0l s0c)]) w:=by kernel_rfl
theorem f18_ok (s0a:Option Addr) (s0l:Nat) (s0c:Nat) (w:World) (K:KT) (h:f18 s0a s0l s0c w K):CallL P 18 [(Value.slice s0a s0l s0c)] w K:=calls_of_CS Go.Proofs.Tryz.func18 c18_eq (Eq.mp (f18_un s0a s0l s0c w K) h)
noncomputable def c19:Code:=match Go.Proofs.Tryz.f19.body with
 | some c=>c
 | none=>.skip
noncomputable def rs19:List ResultVar:=Go.Proofs.Tryz.f19.results.toList
abbrev f19_kb (K:KT):Exit→YT:=bodyK P rs19 K
def f19 (s0a:Option Addr) (s0l:Nat) (s0c:Nat) (s1a:Option Addr) (s1l:Nat) (s1c:Nat) (w:World) (K:KT):Prop:=CS P c19 none [4] [4] (f19_kb K) (env0 26 [(Value.slice s0a s0l s0c),(Value.slice s1a s1l s1c)]) w
def f19_s0 (s4a:Option Addr) (s4l:Nat) (s4c:Nat) (s5a:Option Addr) (s5l:Nat) (s5c:Nat) (b6:Bool) (w:World) (K:KT):Prop:=Join (fun e w=>CS P (codeAt c19 [1,1]) none [4] [4] (f19_kb K) e w) (Env.mk 26 [(1,(Value.slice s4a s4l s4c)),(0,(Value.slice s5a s5l s5c)),(4,(Value.bool b6))] []) w
abbrev f19_k4 (K:KT):Exit→YT:=kseq P (codeAt c19 [1,1,0]) (codeAt c19 [1,1,1]) none [4] [4] (f19_kb K)
abbrev f19_k6 (K:KT):Exit→YT:=kblock 0 (f19_k4 K)
def f19_lp1 (K:KT) (Y1:YT) (e:Env) (w:World):Prop:=Join (fun e w=>CS P (codeAt c19 [1,1,0,1,0,0]) none [5,1,0,4] [4] (kloop [5,1,0,4] Y1 (f19_k6 K)) e w) e w
abbrev f19_kl1 (K:KT) (Y1:YT):Exit→YT:=kloop [5,1,0,4] Y1 (f19_k6 K)
def f19_lb1 (x7:Int) (s8a:Option Addr) (s8l:Nat) (s8c:Nat) (s9a:Option Addr) (s9l:Nat) (s9c:Nat) (b10:Bool) (w:World) (K:KT) (Y1:YT):Prop:=Join (fun e w=>CS P (codeAt c19 [1,1,0,1,0,0]) none [5,1,0,4] [4] (f19_kl1 K Y1) e w) (Env.mk 26 [(5,(Value.int .i64 x7)),(1,(Value.slice s8a s8l s8c)),(0,(Value.slice s9a s9l s9c)),(4,(Value.bool b10))] []) w
def f19_s2 (s12a:Option Addr) (s12l:Nat) (s12c:Nat) (s13a:Option Addr) (s13l:Nat) (s13c:Nat) (x14:Int) (b15:Bool) (w:World) (K:KT) (Y1:YT):Prop:=Join (fun e w=>CS P (codeAt c19 [1,1,0,1,0,0,1]) none [5,1,0,4] [4] (f19_kl1 K Y1) e w) (Env.mk 26 [(1,(Value.slice s12a s12l s12c)),(0,(Value.slice s13a s13l s13c)),(5,(Value.int .i64 x14)),(4,(Value.bool b15))] []) w
def f19_s3 (s21a:Option Addr) (s21l:Nat) (s21c:Nat) (s22a:Option Addr) (s22l:Nat) (s22c:Nat) (b23:Bool) (x24:Int) (w:World) (K:KT) (Y1:YT):Prop:=Join (fun e w=>CS P (codeAt c19 [1,1,0,1,0,0,1,1]) none [5,1,0,4] [4] (f19_kl1 K Y1) e w) (Env.mk 26 [(1,(Value.slice s21a s21l s21c)),(0,(Value.slice s22a s22l s22c)),(4,(Value.bool b23)),(5,(Value.int .i64 x24))] []) w
theorem f19_s3_eq (s21a:Option Addr) (s21l:Nat) (s21c:Nat) (s22a:Option Addr) (s22l:Nat) (s22c:Nat) (b23:Bool) (x24:Int) (w:World) (K:KT) (Y1:YT):f19_s3 s21a s21l s21c s22a s22l s22c b23 x24 w K Y1=(Y1 (Env.mk 26 [(5,(Value.int .i64 (IntKind.wrap .i64 ((x24:Int)+1)))),(1,(Value.slice s21a s21l s21c)),(0,(Value.slice s22a s22l s22c)),(4,(Value.bool b23))] []) w):=by kernel_rfl
theorem f19_s2_eq (s12a:Option Addr) (s12l:Nat) (s12c:Nat) (s13a:Option Addr) (s13l:Nat) (s13c:Nat) (x14:Int) (b15:Bool) (w:World) (K:KT) (Y1:YT):f19_s2 s12a s12l s12c s13a s13l s13c x14 b15 w K Y1=(optS s13a (fun a16=>0≤(x14:Int)∧(x14:Int) < (s13l:Nat)∧optS s12a (fun a17=>0≤(x14:Int)∧(x14:Int) < (s12l:Nat)∧LdA 4 (a16.add (Int.toNat x14 * 4)) w.drew (fun cs18=>LdA 4 (a17.add (Int.toNat x14 * 4)) w.drew (fun cs19=>∃ b20:Bool,(∀ wq,(do eqGuard .neq 72 (.tmp 20) (.tmp 24) (Value.agg cs18) (Value.agg cs19); binOp .neq 72 (Value.agg cs18) (Value.agg cs19):Sem Value).run P wq=.ok (Value.bool b20) wq)∧BIf b20 (K (Value.bool false) w.drew) (f19_s3 s12a s12l s12c s13a s13l s13c b15 x14 w.drew K Y1)))))):=by kernel_rfl
def f19_s4 (w:World) (K:KT):Prop:=Join (fun e w=>CS P (codeAt c19 [1,1,1]) none [4] [4] (f19_kb K) e w) (Env.mk 26 [] []) w
theorem f19_s4_eq (w:World) (K:KT):f19_s4 w K=(K (Value.bool true) w):=by kernel_rfl
theorem f19_lb1_eq (x7:Int) (s8a:Option Addr) (s8l:Nat) (s8c:Nat) (s9a:Option Addr) (s9l:Nat) (s9c:Nat) (b10:Bool) (w:World) (K:KT) (Y1:YT):f19_lb1 x7 s8a s8l s8c s9a s9l s9c b10 w K Y1=(∃ x11:Int,(∀ wq,Ext w wq→(Builtin.len_ #[60] 3 [(Value.slice s9a s9l s9c)].toArray).run P wq=.ok (Value.int .i64 x11) wq)∧BIf (decide ((x7:Int) < x11)) (f19_s2 s8a s8l s8c s9a s9l s9c x7 b10 w K Y1) (f19_s4 w K)):=by kernel_rfl
theorem f19_s0_eq (s4a:Option Addr) (s4l:Nat) (s4c:Nat) (s5a:Option Addr) (s5l:Nat) (s5c:Nat) (b6:Bool) (w:World) (K:KT):f19_s0 s4a s4l s4c s5a s5l s5c b6 w K=(LoopE (f19_lp1 K) (Env.mk 26 [(5,(Value.int .i64 0)),(1,(Value.slice s4a s4l s4c)),(0,(Value.slice s5a s5l s5c)),(4,(Value.bool b6))] []) w):=by kernel_rfl
theorem f19_eq (s0a:Option Addr) (s0l:Nat) (s0c:Nat) (s1a:Option Addr) (s1l:Nat) (s1c:Nat) (w:World) (K:KT):f19 s0a s0l s0c s1a s1l s1c w K=(∃ x2:Int,(∀ wq,Ext w wq→(Builtin.len_ #[60] 3 [(Value.slice s0a s0l s0c)].toArray).run P wq=.ok (Value.int .i64 x2) wq)∧∃ x3:Int,(∀ wq,Ext w wq→(Builtin.len_ #[60] 3 [(Value.slice s1a s1l s1c)].toArray).run P wq=.ok (Value.int .i64 x3) wq)∧BIf ((x2:Int) != x3) (K (Value.bool false) w) (f19_s0 s1a s1l s1c s0a s0l s0c false w K)):=by kernel_rfl
theorem c19_eq:Go.Proofs.Tryz.f19.body=some c19:=by kernel_rfl
theorem f19_un (s0a:Option Addr) (s0l:Nat) (s0c:Nat) (s1a:Option Addr) (s1l:Nat) (s1c:Nat) (w:World) (K:KT):f19 s0a s0l s0c s1a s1l s1c w K=CS P c19 none (resT Go.Proofs.Tryz.f19.results.toList) (resT Go.Proofs.Tryz.f19.results.toList) (bodyK P Go.Proofs.Tryz.f19.results.toList K) (env0 Go.Proofs.Tryz.f19.ntmps [(Value.slice s0a s0l s0c),(Value.slice s1a s1l s1c)]) w:=by kernel_rfl
theorem f19_ok (s0a:Option Addr) (s0l:Nat) (s0c:Nat) (s1a:Option Addr) (s1l:Nat) (s1c:Nat) (w:World) (K:KT) (h:f19 s0a s0l s0c s1a s1l s1c w K):CallL P 19 [(Value.slice s0a s0l s0c),(Value.slice s1a s1l s1c)] w K:=calls_of_CS Go.Proofs.Tryz.func19 c19_eq (Eq.mp (f19_un s0a s0l s0c s1a s1l s1c w K) h)
noncomputable def c20:Code:=match Go.Proofs.Tryz.f20.body with
 | some c=>c
 | none=>.skip
noncomputable def rs20:List ResultVar:=Go.Proofs.Tryz.f20.results.toList
abbrev f20_kb (K:KT):Exit→YT:=bodyK P rs20 K
def f20 (s0a:Option Addr) (s0l:Nat) (s0c:Nat) (s1a:Option Addr) (s1l:Nat) (s1c:Nat) (w:World) (K:KT):Prop:=CS P c20 none [4] [4] (f20_kb K) (env0 26 [(Value.slice s0a s0l s0c),(Value.slice s1a s1l s1c)]) w
def f20_s0 (s4a:Option Addr) (s4l:Nat) (s4c:Nat) (s5a:Option Addr) (s5l:Nat) (s5c:Nat) (b6:Bool) (w:World) (K:KT):Prop:=Join (fun e w=>CS P (codeAt c20 [1,1]) none [4] [4] (f20_kb K) e w) (Env.mk 26 [(1,(Value.slice s4a s4l s4c)),(0,(Value.slice s5a s5l s5c)),(4,(Value.bool b6))] []) w
abbrev f20_k4 (K:KT):Exit→YT:=kseq P (codeAt c20 [1,1,0]) (codeAt c20 [1,1,1]) none [4] [4] (f20_kb K)
abbrev f20_k6 (K:KT):Exit→YT:=kblock 0 (f20_k4 K)
def f20_lp1 (K:KT) (Y1:YT) (e:Env) (w:World):Prop:=Join (fun e w=>CS P (codeAt c20 [1,1,0,1,0,0]) none [5,1,0,4] [4] (kloop [5,1,0,4] Y1 (f20_k6 K)) e w) e w
abbrev f20_kl1 (K:KT) (Y1:YT):Exit→YT:=kloop [5,1,0,4] Y1 (f20_k6 K)
def f20_lb1 (x7:Int) (s8a:Option Addr) (s8l:Nat) (s8c:Nat) (s9a:Option Addr) (s9l:Nat) (s9c:Nat) (b10:Bool) (w:World) (K:KT) (Y1:YT):Prop:=Join (fun e w=>CS P (codeAt c20 [1,1,0,1,0,0]) none [5,1,0,4] [4] (f20_kl1 K Y1) e w) (Env.mk 26 [(5,(Value.int .i64 x7)),(1,(Value.slice s8a s8l s8c)),(0,(Value.slice s9a s9l s9c)),(4,(Value.bool b10))] []) w
def f20_s2 (s12a:Option Addr) (s12l:Nat) (s12c:Nat) (s13a:Option Addr) (s13l:Nat) (s13c:Nat) (x14:Int) (b15:Bool) (w:World) (K:KT) (Y1:YT):Prop:=Join (fun e w=>CS P (codeAt c20 [1,1,0,1,0,0,1]) none [5,1,0,4] [4] (f20_kl1 K Y1) e w) (Env.mk 26 [(1,(Value.slice s12a s12l s12c)),(0,(Value.slice s13a s13l s13c)),(5,(Value.int .i64 x14)),(4,(Value.bool b15))] []) w
def f20_s3 (s20a:Option Addr) (s20l:Nat) (s20c:Nat) (s21a:Option Addr) (s21l:Nat) (s21c:Nat) (b22:Bool) (x23:Int) (w:World) (K:KT) (Y1:YT):Prop:=Join (fun e w=>CS P (codeAt c20 [1,1,0,1,0,0,1,1]) none [5,1,0,4] [4] (f20_kl1 K Y1) e w) (Env.mk 26 [(1,(Value.slice s20a s20l s20c)),(0,(Value.slice s21a s21l s21c)),(4,(Value.bool b22)),(5,(Value.int .i64 x23))] []) w
theorem f20_s3_eq (s20a:Option Addr) (s20l:Nat) (s20c:Nat) (s21a:Option Addr) (s21l:Nat) (s21c:Nat) (b22:Bool) (x23:Int) (w:World) (K:KT) (Y1:YT):f20_s3 s20a s20l s20c s21a s21l s21c b22 x23 w K Y1=(Y1 (Env.mk 26 [(5,(Value.int .i64 (IntKind.wrap .i64 ((x23:Int)+1)))),(1,(Value.slice s20a s20l s20c)),(0,(Value.slice s21a s21l s21c)),(4,(Value.bool b22))] []) w):=by kernel_rfl
theorem f20_s2_eq (s12a:Option Addr) (s12l:Nat) (s12c:Nat) (s13a:Option Addr) (s13l:Nat) (s13c:Nat) (x14:Int) (b15:Bool) (w:World) (K:KT) (Y1:YT):f20_s2 s12a s12l s12c s13a s13l s13c x14 b15 w K Y1=(optS s13a (fun a16=>0≤(x14:Int)∧(x14:Int) < (s13l:Nat)∧optS s12a (fun a17=>0≤(x14:Int)∧(x14:Int) < (s12l:Nat)∧∃ x18:Int,w.drew.cell? (a16.add (Int.toNat x14 * 1))=some (Value.int .i64 x18)∧∃ x19:Int,w.drew.cell? (a17.add (Int.toNat x14 * 1))=some (Value.int .i64 x19)∧BIf ((x18:Int) != x19) (K (Value.bool false) w.drew) (f20_s3 s12a s12l s12c s13a s13l s13c b15 x14 w.drew K Y1)))):=by kernel_rfl
def f20_s4 (w:World) (K:KT):Prop:=Join (fun e w=>CS P (codeAt c20 [1,1,1]) none [4] [4] (f20_kb K) e w) (Env.mk 26 [] []) w
theorem f20_s4_eq (w:World) (K:KT):f20_s4 w K=(K (Value.bool true) w):=by kernel_rfl
theorem f20_lb1_eq (x7:Int) (s8a:Option Addr) (s8l:Nat) (s8c:Nat) (s9a:Option Addr) (s9l:Nat) (s9c:Nat) (b10:Bool) (w:World) (K:KT) (Y1:YT):f20_lb1 x7 s8a s8l s8c s9a s9l s9c b10 w K Y1=(∃ x11:Int,(∀ wq,Ext w wq→(Builtin.len_ #[61] 3 [(Value.slice s9a s9l s9c)].toArray).run P wq=.ok (Value.int .i64 x11) wq)∧BIf (decide ((x7:Int) < x11)) (f20_s2 s8a s8l s8c s9a s9l s9c x7 b10 w K Y1) (f20_s4 w K)):=by kernel_rfl
theorem f20_s0_eq (s4a:Option Addr) (s4l:Nat) (s4c:Nat) (s5a:Option Addr) (s5l:Nat) (s5c:Nat) (b6:Bool) (w:World) (K:KT):f20_s0 s4a s4l s4c s5a s5l s5c b6 w K=(LoopE (f20_lp1 K) (Env.mk 26 [(5,(Value.int .i64 0)),(1,(Value.slice s4a s4l s4c)),(0,(Value.slice s5a s5l s5c)),(4,(Value.bool b6))] []) w):=by kernel_rfl
theorem f20_eq (s0a:Option Addr) (s0l:Nat) (s0c:Nat) (s1a:Option Addr) (s1l:Nat) (s1c:Nat) (w:World) (K:KT):f20 s0a s0l s0c s1a s1l s1c w K=(∃ x2:Int,(∀ wq,Ext w wq→(Builtin.len_ #[61] 3 [(Value.slice s0a s0l s0c)].toArray).run P wq=.ok (Value.int .i64 x2) wq)∧∃ x3:Int,(∀ wq,Ext w wq→(Builtin.len_ #[61] 3 [(Value.slice s1a s1l s1c)].toArray).run P wq=.ok (Value.int .i64 x3) wq)∧BIf ((x2:Int) != x3) (K (Value.bool false) w) (f20_s0 s1a s1l s1c s0a s0l s0c false w K)):=by kernel_rfl
theorem c20_eq:Go.Proofs.Tryz.f20.body=some c20:=by kernel_rfl
theorem f20_un (s0a:Option Addr) (s0l:Nat) (s0c:Nat) (s1a:Option Addr) (s1l:Nat) (s1c:Nat) (w:World) (K:KT):f20 s0a s0l s0c s1a s1l s1c w K=CS P c20 none (resT Go.Proofs.Tryz.f20.results.toList) (resT Go.Proofs.Tryz.f20.results.toList) (bodyK P Go.Proofs.Tryz.f20.results.toList K) (env0 Go.Proofs.Tryz.f20.ntmps [(Value.slice s0a s0l s0c),(Value.slice s1a s1l s1c)]) w:=by kernel_rfl
theorem f20_ok (s0a:Option Addr) (s0l:Nat) (s0c:Nat) (s1a:Option Addr) (s1l:Nat) (s1c:Nat) (w:World) (K:KT) (h:f20 s0a s0l s0c s1a s1l s1c w K):CallL P 20 [(Value.slice s0a s0l s0c),(Value.slice s1a s1l s1c)] w K:=calls_of_CS Go.Proofs.Tryz.func20 c20_eq (Eq.mp (f20_un s0a s0l s0c s1a s1l s1c w K) h)
noncomputable def c21:Code:=match Go.Proofs.Tryz.f21.body with
 | some c=>c
 | none=>.skip
noncomputable def rs21:List ResultVar:=Go.Proofs.Tryz.f21.results.toList
abbrev f21_kb (K:KT):Exit→YT:=bodyK P rs21 K
def f21 (s0a:Option Addr) (s0l:Nat) (s0c:Nat) (x1:Int) (w:World) (K:KT):Prop:=CS P c21 none [4] [4] (f21_kb K) (env0 12 [(Value.slice s0a s0l s0c),(Value.int .i64 x1)]) w
def f21_s0 (b2:Bool) (w:World) (K:KT):Prop:=Join (fun e w=>CS P (codeAt c21 [1,1]) none [4] [4] (f21_kb K) e w) (Env.mk 12 [(4,(Value.bool b2))] []) w
theorem f21_s0_eq (b2:Bool) (w:World) (K:KT):f21_s0 b2 w K=(K (Value.bool b2) w):=by kernel_rfl
theorem f21_eq (s0a:Option Addr) (s0l:Nat) (s0c:Nat) (x1:Int) (w:World) (K:KT):f21 s0a s0l s0c x1 w K=(BIf ((x1:Int) == 0) (f21_s0 true w K) (∃ x3:Int,(∀ wq,Ext w wq→(Builtin.len_ #[60] 3 [(Value.slice s0a s0l s0c)].toArray).run P wq=.ok (Value.int .i64 x3) wq)∧f21_s0 ((x3:Int) == 0) w K)):=by kernel_rfl
theorem c21_eq:Go.Proofs.Tryz.f21.body=some c21:=by kernel_rfl
theorem f21_un (s0a:Option Addr) (s0l:Nat) (s0c:Nat) (x1:Int) (w:World) (K:KT):f21 s0a s0l s0c x1 w K=CS P c21 none (resT Go.Proofs.Tryz.f21.results.toList) (resT Go.Proofs.Tryz.f21.results.toList) (bodyK P Go.Proofs.Tryz.f21.results.toList K) (env0 Go.Proofs.Tryz.f21.ntmps [(Value.slice s0a s0l s0c),(Value.int .i64 x1)]) w:=by kernel_rfl
theorem f21_ok (s0a:Option Addr) (s0l:Nat) (s0c:Nat) (x1:Int) (w:World) (K:KT) (h:f21 s0a s0l s0c x1 w K):CallL P 21 [(Value.slice s0a s0l s0c),(Value.int .i64 x1)] w K:=calls_of_CS Go.Proofs.Tryz.func21 c21_eq (Eq.mp (f21_un s0a s0l s0c x1 w K) h)
noncomputable def c22:Code:=match Go.Proofs.Tryz.f22.body with
 | some c=>c
 | none=>.skip
noncomputable def rs22:List ResultVar:=Go.Proofs.Tryz.f22.results.toList
abbrev f22_kb (K:KT):Exit→YT:=bodyK P rs22 K
def f22 (s0a:Option Addr) (s0l:Nat) (s0c:Nat) (x1:Int) (w:World) (K:KT):Prop:=CS P c22 none [4] [4] (f22_kb K) (env0 12 [(Value.slice s0a s0l s0c),(Value.int .i64 x1)]) w
def f22_s0 (b2:Bool) (w:World) (K:KT):Prop:=Join (fun e w=>CS P (codeAt c22 [1,1]) none [4] [4] (f22_kb K) e w) (Env.mk 12 [(4,(Value.bool b2))] []) w
theorem f22_s0_eq (b2:Bool) (w:World) (K:KT):f22_s0 b2 w K=(K (Value.bool b2) w):=by kernel_rfl
theorem f22_eq (s0a:Option Addr) (s0l:Nat) (s0c:Nat) (x1:Int) (w:World) (K:KT):f22 s0a s0l s0c x1 w K=(BIf ((x1:Int) == 0) (f22_s0 true w K) (∃ x3:Int,(∀ wq,Ext w wq→(Builtin.len_ #[61] 3 [(Value.slice s0a s0l s0c)].toArray).run P wq=.ok (Value.int .i64 x3) wq)∧f22_s0 ((x3:Int) == 0) w K)):=by kernel_rfl
theorem c22_eq:Go.Proofs.Tryz.f22.body=some c22:=by kernel_rfl
theorem f22_un (s0a:Option Addr) (s0l:Nat) (s0c:Nat) (x1:Int) (w:World) (K:KT):f22 s0a s0l s0c x1 w K=CS P c22 none (resT Go.Proofs.Tryz.f22.results.toList) (resT Go.Proofs.Tryz.f22.results.toList) (bodyK P Go.Proofs.Tryz.f22.results.toList K) (env0 Go.Proofs.Tryz.f22.ntmps [(Value.slice s0a s0l s0c),(Value.int .i64 x1)]) w:=by kernel_rfl
theorem f22_ok (s0a:Option Addr) (s0l:Nat) (s0c:Nat) (x1:Int) (w:World) (K:KT) (h:f22 s0a s0l s0c x1 w K):CallL P 22 [(Value.slice s0a s0l s0c),(Value.int .i64 x1)] w K:=calls_of_CS Go.Proofs.Tryz.func22 c22_eq (Eq.mp (f22_un s0a s0l s0c x1 w K) h)
noncomputable def c29:Code:=match Go.Proofs.Tryz.f29.body with
 | some c=>c
 | none=>.skip
noncomputable def rs29:List ResultVar:=Go.Proofs.Tryz.f29.results.toList
abbrev f29_kb (K:KT):Exit→YT:=bodyK P rs29 K
def f29 (s0a:Option Addr) (s0l:Nat) (s0c:Nat) (s1a:Option Addr) (s1l:Nat) (s1c:Nat) (w:World) (K:KT):Prop:=CS P c29 none [4] [4] (f29_kb K) (env0 26 [(Value.slice s0a s0l s0c),(Value.slice s1a s1l s1c)]) w
def f29_s0 (s4a:Option Addr) (s4l:Nat) (s4c:Nat) (s5a:Option Addr) (s5l:Nat) (s5c:Nat) (b6:Bool) (w:World) (K:KT):Prop:=Join (fun e w=>CS P (codeAt c29 [1,1]) none [4] [4] (f29_kb K) e w) (Env.mk 26 [(1,(Value.slice s4a s4l s4c)),(0,(Value.slice s5a s5l s5c)),(4,(Value.bool b6))] []) w
abbrev f29_k4 (K:KT):Exit→YT:=kseq P (codeAt c29 [1,1,0]) (codeAt c29 [1,1,1]) none [4] [4] (f29_kb K)
abbrev f29_k6 (K:KT):Exit→YT:=kblock 0 (f29_k4 K)
def f29_lp1 (K:KT) (Y1:YT) (e:Env) (w:World):Prop:=Join (fun e w=>CS P (codeAt c29 [1,1,0,1,0,0]) none [5,1,0,4] [4] (kloop [5,1,0,4] Y1 (f29_k6 K)) e w) e w
abbrev f29_kl1 (K:KT) (Y1:YT):Exit→YT:=kloop [5,1,0,4] Y1 (f29_k6 K)
def f29_lb1 (x7:Int) (s8a:Option Addr) (s8l:Nat) (s8c:Nat) (s9a:Option Addr) (s9l:Nat) (s9c:Nat) (b10:Bool) (w:World) (K:KT) (Y1:YT):Prop:=Join (fun e w=>CS P (codeAt c29 [1,1,0,1,0,0]) none [5,1,0,4] [4] (f29_kl1 K Y1) e w) (Env.mk 26 [(5,(Value.int .i64 x7)),(1,(Value.slice s8a s8l s8c)),(0,(Value.slice s9a s9l s9c)),(4,(Value.bool b10))] []) w
def f29_s2 (s12a:Option Addr) (s12l:Nat) (s12c:Nat) (s13a:Option Addr) (s13l:Nat) (s13c:Nat) (x14:Int) (b15:Bool) (w:World) (K:KT) (Y1:YT):Prop:=Join (fun e w=>CS P (codeAt c29 [1,1,0,1,0,0,1]) none [5,1,0,4] [4] (f29_kl1 K Y1) e w) (Env.mk 26 [(1,(Value.slice s12a s12l s12c)),(0,(Value.slice s13a s13l s13c)),(5,(Value.int .i64 x14)),(4,(Value.bool b15))] []) w
def f29_s3 (s21a:Option Addr) (s21l:Nat) (s21c:Nat) (s22a:Option Addr) (s22l:Nat) (s22c:Nat) (b23:Bool) (x24:Int) (w:World) (K:KT) (Y1:YT):Prop:=Join (fun e w=>CS P (codeAt c29 [1,1,0,1,0,0,1,1]) none [5,1,0,4] [4] (f29_kl1 K Y1) e w) (Env.mk 26 [(1,(Value.slice s21a s21l s21c)),(0,(Value.slice s22a s22l s22c)),(4,(Value.bool b23)),(5,(Value.int .i64 x24))] []) w
theorem f29_s3_eq (s21a:Option Addr) (s21l:Nat) (s21c:Nat) (s22a:Option Addr) (s22l:Nat) (s22c:Nat) (b23:Bool) (x24:Int) (w:World) (K:KT) (Y1:YT):f29_s3 s21a s21l s21c s22a s22l s22c b23 x24 w K Y1=(Y1 (Env.mk 26 [(5,(Value.int .i64 (IntKind.wrap .i64 ((x24:Int)+1)))),(1,(Value.slice s21a s21l s21c)),(0,(Value.slice s22a s22l s22c)),(4,(Value.bool b23))] []) w):=by kernel_rfl
theorem f29_s2_eq (s12a:Option Addr) (s12l:Nat) (s12c:Nat) (s13a:Option Addr) (s13l:Nat) (s13c:Nat) (x14:Int) (b15:Bool) (w:World) (K:KT) (Y1:YT):f29_s2 s12a s12l s12c s13a s13l s13c x14 b15 w K Y1=(optS s13a (fun a16=>0≤(x14:Int)∧(x14:Int) < (s13l:Nat)∧optS s12a (fun a17=>0≤(x14:Int)∧(x14:Int) < (s12l:Nat)∧LdA 5 (a16.add (Int.toNat x14 * 5)) w.drew (fun cs18=>LdA 5 (a17.add (Int.toNat x14 * 5)) w.drew (fun cs19=>∃ b20:Bool,(∀ wq,(do eqGuard .neq 97 (.tmp 20) (.tmp 24) (Value.agg cs18) (Value.agg cs19); binOp .neq 97 (Value.agg cs18) (Value.agg cs19):Sem Value).run P wq=.ok (Value.bool b20) wq)∧BIf b20 (K (Value.bool false) w.drew) (f29_s3 s12a s12l s12c s13a s13l s13c b15 x14 w.drew K Y1)))))):=by kernel_rfl
def f29_s4 (w:World) (K:KT):Prop:=Join (fun e w=>CS P (codeAt c29 [1,1,1]) none [4] [4] (f29_kb K) e w) (Env.mk 26 [] []) w
theorem f29_s4_eq (w:World) (K:KT):f29_s4 w K=(K (Value.bool true) w):=by kernel_rfl
theorem f29_lb1_eq (x7:Int) (s8a:Option Addr) (s8l:Nat) (s8c:Nat) (s9a:Option Addr) (s9l:Nat) (s9c:Nat) (b10:Bool) (w:World) (K:KT) (Y1:YT):f29_lb1 x7 s8a s8l s8c s9a s9l s9c b10 w K Y1=(∃ x11:Int,(∀ wq,Ext w wq→(Builtin.len_ #[74] 3 [(Value.slice s9a s9l s9c)].toArray).run P wq=.ok (Value.int .i64 x11) wq)∧BIf (decide ((x7:Int) < x11)) (f29_s2 s8a s8l s8c s9a s9l s9c x7 b10 w K Y1) (f29_s4 w K)):=by kernel_rfl
theorem f29_s0_eq (s4a:Option Addr) (s4l:Nat) (s4c:Nat) (s5a:Option Addr) (s5l:Nat) (s5c:Nat) (b6:Bool) (w:World) (K:KT):f29_s0 s4a s4l s4c s5a s5l s5c b6 w K=(LoopE (f29_lp1 K) (Env.mk 26 [(5,(Value.int .i64 0)),(1,(Value.slice s4a s4l s4c)),(0,(Value.slice s5a s5l s5c)),(4,(Value.bool b6))] []) w):=by kernel_rfl
theorem f29_eq (s0a:Option Addr) (s0l:Nat) (s0c:Nat) (s1a:Option Addr) (s1l:Nat) (s1c:Nat) (w:World) (K:KT):f29 s0a s0l s0c s1a s1l s1c w K=(∃ x2:Int,(∀ wq,Ext w wq→(Builtin.len_ #[74] 3 [(Value.slice s0a s0l s0c)].toArray).run P wq=.ok (Value.int .i64 x2) wq)∧∃ x3:Int,(∀ wq,Ext w wq→(Builtin.len_ #[74] 3 [(Value.slice s1a s1l s1c)].toArray).run P wq=.ok (Value.int .i64 x3) wq)∧BIf ((x2:Int) != x3) (K (Value.bool false) w) (f29_s0 s1a s1l s1c s0a s0l s0c false w K)):=by kernel_rfl
theorem c29_eq:Go.Proofs.Tryz.f29.body=some c29:=by kernel_rfl
theorem f29_un (s0a:Option Addr) (s0l:Nat) (s0c:Nat) (s1a:Option Addr) (s1l:Nat) (s1c:Nat) (w:World) (K:KT):f29 s0a s0l s0c s1a s1l s1c w K=CS P c29 none (resT Go.Proofs.Tryz.f29.results.toList) (resT Go.Proofs.Tryz.f29.results.toList) (bodyK P Go.Proofs.Tryz.f29.results.toList K) (env0 Go.Proofs.Tryz.f29.ntmps [(Value.slice s0a s0l s0c),(Value.slice s1a s1l s1c)]) w:=by kernel_rfl
theorem f29_ok (s0a:Option Addr) (s0l:Nat) (s0c:Nat) (s1a:Option Addr) (s1l:Nat) (s1c:Nat) (w:World) (K:KT) (h:f29 s0a s0l s0c s1a s1l s1c w K):CallL P 29 [(Value.slice s0a s0l s0c),(Value.slice s1a s1l s1c)] w K:=calls_of_CS Go.Proofs.Tryz.func29 c29_eq (Eq.mp (f29_un s0a s0l s0c s1a s1l s1c w K) h)
end Go.Fx.Tryz
namespace Go.Fx.Tryz
open Go Go.Fx Go.Fx.Mo
open Go.Proofs
variable {w0 w:World} {H Y:HL} {K:KT}
set_option maxRecDepth 20000
theorem fieldsOf72 : P.fieldsOf 72 = #[{ name := "Kind", type := 3, offset := 0, embedded := false, tag := "", pkgPath := "", byteOffset := 0 },
  { name := "Thread", type := 3, offset := 1, embedded := false, tag := "", pkgPath := "", byteOffset := 8 },
  { name := "Other", type := 3, offset := 2, embedded := false, tag := "", pkgPath := "", byteOffset := 16 },
  { name := "Obj", type := 3, offset := 3, embedded := false, tag := "", pkgPath := "", byteOffset := 24 }] := by kernel_rfl
theorem eq72 (w:World) (o:Ord):(do eqGuard .neq 72 (.tmp 20) (.tmp 24) (.agg (Ordcs o).toArray) (.agg (Ordcs o).toArray); binOp .neq 72 (.agg (Ordcs o).toArray) (.agg (Ordcs o).toArray):Sem Value).run P w=.ok (.bool false) w:=by
 have h3:∀ d x,(Op.equalIn (d+1) 3 (.int .i64 x) (.int .i64 x)).run P w=.ok true w:=fun d x=>by simp [Op.equalIn,run_underlying Tryz.underlying3]
 have hm:∃ d,Op.maxDepth=d+4:=⟨_,rfl⟩
 obtain ⟨d,hd⟩:=hm
 obtain ⟨a0,a1,a2,a3⟩:=o
 have p0:(part 3 #[I64 a0,I64 a1,I64 a2,I64 a3] 0).run P w=.ok (I64 a0) w:=by kernel_rfl
 have p1:(part 3 #[I64 a0,I64 a1,I64 a2,I64 a3] 1).run P w=.ok (I64 a1) w:=by kernel_rfl
 have p2:(part 3 #[I64 a0,I64 a1,I64 a2,I64 a3] 2).run P w=.ok (I64 a2) w:=by kernel_rfl
 have p3:(part 3 #[I64 a0,I64 a1,I64 a2,I64 a3] 3).run P w=.ok (I64 a3) w:=by kernel_rfl
 have he:(Op.equal 72 (.agg (Ordcs ⟨a0,a1,a2,a3⟩).toArray) (.agg (Ordcs ⟨a0,a1,a2,a3⟩).toArray)).run P w=.ok true w:=by
  unfold Op.equal
  rw [hd,run_equalIn_struct w (d+3) 72 _ _ (by rw [fieldsOf72]; exact Tryz.underlying72) Tryz.stoodInHeld72,fieldsOf72]
  simp [Op.eqFields,Ordcs,p0,p1,p2,p3,h3]
 simp [eqGuard,binOp,he,Tryz.eqGuardType72]
theorem eq97 (w:World) (a:Mo.Acc):(do eqGuard .neq 97 (.tmp 20) (.tmp 24) (.agg (Acccs a).toArray) (.agg (Acccs a).toArray); binOp .neq 97 (.agg (Acccs a).toArray) (.agg (Acccs a).toArray):Sem Value).run P w=.ok (.bool false) w:=by
 have hm:∃ d,Op.maxDepth=d+2:=⟨_,rfl⟩
 obtain ⟨d,hd⟩:=hm
 have he:(Op.equal 97 (.agg (Acccs a).toArray) (.agg (Acccs a).toArray)).run P w=.ok true w:=by
  unfold Op.equal
  rw [hd]
  exact eq45 w d a
 simp [eqGuard,binOp,he,Tryz.eqGuardType97]
def accsZ (l:List Mo.Acc):List Value:=(l.map Acccs).flatten
theorem accsZ_at {l:List Mo.Acc} {i:Nat} (hi:i < l.length):((accsZ l).drop (i * 5)).take 5=Acccs l[i]:=flat_slice (f:=Acccs) (fun x _=>Acccs_len x) hi
theorem accsZ_snoc (l:List Mo.Acc) (a:Mo.Acc):accsZ (l++[a])=accsZ l++Acccs a:=by simp [accsZ]
theorem sameOrd_ok {l:List Ord} {av bv:Value} (h:St w0 w H) (ha:∀ w',St w0 w' H→Row w' 4 av l.length (ords l)) (hb:∀ w',St w0 w' H→Row w' 4 bv l.length (ords l)) (hl63:l.length < 9223372036854775807)
  (hK:∀ w',St w0 w' H→K (.bool true) w'):CallL P 19 [av,bv] w K:=by
 obtain ⟨a1,a2,hav⟩:=(ha w h).form
 obtain ⟨b1,b2,hbv⟩:=(hb w h).form
 rw [hav,hbv]
 refine f19_ok _ _ _ _ _ _ _ _ ?_
 rw [f19_eq]
 refine ⟨l.length,fun wq _=>run_len_slice _ _ _ Tryz.underlying60 3,l.length,fun wq _=>run_len_slice _ _ _ Tryz.underlying60 3,?_⟩
 rw [show ((l.length:Int) != (l.length:Int))=false by simp,BIf_false,f19_s0_eq]
 refine ⟨fun m ee w=>∃ (i:Nat),i≤l.length∧m=l.length - i∧ee=Env.mk 26 [(5,(Value.int .i64 i)),(1,(Value.slice b1 l.length b2)),(0,(Value.slice a1 l.length a2)),(4,(Value.bool false))] []∧St w0 w H,
  ⟨l.length,0,by omega,rfl,rfl,h⟩,?_⟩
 rintro m ee w ⟨i,hi,rfl,rfl,hw⟩
 show f19_lb1 ..
 rw [f19_lb1_eq]
 refine ⟨l.length,fun wq _=>run_len_slice _ _ _ Tryz.underlying60 3,?_⟩
 rw [BIf_iff]
 constructor
 ·intro hlt
  have hlt:i < l.length:=by simpa using hlt
  rw [f19_s2_eq]
  have hd:=hw.drew
  obtain ⟨a,c,hac,hld⟩:=(ha _ hd).ldA hlt
  rw [hav] at hac
  obtain ⟨hsa,-⟩:a1=some a∧a2=c:=by simpa using hac
  subst hsa
  obtain ⟨b,c',hbc,hldb⟩:=(hb _ hd).ldA hlt
  rw [hbv] at hbc
  obtain ⟨hsb,-⟩:b1=some b∧b2=c':=by simpa using hbc
  subst hsb
  refine ⟨by omega,by omega,by omega,by omega,hld _ (hldb _ ?_)⟩
  rw [ord_at hlt]
  refine ⟨_,fun wq=>eq72 wq l[i],?_⟩
  rw [BIf_false,f19_s3_eq]
  refine ⟨l.length - (i+1),by omega,i+1,by omega,rfl,?_,hd⟩
  rw [wrap_i64 (by omega) (by omega)]; rfl
 ·intro hge
  rw [f19_s4_eq]
  exact hK w hw
theorem sameInt_ok {l:List Int} {av bv:Value} (h:St w0 w H) (ha:∀ w',St w0 w' H→Row w' 1 av l.length (l.map I64)) (hb:∀ w',St w0 w' H→Row w' 1 bv l.length (l.map I64)) (hl63:l.length < 9223372036854775807)
  (hK:∀ w',St w0 w' H→K (.bool true) w'):CallL P 20 [av,bv] w K:=by
 obtain ⟨a1,a2,hav⟩:=(ha w h).form
 obtain ⟨b1,b2,hbv⟩:=(hb w h).form
 rw [hav,hbv]
 refine f20_ok _ _ _ _ _ _ _ _ ?_
 rw [f20_eq]
 refine ⟨l.length,fun wq _=>run_len_slice _ _ _ Tryz.underlying61 3,l.length,fun wq _=>run_len_slice _ _ _ Tryz.underlying61 3,?_⟩
 rw [show ((l.length:Int) != (l.length:Int))=false by simp,BIf_false,f20_s0_eq]
 refine ⟨fun m ee w=>∃ (i:Nat),i≤l.length∧m=l.length - i∧ee=Env.mk 26 [(5,(Value.int .i64 i)),(1,(Value.slice b1 l.length b2)),(0,(Value.slice a1 l.length a2)),(4,(Value.bool false))] []∧St w0 w H,
  ⟨l.length,0,by omega,rfl,rfl,h⟩,?_⟩
 rintro m ee w ⟨i,hi,rfl,rfl,hw⟩
 show f20_lb1 ..
 rw [f20_lb1_eq]
 refine ⟨l.length,fun wq _=>run_len_slice _ _ _ Tryz.underlying61 3,?_⟩
 rw [BIf_iff]
 constructor
 ·intro hlt
  have hlt:i < l.length:=by simpa using hlt
  rw [f20_s2_eq]
  have hd:=hw.drew
  obtain ⟨a,c,hac,hca⟩:=rowc (ha _ hd) hlt
  rw [hav] at hac
  obtain ⟨hsa,-⟩:a1=some a∧a2=c:=by simpa using hac
  subst hsa
  obtain ⟨b,c',hbc,hcb⟩:=rowc (hb _ hd) hlt
  rw [hbv] at hbc
  obtain ⟨hsb,-⟩:b1=some b∧b2=c':=by simpa using hbc
  subst hsb
  have e0:(l.map I64)[i]?=some (I64 l[i]):=by simp [hlt]
  refine ⟨by omega,by omega,by omega,by omega,l[i],by rw [Int.toNat_natCast,hca,e0],l[i],by rw [Int.toNat_natCast,hcb,e0],?_⟩
  rw [show ((l[i]:Int) != l[i])=false by simp,BIf_false,f20_s3_eq]
  refine ⟨l.length - (i+1),by omega,i+1,by omega,rfl,?_,hd⟩
  rw [wrap_i64 (by omega) (by omega)]; rfl
 ·intro hge
  rw [f20_s4_eq]
  exact hK w hw
theorem sameAcc_ok {l:List Mo.Acc} {av bv:Value} (h:St w0 w H) (ha:∀ w',St w0 w' H→Row w' 5 av l.length (accsZ l)) (hb:∀ w',St w0 w' H→Row w' 5 bv l.length (accsZ l)) (hl63:l.length < 9223372036854775807)
  (hK:∀ w',St w0 w' H→K (.bool true) w'):CallL P 29 [av,bv] w K:=by
 obtain ⟨a1,a2,hav⟩:=(ha w h).form
 obtain ⟨b1,b2,hbv⟩:=(hb w h).form
 rw [hav,hbv]
 refine f29_ok _ _ _ _ _ _ _ _ ?_
 rw [f29_eq]
 refine ⟨l.length,fun wq _=>run_len_slice _ _ _ Tryz.underlying74 3,l.length,fun wq _=>run_len_slice _ _ _ Tryz.underlying74 3,?_⟩
 rw [show ((l.length:Int) != (l.length:Int))=false by simp,BIf_false,f29_s0_eq]
 refine ⟨fun m ee w=>∃ (i:Nat),i≤l.length∧m=l.length - i∧ee=Env.mk 26 [(5,(Value.int .i64 i)),(1,(Value.slice b1 l.length b2)),(0,(Value.slice a1 l.length a2)),(4,(Value.bool false))] []∧St w0 w H,
  ⟨l.length,0,by omega,rfl,rfl,h⟩,?_⟩
 rintro m ee w ⟨i,hi,rfl,rfl,hw⟩
 show f29_lb1 ..
 rw [f29_lb1_eq]
 refine ⟨l.length,fun wq _=>run_len_slice _ _ _ Tryz.underlying74 3,?_⟩
 rw [BIf_iff]
 constructor
 ·intro hlt
  have hlt:i < l.length:=by simpa using hlt
  rw [f29_s2_eq]
  have hd:=hw.drew
  obtain ⟨a,c,hac,hld⟩:=(ha _ hd).ldA hlt
  rw [hav] at hac
  obtain ⟨hsa,-⟩:a1=some a∧a2=c:=by simpa using hac
  subst hsa
  obtain ⟨b,c',hbc,hldb⟩:=(hb _ hd).ldA hlt
  rw [hbv] at hbc
  obtain ⟨hsb,-⟩:b1=some b∧b2=c':=by simpa using hbc
  subst hsb
  refine ⟨by omega,by omega,by omega,by omega,hld _ (hldb _ ?_)⟩
  rw [accsZ_at hlt]
  refine ⟨_,fun wq=>eq97 wq l[i],?_⟩
  rw [BIf_false,f29_s3_eq]
  refine ⟨l.length - (i+1),by omega,i+1,by omega,rfl,?_,hd⟩
  rw [wrap_i64 (by omega) (by omega)]; rfl
 ·intro hge
  rw [f29_s4_eq]
  exact hK w hw
theorem zero21_ok {a:Option Addr} {n c:Nat} {e:Int} (hz:e=0∨n=0) (hK:K (.bool true) w):CallL P 21 [.slice a n c,.int .i64 e] w K:=by
 refine f21_ok _ _ _ _ _ _ ?_
 rw [f21_eq,BIf_iff]
 constructor
 ·intro _
  rw [f21_s0_eq]
  exact hK
 ·intro hne
  have:n=0:=by
   rcases hz with rfl | hz
   ·cases hne
   ·exact hz
  subst this
  refine ⟨0,fun wq _=>run_len_slice _ _ _ Tryz.underlying60 3,?_⟩
  rw [f21_s0_eq]
  exact hK
theorem zero22_ok {a:Option Addr} {n c:Nat} {e:Int} (hz:e=0∨n=0) (hK:K (.bool true) w):CallL P 22 [.slice a n c,.int .i64 e] w K:=by
 refine f22_ok _ _ _ _ _ _ ?_
 rw [f22_eq,BIf_iff]
 constructor
 ·intro _
  rw [f22_s0_eq]
  exact hK
 ·intro hne
  have:n=0:=by
   rcases hz with rfl | hz
   ·cases hne
   ·exact hz
  subst this
  refine ⟨0,fun wq _=>run_len_slice _ _ _ Tryz.underlying61 3,?_⟩
  rw [f22_s0_eq]
  exact hK
theorem orderZ_ok {l:List Ev} {ov:Value} (h:St w0 w H) (hrow:∀ w',St w0 w' H→Row w' 6 ov l.length (evsCs l)) (hl63:l.length < 9223372036854775808)
  (herr:∀ x,Mo.run l=.inr x→x≠0→∀ w',St w0 w' H→K (.tuple [nilS,nilS,I64 x].toArray) w')
  (hok:∀ hh,Mo.run l=.inl hh→∀ w' a1 c1 a2 c2 L1 L2,SlO 4 72 (.slice a1 hh.orders.length c1) hh.orders.length (ords hh.orders) L1→SlO 1 3 (.slice a2 hh.of.length c2) hh.of.length (hh.of.map I64) L2→New w0 L1→New w0 L2→St w0 w' (L1++(L2++H))→
   K (.tuple [.slice a1 hh.orders.length c1,.slice a2 hh.of.length c2,I64 0].toArray) w'):CallL P 18 [ov] w K:=by
 obtain ⟨sa,sc,hov⟩:=(hrow w h).form
 subst hov
 refine f18_ok _ _ _ _ _ ?_
 rw [f18_eq,z89]
 refine run_ok h hrow hl63 (fun x hx w1 h1=>⟨_,x,rfl,?_⟩) (fun hh hrun w1 v1 v2 v3 L1 L2 L3 hho h1=>⟨_,0,rfl,?_⟩)
 ·refine h1.newC fun n6 w2 hn6 h2=>h2.stA (k:=0) rfl rfl (by simp) (by simp [Value.oneCell']) fun w3 h3=>?_
  have hx0:x≠0:=by
   unfold Mo.run at hx
   split at hx
   ·cases hx; omega
   ·split at hx
    ·cases hx
    ·cases hx; omega
  have h3:=h3.drew
  refine ⟨none,0,0,h3.cell (k:=0) rfl,none,0,0,by rw [add_lit']; exact h3.cell (k:=0) rfl,?_⟩
  exact herr x hx hx0 _ (h3.tail hn6)
 ·obtain ⟨a1,c1,e1⟩:=hho.s1.form
  obtain ⟨a2,c2,e2⟩:=hho.s2.form
  obtain ⟨a3,c3,e3⟩:=hho.s3.form
  refine h1.newC fun n6 w2 hn6 h2=>h2.stA (k:=0) rfl rfl (by simp) (by simp [e1,e2,e3,Value.oneCell']) fun w3 h3=>?_
  have h3:=h3.drew
  have h3:St w0 w3.drew ((n6,Cs [v1,v2,v3] 141)::(L1++(L2++(L3++H)))):=h3
  refine ⟨a1,_,c1,by rw [← e1]; exact h3.cell (k:=0) rfl,a2,_,c2,by rw [add_lit',← e2]; exact h3.cell (k:=0) rfl,?_⟩
  have h4:=(h3.tail hn6).perm (H':=L3++(L1++(L2++H))) (perm_by fun f=>by simp only [List.map_append,List.sum_append]; omega)
  exact hok hh hrun _ a1 c1 a2 c2 L1 L2 (by rw [← e1]; exact hho.s1) (by rw [← e2]; exact hho.s2) hho.n1 hho.n2 (h4.sub hho.n3)
end Go.Fx.Tryz
