/- A part of the proof. -/
import Derived.Test.YtepbaneageipfaaGreatDoorKaKq
import Derived.KernelRfl
import Derived.ChangeKeysEq
import Derived.Laws.Slices
import Derived.MapKept
set_option linter.all false
namespace Go.Fx.Tryz
open Go Go.Fx Go.Fx.Ch
open Go.Proofs
set_option maxRecDepth 20000
variable {w0 w:World} {H:HBL} {K:KT}
theorem contains_ok {l:List Int} {ov:Value} {x:Int} (hr:Row w 1 ov l.length (l.map J)) (hn:l.length < 1000000000) (hK:K (.bool (l.contains x)) w):CallL P 215 [ov,J x] w K:=by
 obtain ⟨a,c,rfl⟩:=hr.form
 refine f215_ok _ _ _ _ _ _ ?_
 rw [f215_eq]
 refine f227_ok _ _ _ _ _ _ ?_
 rw [f227_eq]
 refine ⟨fun m e w'=>∃ i:Nat,i≤l.length∧m=l.length - i∧w'=w∧x ∉ l.take i∧e=Env.mk 19 [(8,J i),(0,.slice a l.length c),(1,J x),(4,J 0),(7,J l.length)] [],⟨_,0,by omega,rfl,rfl,by simp,rfl⟩,?_⟩
 rintro m e w' ⟨i,hi,rfl,rfl,hx,rfl⟩
 show f227_lb0 ..
 rw [f227_lb0_eq,BIf_iff]
 refine ⟨fun hlt=>?_,fun hge=>?_⟩
 ·have hlt:i < l.length:=by have:=of_decide_eq_true hlt; omega
  rw [f227_s1_eq]
  rcases hr.2 with ⟨_,h0⟩ | ⟨ad,cp,h1,h2⟩
  ·omega
  ·injection h1 with h1 h3 h4
   subst h1
   refine ⟨by omega,by omega,l[i],?_,?_⟩
   ·rw [Int.toNat_natCast,h2 _ (by omega)]
    simp [hlt]
   ·rw [BIf_iff]
    refine ⟨fun hb=>⟨_,rfl,?_⟩,fun hb=>?_⟩
    ·have hb:x=l[i]:=by simpa using hb
     have:l.contains x=true:=by rw [List.contains_iff_mem,hb]; exact List.getElem_mem hlt
     rw [this] at hK
     simp only [show (decide ((i:Int)≥0))=true by simp]
     exact hK
    ·have hb:¬ x=l[i]:=by simpa using hb
     rw [f227_s2_eq]
     refine ⟨l.length - (i+1),by omega,i+1,by omega,rfl,rfl,?_,?_⟩
     ·rw [take_succ' l hlt,List.mem_append]
      rintro (h | h)
      ·exact hx h
      ·exact hb (by simpa using h)
     ·rw [wrap_i64 (by omega) (by omega)]; rfl
 ·have hge:¬ (i:Int) < l.length:=of_decide_eq_false hge
  have:i=l.length:=by omega
  subst this
  rw [List.take_length] at hx
  rw [f227_s3_eq]
  refine ⟨_,rfl,?_⟩
  have:l.contains x=false:=by
   cases hc:l.contains x with
   | false=>rfl
   | true=>exact absurd (List.contains_iff_mem.1 hc) hx
  rw [this] at hK
  exact hK
theorem bget (ty off:Int) (wq:World):(Instr.build 258 [(0,J 2),(1,J ty),(3,J off)].toArray).run P wq=.ok (.agg #[J 2,J ty,J 0,J off,.slice none 0 0]) wq:=by kernel_rfl
theorem types0_ok (h:St w0 w H) (hK:∀ w',St w0 w' H→K (.slice none 0 0) w'):CallL P 214 [.slice none 0 0,.slice none 0 0] w K:=by
 refine f214_ok _ _ _ _ _ _ _ _ ?_
 rw [f214_eq]
 refine h.newC fun n2 w3 hn2 h3=>?_
 refine f224_ok _ _ _ _ _ _ ?_
 rw [f224_eq]
 refine ⟨fun m e w'=>w'=w3∧e=Env.mk 22 [(10,J 0),(1,(.func (.func 225) #[] #[(.pointer (some (Addr.mk n2 0 none)))])),(5,.slice none 0 0),(8,.slice none 0 0),(4,.slice none 0 0),(9,J 0)] [],⟨0,rfl,rfl⟩,?_⟩
 rintro m e w' ⟨rfl,rfl⟩
 show f224_lb0 ..
 rw [f224_lb0_eq]
 simp only [show decide ((0:Int) < 0)=false from rfl,BIf_false,f224_s3_eq]
 exact ⟨_,_,_,rfl,hK w' (h3.tail hn2)⟩
theorem exprGet_ok (h:St w0 w H) {ty off:Int} (hK:∀ w',St w0 w' H→K (J (only (field off ty) ty)) w'):CallL P 212 [.slice none 0 0,.agg #[J 2,J ty,J 0,J off,.slice none 0 0]] w K:=by
 refine f212_ok _ _ _ _ _ _ ?_
 rw [f212_eq,f212_s0_eq]
 refine h.newC fun n4 w5 hn4 h5=>?_
 have h5:St w0 w5 ((n4,Cs [J 2,J ty,J 0,J off,.slice none 0 0] 258)::H):=h5
 have c:∀ {w'},St w0 w' ((n4,Cs [J 2,J ty,J 0,J off,.slice none 0 0] 258)::H)→∀ i,w'.cell? (Addr.mk n4 i none)=[J 2,J ty,J 0,J off,.slice none 0 0][i]?:=fun h' i=>h'.cell (k:=0) rfl
 rw [f212_s1_eq]
 refine ⟨none,0,0,by rw [add_lit']; exact c h5 4,types0_ok h5 fun w6 h6=>⟨_,_,_,rfl,?_⟩⟩
 rw [f212_s2_eq]
 refine contains_ok (l:=[]) ⟨rfl,.inl ⟨rfl,rfl⟩⟩ (by simp) ⟨_,rfl,?_⟩
 simp only [List.contains_nil,BIf_false]
 rw [f212_s3_eq]
 refine ⟨0,by rw [add_lit']; exact c h6 2,?_⟩
 simp only [show ((0:Int) == 0)=true from rfl,BIf_true]
 refine ⟨off,by rw [add_lit']; exact c h6 3,?_⟩
 rw [f212_s4_eq]
 refine ⟨2,c h6 0,?_⟩
 simp only [show ((2:Int) == 1)=false from rfl,BIf_false]
 rw [f212_s5_eq]
 simp only [BIf_false]
 refine ⟨2,c h6 0,?_⟩
 simp only [show ((2:Int) == 2)=true from rfl,BIf_true,show ((((0:Nat):Int)) == 0)=true from rfl]
 rw [f212_s7_eq]
 simp only [BIf_true]
 have h6':=h6.drew
 refine ⟨0,by rw [add_lit']; exact c h6' 2,?_⟩
 simp only [show ((0:Int) == 0)=true from rfl,BIf_true]
 refine ⟨off,by rw [add_lit']; exact c h6' 3,ty,by rw [add_lit']; exact c h6' 1,ty,by rw [add_lit']; exact c h6' 1,field_ok ⟨_,rfl,by rw [add_lit']; exact c h6' 1,only_ok ⟨_,rfl,?_⟩⟩⟩
 rw [f212_s8_eq]
 exact hK _ (h6'.tail hn4)
theorem place_ok (h:St w0 w H) {ty off:Int} (hK:∀ w',St w0 w' H→K (.bool (place ty off)) w'):CallL P 204 [J ty,J off] w K:=by
 refine f204_ok _ _ _ _ ?_
 rw [f204_eq]
 refine ⟨_,bget ty off,exprGet_ok h fun w' h'=>⟨_,rfl,?_⟩⟩
 have hK:=hK w' h'
 unfold place at hK
 rw [BIf_iff]
 refine ⟨fun hb=>?_,fun hb=>?_⟩
 ·rw [f204_s0_eq]; rw [hb] at hK; simpa using hK
 ·rw [f204_s0_eq]; rw [hb] at hK; simpa using hK
theorem un_ok (h:St w0 w H) {sub ty frm:Int} {sv:Value} (h1:1≤sub) (h7:sub≤7) (hK:∀ w',St w0 w' H→K (J (unTy sub ty frm)) w'):CallL P 218 [.agg #[J 3,J ty,J sub,J 0,sv],J frm] w K:=by
 refine f218_ok _ _ _ _ ?_
 rw [f218_eq,f218_s0_eq]
 refine h.newC fun n4 w5 hn4 h5=>?_
 have h5:St w0 w5 ((n4,Cs [J 3,J ty,J sub,J 0,sv] 258)::H):=h5
 have c:∀ i,w5.cell? (Addr.mk n4 i none)=[J 3,J ty,J sub,J 0,sv][i]?:=fun i=>h5.cell (k:=0) rfl
 have hK:=hK w5 (h5.tail hn4)
 have s4:∀ b,unTy sub ty frm=only b ty→f218_s4 (Addr.mk n4 0 none) b w5 K:=fun b hb=>by
  rw [f218_s4_eq]
  cases b with
  | true=>
   simp only [BIf_true]
   refine ⟨0,by rw [add_lit']; exact c 3,ty,by rw [add_lit']; exact c 1,only_ok ⟨_,rfl,?_⟩⟩
   rw [f218_s5_eq,← show unTy sub ty frm=only ((0:Int) == 0) ty from hb]; exact hK
  | false=>
   simp only [BIf_false]
   refine ⟨ty,by rw [add_lit']; exact c 1,only_ok ⟨_,rfl,?_⟩⟩
   rw [f218_s5_eq,← hb]; exact hK
 have cty:w5.cell? ((Addr.mk n4 0 none).add 1)=some (J ty):=by rw [add_lit']; exact c 1
 rw [f218_s1_eq,f218_s2_eq]
 refine ⟨sub,by rw [add_lit']; exact c 2,?_⟩
 rw [f218_s3_eq]
 have hs:sub=1∨sub=2∨sub=3∨sub=4∨sub=5∨sub=6∨sub=7:=by omega
 have bt:∀ (b:Bool) {A B:Prop},(b=true→A)→(b=false→B)→BIf b A B:=fun b=>BIf.intro
 rcases hs with rfl | rfl | rfl | rfl | rfl | rfl | rfl
 ·simp only [show ((1:Int) == 1)=true from rfl,BIf_true]
  exact ⟨ty,cty,s4 _ rfl⟩
 ·simp only [show ((2:Int) == 1)=false from rfl,show ((2:Int) == 2)=true from rfl,BIf_true,BIf_false]
  rw [f218_s6_eq]
  simp only [BIf_true]
  refine ⟨ty,cty,bt _ (fun hb=>s4 _ ?_) (fun hb=>s4 _ ?_)⟩
  ·show only (ty == 32 && decide (frm < 32)) ty=_; rw [hb,Bool.true_and]
  ·show only (ty == 32 && decide (frm < 32)) ty=_; rw [hb,Bool.false_and]
 ·simp only [show ((3:Int) == 1)=false from rfl,show ((3:Int) == 2)=false from rfl,show ((3:Int) == 3)=true from rfl,BIf_false]
  rw [f218_s6_eq]
  simp only [BIf_true]
  refine ⟨ty,cty,bt _ (fun hb=>s4 _ ?_) (fun hb=>s4 _ ?_)⟩
  ·show only (ty == 32 && decide (frm < 32)) ty=_; rw [hb,Bool.true_and]
  ·show only (ty == 32 && decide (frm < 32)) ty=_; rw [hb,Bool.false_and]
 ·simp only [show ((4:Int) == 1)=false from rfl,show ((4:Int) == 2)=false from rfl,show ((4:Int) == 3)=false from rfl,BIf_false]
  rw [f218_s6_eq]
  simp only [BIf_false,show ((4:Int) == 4)=true from rfl,BIf_true]
  refine bt _ (fun hb=>⟨ty,cty,bt _ (fun hc=>s4 _ ?_) (fun hc=>⟨ty,cty,s4 _ ?_⟩)⟩) (fun hb=>s4 _ ?_)
  ·show only (frm == 32 && (ty == 8 || ty == 16)) ty=_; rw [hb,hc]; rfl
  ·show only (frm == 32 && (ty == 8 || ty == 16)) ty=_; rw [hb,hc]; rfl
  ·show only (frm == 32 && (ty == 8 || ty == 16)) ty=_; rw [hb]; rfl
 ·simp only [show ((5:Int) == 1)=false from rfl,show ((5:Int) == 2)=false from rfl,show ((5:Int) == 3)=false from rfl,BIf_false]
  rw [f218_s6_eq]
  simp only [BIf_false,show ((5:Int) == 4)=false from rfl,show ((5:Int) == 5)=true from rfl,BIf_true]
  exact ⟨ty,cty,s4 _ rfl⟩
 ·simp only [show ((6:Int) == 1)=false from rfl,show ((6:Int) == 2)=false from rfl,show ((6:Int) == 3)=false from rfl,BIf_false]
  rw [f218_s6_eq]
  simp only [BIf_false,show ((6:Int) == 4)=false from rfl,show ((6:Int) == 5)=false from rfl,show ((6:Int) == 6)=true from rfl,BIf_true]
  refine bt _ (fun hb=>⟨ty,cty,storable_ok ⟨_,rfl,s4 _ ?_⟩⟩) (fun hb=>s4 _ ?_)
  ·show only (frm == 1 && storable ty) ty=_; rw [hb]; rfl
  ·show only (frm == 1 && storable ty) ty=_; rw [hb]; rfl
 ·simp only [show ((7:Int) == 1)=false from rfl,show ((7:Int) == 2)=false from rfl,show ((7:Int) == 3)=false from rfl,BIf_false]
  rw [f218_s6_eq]
  simp only [BIf_false,show ((7:Int) == 4)=false from rfl,show ((7:Int) == 5)=false from rfl,show ((7:Int) == 6)=false from rfl,show ((7:Int) == 7)=true from rfl,BIf_true]
  refine bt _ (fun hb=>⟨ty,cty,s4 _ ?_⟩) (fun hb=>s4 _ ?_)
  ·show only (frm == 32 && ty == 32) ty=_; rw [hb]; rfl
  ·show only (frm == 32 && ty == 32) ty=_; rw [hb]; rfl
def atom0:List Value:=[J 0,J 0,U 0,U 0,U 0,U 0]
def ty0 (t:Int):Int:=if (bytesOf t == 0)=true then 0 else t
theorem bvec (wq:World):(Instr.build 117 [].toArray).run P wq=.ok (.agg #[U 0,U 0,U 0,U 0]) wq:=by kernel_rfl
theorem nevec (wq:World):(do eqGuard .neq 117 (.tmp 20) (.tmp 21) (.agg #[U 0,U 0,U 0,U 0]) (.agg #[U 0,U 0,U 0,U 0]); binOp .neq 117 (.agg #[U 0,U 0,U 0,U 0]) (.agg #[U 0,U 0,U 0,U 0]):Sem Value).run P wq=.ok (.bool false) wq:=by kernel_rfl
theorem type0_ok (h:St w0 w H) {t:Int} {a:Addr} {c:Nat} (ha:∀ w',St w0 w' H→w'.cell? (a.add 0)=some (J t)) (hK:∀ w',St w0 w' H→K (J (ty0 t)) w'):CallL P 226 [.slice (some a) 1 c,.agg atom0.toArray] w K:=by
 refine f226_ok _ _ _ _ _ _ ?_
 rw [f226_eq]
 refine h.newC fun n2 w3 hn2 h3=>?_
 have h3:St w0 w3 ((n2,Cs atom0 254)::H):=h3
 have h4:=h3.tail hn2
 have c3:∀ i,w3.cell? (Addr.mk n2 i none)=atom0[i]?:=fun i=>h3.cell (k:=0) rfl
 refine ⟨0,c3 0,?_⟩
 simp only [show decide ((0:Int)≥0)=true from rfl,BIf_true]
 refine ⟨0,c3 0,?_⟩
 simp only [show decide ((0:Int)≥((1:Nat):Int))=false from rfl,BIf_false]
 refine ⟨0,by rw [add_lit']; exact c3 1,?_⟩
 simp only [show ((0:Int) != 0)=false from rfl,BIf_false]
 rw [add_lit']
 refine h3.ldA (k:=0) (i:=0+2) rfl (by simp [atom0]) ⟨_,bvec,false,nevec,?_⟩
 simp only [BIf_false]
 refine ⟨0,c3 0,by omega,by omega,t,ha w3 h4,bytes_ok ⟨_,rfl,?_⟩⟩
 have hK:=hK w3 h4
 unfold ty0 at hK
 rw [f226_s0_eq]
 cases hb:(bytesOf t == 0) with
 | true=>simp only [BIf_true]; rw [hb] at hK; exact hK
 | false=>
  simp only [BIf_false]
  rw [hb] at hK
  rw [f226_s1_eq]
  exact ⟨0,c3 0,by omega,by omega,t,ha w3 h4,hK⟩
theorem z254:∃ z:List Value,zcells P 254=z.toArray∧z.length=6:=⟨atom0,by kernel_rfl,rfl⟩
theorem splice_all (cs vs:List Value) (h:vs.length=cs.length):splice cs 0 vs=vs:=by
 rw [splice_eq _ _ _ (by omega)]
 simp [h]
theorem callF_fn {g:FuncId} {first cap:Array Value} {args:List Value} (he:enterable P g=true) (h:CallL P g (first.toList++args++cap.toList) w K):CallF P (.func (.func g) first cap) args w K:=by
 unfold CallF
 dsimp only
 rw [he]
 exact h
theorem types1_ok (h:St w0 w H) {a1 a2:Nat} {c1 c2:Nat} {t:Int} (h1:(a1,Cs [J t] 3)∈H) (h2:(a2,Cs atom0 254)∈H)
  (hK:∀ w' g cap cur,w0.heap.size≤g→cur.head?=some (J (ty0 t))→St w0 w' ((g,Cs cur 3)::H)→K (.slice (some (Addr.mk g 0 none)) 1 cap) w') :
  CallL P 214 [.slice (some (Addr.mk a1 0 none)) 1 c1,.slice (some (Addr.mk a2 0 none)) 1 c2] w K:=by
 refine f214_ok _ _ _ _ _ _ _ _ ?_
 rw [f214_eq]
 refine h.newC fun n2 w3 hn2 h3=>?_
 have h3:St w0 w3 ((n2,Cs [.slice (some (Addr.mk a1 0 none)) 1 c1] 259)::H):=h3
 refine f224_ok _ _ _ _ _ _ ?_
 rw [f224_eq]
 refine ⟨fun m e w'=>(m=1∧w'=w3∧e=Env.mk 22 [(10,J 0),(1,(.func (.func 225) #[] #[(.pointer (some (Addr.mk n2 0 none)))])),(5,.slice none 0 0),(8,.slice (some (Addr.mk a2 0 none)) 1 c2),(4,.slice none 0 0),(9,J 1)] [])∨
  (m=0∧∃ g cap cur,w0.heap.size≤g∧cur.head?=some (J (ty0 t))∧St w0 w' ((g,Cs cur 3)::H)∧e=Env.mk 22 [(10,J 1),(1,(.func (.func 225) #[] #[(.pointer (some (Addr.mk n2 0 none)))])),(5,.slice (some (Addr.mk g 0 none)) 1 cap),(8,.slice (some (Addr.mk a2 0 none)) 1 c2),(4,.slice none 0 0),(9,J 1)] []),
  ⟨1,.inl ⟨rfl,rfl,rfl⟩⟩,?_⟩
 rintro m e w' (⟨rfl,rfl,rfl⟩ | ⟨rfl,g,cap,cur,hg,hc,hs,rfl⟩)
 rotate_left
 ·show f224_lb0 ..
  rw [f224_lb0_eq]
  simp only [show decide ((1:Int) < 1)=false from rfl,BIf_false,f224_s3_eq]
  exact ⟨_,_,_,rfl,hK w' g cap cur hg hc hs⟩
 ·show f224_lb0 ..
  rw [f224_lb0_eq]
  simp only [show decide ((0:Int) < 1)=true from rfl,BIf_true]
  rw [f224_s1_eq]
  have m2:(a2,Cs atom0 254)∈((n2,Cs [.slice (some (Addr.mk a1 0 none)) 1 c1] 259)::H):=.tail _ h2
  refine ⟨by omega,by omega,?_⟩
  obtain ⟨z,hz,hzl⟩:=z254
  rw [hz,Int.toNat_zero,Nat.zero_mul,add_lit']
  refine LdA_of (h3.has _ _ m2) (by simp [atom0]) ?_
  refine h3.newC fun n16 w17 hn16 h17=>?_
  refine h17.stA (k:=0) rfl (by simp [atom0]) (by simp [hzl]) (by simp [atom0,Value.oneCell']) fun w18 h18=>?_
  have h18:St w0 w18 ((n16,Cs (splice z 0 atom0) 254)::(n2,Cs [.slice (some (Addr.mk a1 0 none)) 1 c1] 259)::H):=h18
  rw [splice_all _ _ (by rw [hzl]; rfl)] at h18
  refine h18.ldA (k:=0) (i:=0) rfl (by simp [atom0]) ?_
  have h19:=h18.tail hn16
  refine callF_fn (by kernel_rfl) (f225_ok _ _ _ _ ?_)
  rw [f225_eq]
  refine h19.newC fun n20 w20 hn20 h20=>⟨some (Addr.mk a1 0 none),1,c1,h20.cell (k:=1) rfl,h20.ldA (k:=0) (i:=0) rfl (by simp [atom0]) ?_⟩
  have h21:=h20.tail hn20
  refine type0_ok (t:=t) h21 (fun w' h'=>by rw [add_lit']; exact cell_of (h'.has _ _ (.tail _ h1))) fun w22 h22=>⟨_,rfl,⟨_,rfl,⟨rfl,trivial⟩,?_⟩⟩
  have h22':=h22.tail hn2
  refine h22'.newC fun n26 w24 hn26 h24=>?_
  have h24:St w0 w24 ([(n26,Cs [J (ty0 t)] 3)]++([]++H)):=h24
  obtain ⟨g,cap,w28,L',hr,hS,hs',hN⟩:=St.append (P:=P) 259 259 3 Tryz.t3 (J 0) 1 8 Tryz.underlying259 (by kernel_rfl) rfl rfl rfl rfl (by omega) h24 (SlO.nil 1 3) (New.nil w0) (j:=0) rfl rfl (by simp [Value.oneCell']) (by simp [maxLen]) (by omega)
  refine ⟨_,_,_,w28,hr,?_⟩
  rw [f224_s2_eq]
  refine ⟨0,by omega,.inr ⟨rfl,g,cap,?_⟩⟩
  rcases hS.2 with ⟨h0,_⟩ | ⟨g',cap',cur,e1,e2,e3,e4,e5,e6⟩
  ·cases h0
  ·injection e1 with e1 e1' e1''
   injection e1 with e1
   injection e1 with e1
   subst e1 e1''
   rw [e2] at hs' hN
   have hs'':St w0 w28 ((n26,Cs [J (ty0 t)] 3)::(g,Cs cur 3)::H):=hs'
   have hg:w0.heap.size≤g:=hN (g,Cs cur 3) (.head _)
   have hd:cur.head?=some (J (ty0 t)):=by
    cases cur with
    | nil=>simp at e6
    | cons x r=>simp at e6; simp [e6]
   exact ⟨cur,hg,hd,hs''.tail hn26,by rw [wrap_i64 (by omega) (by omega)]; rfl⟩
theorem exprUn_ok (h:St w0 w H) {a1 a2:Nat} {c1 c2:Nat} {frm ty sub:Int} (h1:(a1,Cs [J frm] 3)∈H) (h2:(a2,Cs atom0 254)∈H) (hs1:1≤sub) (hs7:sub≤7)
  (hK:∀ w',St w0 w' H→K (J (if bytesOf frm=0 then 0 else unTy sub ty frm)) w') :
  CallL P 212 [.slice (some (Addr.mk a1 0 none)) 1 c1,.agg #[J 3,J ty,J sub,J 0,.slice (some (Addr.mk a2 0 none)) 1 c2]] w K:=by
 refine f212_ok _ _ _ _ _ _ ?_
 rw [f212_eq,f212_s0_eq]
 refine h.newC fun n4 w5 hn4 h5=>?_
 have h5:St w0 w5 ((n4,Cs [J 3,J ty,J sub,J 0,.slice (some (Addr.mk a2 0 none)) 1 c2] 258)::H):=h5
 rw [f212_s1_eq]
 refine ⟨some (Addr.mk a2 0 none),1,c2,by rw [add_lit']; exact h5.cell (k:=0) rfl,types1_ok (t:=frm) h5 (.tail _ h1) (.tail _ h2) fun w6 g cap cur hg hcur h6=>⟨_,_,_,rfl,?_⟩⟩
 have c:∀ {w'},St w0 w' ((g,Cs cur 3)::(n4,Cs [J 3,J ty,J sub,J 0,.slice (some (Addr.mk a2 0 none)) 1 c2] 258)::H)→∀ i,w'.cell? (Addr.mk n4 i none)=[J 3,J ty,J sub,J 0,.slice (some (Addr.mk a2 0 none)) 1 c2][i]?:=fun h' i=>h'.cell (k:=1) rfl
 have d:∀ {w'},St w0 w' ((g,Cs cur 3)::(n4,Cs [J 3,J ty,J sub,J 0,.slice (some (Addr.mk a2 0 none)) 1 c2] 258)::H)→w'.cell? (Addr.mk g 0 none)=some (J (ty0 frm)):=fun h'=>by
  rw [h'.cell (k:=0) rfl,← hcur,List.head?_eq_getElem?]
 rw [f212_s2_eq]
 refine contains_ok (l:=[ty0 frm]) ⟨rfl,.inr ⟨_,_,rfl,fun i hi=>?_⟩⟩ (by simp) ⟨_,rfl,?_⟩
 ·have:i=0:=by simp at hi; omega
  subst this
  rw [add_lit']; exact d h6
 have hz:ty0 frm=0↔bytesOf frm=0:=by
  unfold ty0
  cases hb:(bytesOf frm == 0) with
  | true=>simpa using hb
  | false=>
   have hb:¬ bytesOf frm=0:=by simpa using hb
   simp only [Bool.false_eq_true,if_false]
   exact ⟨fun h=>by subst h; exact absurd rfl hb,fun h=>absurd h hb⟩
 have hdone:∀ {w'},St w0 w' ((g,Cs cur 3)::(n4,Cs [J 3,J ty,J sub,J 0,.slice (some (Addr.mk a2 0 none)) 1 c2] 258)::H)→St w0 w' H:=fun h'=>(h'.tail hg).tail hn4
 rw [BIf_iff]
 refine ⟨fun hb=>?_,fun hb=>?_⟩
 ·have:ty0 frm=0:=by simpa [eq_comm] using hb
  have hK:=hK w6 (hdone h6)
  rw [if_pos (hz.1 this)] at hK
  exact hK
 ·have hne:¬ ty0 frm=0:=by simpa [eq_comm] using hb
  have hne':¬ bytesOf frm=0:=fun h=>hne (hz.2 h)
  have hty:ty0 frm=frm:=by unfold ty0; rw [if_neg (by simpa using hne')]
  rw [f212_s3_eq]
  refine ⟨sub,by rw [add_lit']; exact c h6 2,?_⟩
  simp only [show (sub == 0)=false by simp; omega,BIf_false]
  rw [f212_s4_eq]
  refine ⟨3,c h6 0,?_⟩
  simp only [show ((3:Int) == 1)=false from rfl,BIf_false]
  rw [f212_s5_eq]
  simp only [BIf_false]
  refine ⟨3,c h6 0,?_⟩
  simp only [show ((3:Int) == 2)=false from rfl,BIf_false]
  rw [f212_s7_eq]
  simp only [BIf_false]
  refine ⟨3,c h6 0,?_⟩
  simp only [show ((3:Int) == 3)=true from rfl,BIf_true,show ((((1:Nat):Int)) == 1)=true from rfl]
  rw [f212_s9_eq]
  simp only [BIf_true]
  have h7:=h6.drew
  refine ⟨by omega,by omega,h7.ldA (k:=1) (i:=0) rfl (by simp) ⟨ty0 frm,by rw [Int.toNat_zero,Nat.zero_mul,add_lit']; exact d h7,?_⟩⟩
  rw [hty]
  refine un_ok h7 hs1 hs7 fun w8 h8=>⟨_,rfl,?_⟩
  rw [f212_s10_eq]
  have hK:=hK w8 (hdone h8)
  rw [if_neg hne'] at hK
  exact hK
theorem batom (wq:World):(Instr.build 254 [].toArray).run P wq=.ok (.agg atom0.toArray) wq:=by kernel_rfl
theorem bun (ty sub:Int) (p:Option Addr) (l cp:Nat) (wq:World):(Instr.build 258 [(0,J 3),(2,J sub),(1,J ty),(4,.slice p l cp)].toArray).run P wq=.ok (.agg #[J 3,J ty,J sub,J 0,.slice p l cp]) wq:=by kernel_rfl
def HIcs (x:HI):List Value:=[J x.op,J x.sub,J x.frm,J x.ty,J x.d,J x.a,J x.b,J x.c,J x.k,U x.i,U x.chain,U x.v0,U x.v1,U x.v2,U x.v3]
theorem unary_ok (h:St w0 w H) {x:HI} (hK:∀ w',St w0 w' H→K (.bool (unary x)) w'):CallL P 202 [.agg (HIcs x).toArray] w K:=by
 refine f202_ok _ _ _ ?_
 rw [f202_eq]
 refine h.newC fun n1 w2 hn1 h2=>?_
 have h2:St w0 w2 ((n1,Cs (HIcs x) 119)::H):=h2
 have c:∀ {w'},St w0 w' ((n1,Cs (HIcs x) 119)::H)→∀ i,w'.cell? (Addr.mk n1 i none)=(HIcs x)[i]?:=fun h' i=>h'.cell (k:=0) rfl
 have fls:unary x=false→f202_s0 true (Addr.mk n1 0 none) w2 K:=fun hu=>by
  rw [f202_s0_eq]; simp only [BIf_true]; rw [← hu]; exact hK _ (h2.tail hn1)
 refine ⟨x.sub,by rw [add_lit']; exact c h2 1,within_ok ⟨_,rfl,?_⟩⟩
 rw [BIf_iff]
 refine ⟨fun hb=>fls ?_,fun hb=>?_⟩
 ·have hb:within x.sub 1 7=false:=by simpa using hb
  unfold unary; rw [hb]; rfl
 have hw:within x.sub 1 7=true:=by simpa using hb
 refine ⟨x.frm,by rw [add_lit']; exact c h2 2,?_⟩
 rw [BIf_iff]
 refine ⟨fun hb=>fls ?_,fun hb=>⟨x.ty,by rw [add_lit']; exact c h2 3,?_⟩⟩
 ·unfold unary; rw [hb]; simp
 have hf:=hb
 rw [f202_s0_eq,BIf_iff]
 refine ⟨fun hb=>?_,fun hb=>?_⟩
 ·have:unary x=false:=by unfold unary; rw [hb]; simp
  rw [← this]; exact hK _ (h2.tail hn1)
 have ht:=hb
 rw [f202_s1_eq]
 refine ⟨x.frm,by rw [add_lit']; exact c h2 2,⟨rfl,trivial⟩,h2.newC fun n14 w12 hn14 h12=>?_⟩
 have h12:St w0 w12 ((n14,Cs [J x.frm] 3)::(n1,Cs (HIcs x) 119)::H):=h12
 refine ⟨x.sub,by rw [add_lit']; exact h12.cell (k:=1) rfl,x.ty,by rw [add_lit']; exact h12.cell (k:=1) rfl,_,batom,⟨rfl,trivial⟩,h12.newC fun n21 w19 hn21 h19=>⟨_,bun _ _ _ _ _,?_⟩⟩
 have h19:St w0 w19 ((n21,Cs atom0 254)::(n14,Cs [J x.frm] 3)::(n1,Cs (HIcs x) 119)::H):=h19
 have hw':1≤x.sub∧x.sub≤7:=by unfold within at hw; simpa using hw
 refine exprUn_ok h19 (.tail _ (.head _)) (.head _) hw'.1 hw'.2 fun w24 h24=>⟨_,rfl,?_⟩
 have hK:=hK w24 (((h24.tail hn21).tail hn14).tail hn1)
 unfold unary at hK
 rw [hw,hf,ht] at hK
 by_cases h0:bytesOf x.frm=0
 ·rw [h0] at hK
  rw [if_pos h0]; exact hK
 ·rw [if_neg h0]
  have:(bytesOf x.frm != 0)=true:=by simpa using h0
  rw [this] at hK
  simpa using hK
end Go.Fx.Tryz
namespace Go.Fx.Tryz
set_option maxRecDepth 100000
open Go Go.Fx Go.Proofs
noncomputable def c54:Code:=bodyOf Tryz.f54
noncomputable def rs54:List ResultVar:=Tryz.f54.results.toList
abbrev f54_kb (K:KT):Exit→YT:=bodyK P rs54 K
def f54 (a:OA) (b c:Nat) (w:World) (K:KT):Prop:=CS P c54 none [2,3] [2,3] (f54_kb K) (env0 68 [(VS a b c)]) w
def f54_s0 (a:OA) (b c:Nat) (d:Int) (f:OA) (g h:Nat) (i:OA) (j k:Nat) (w:World) (K:KT):Prop:=SG P (cA c54 15) none [2,3] [2,3] (f54_kb K) (Env.mk 68 [(2,(VS a b c)),(3,(VI d)),(4,(VS f g h)),(0,(VS i j k))] []) w
abbrev f54_k6 (K:KT):Exit→YT:=kseq P (cA c54 62) (cA c54 63) none [2,3] [2,3] (f54_kb K)
abbrev f54_k8 (K:KT):Exit→YT:=kblock 0 (f54_k6 K)
def f54_lp1 (K:KT) (Y1:YT) (e:Env) (w:World):Prop:=Join (fun e w=>CS P (cA c54 500) none [2,3,7,21,4,0,19,20] [2,3,7] (kloop [2,3,7,21,4,0,19,20] Y1 (f54_k8 K)) e w) e w
abbrev f54_kl1 (K:KT) (Y1:YT):Exit→YT:=kloop [2,3,7,21,4,0,19,20] Y1 (f54_k8 K)
def f54_lb1 (a:OA) (b c:Nat) (d:Int) (f:OA) (g h:Nat) (i:Int) (j:OA) (k l:Nat) (m:OA) (n o:Nat) (p:OA) (q r:Nat) (s:Int) (w:World) (K:KT) (Y1:YT):Prop:=SG P (cA c54 500) none [2,3,7,21,4,0,19,20] [2,3,7] (f54_kl1 K Y1) (Env.mk 68 [(2,(VS a b c)),(3,(VI d)),(7,(VS f g h)),(21,(VI i)),(4,(VS j k l)),(0,(VS m n o)),(19,(VS p q r)),(20,(VI s))] []) w
def f54_s2 (a:OA) (b c:Nat) (d:Int) (f:OA) (g h:Nat) (i:OA) (j k:Nat) (l:OA) (m n:Nat) (o:OA) (p q:Nat) (r s:Int) (w:World) (K:KT) (Y1:YT):Prop:=SG P (cA c54 2003) none [2,3,7,21,4,0,19,20] [2,3,7] (f54_kl1 K Y1) (Env.mk 68 [(2,(VS a b c)),(3,(VI d)),(7,(VS f g h)),(4,(VS i j k)),(0,(VS l m n)),(19,(VS o p q)),(20,(VI r)),(21,(VI s))] []) w
abbrev f54_k11 (K:KT) (Y1:YT):Exit→YT:=kseq P (cA c54 4006) (cA c54 4007) none [2,3,7,21,4,0,19,20] [2,3,7] (f54_kl1 K Y1)
abbrev f54_k12 (K:KT) (Y1:YT):Exit→YT:=kblock 1 (f54_k11 K Y1)
abbrev f54_k14 (K:KT) (Y1:YT):Exit→YT:=kseq P (cA c54 32050) (cA c54 32051) none [2,3,7,4,0,19,20,21] [2,3,7,4,0,19,20,21] (f54_k12 K Y1)
def f54_s3 (a:Bool) (b:OA) (c d:Nat) (f:Int) (g:OA) (h i:Nat) (j:OA) (k l:Nat) (m:OA) (n o:Nat) (p:OA) (q r:Nat) (s t:Int) (u:Addr) (v:Int) (w:World) (K:KT) (Y1:YT):Prop:=SG P (cA c54 64101) none [2,3,4,0,19,20,21,9,7,8] [2,3,7,4,0,19,20,21] (f54_k14 K Y1) (Env.mk 68 [(35,(VB a)),(2,(VS b c d)),(3,(VI f)),(7,(VS g h i)),(4,(VS j k l)),(0,(VS m n o)),(19,(VS p q r)),(20,(VI s)),(21,(VI t)),(9,(VP (some u))),(8,(VI v))] []) w
def f54_s4 (a:OA) (b c:Nat) (d:Int) (f:OA) (g h:Nat) (i:OA) (j k:Nat) (l:OA) (m n:Nat) (o:OA) (p q:Nat) (r s:Int) (w:World) (K:KT) (Y1:YT):Prop:=SG P (cA c54 4007) none [2,3,7,21,4,0,19,20] [2,3,7] (f54_kl1 K Y1) (Env.mk 68 [(2,(VS a b c)),(3,(VI d)),(7,(VS f g h)),(4,(VS i j k)),(0,(VS l m n)),(19,(VS o p q)),(20,(VI r)),(21,(VI s))] []) w
theorem f54_s4_eq (a:OA) (b c:Nat) (d:Int) (e:OA) (f g:Nat) (h:OA) (i j:Nat) (k:OA) (l m:Nat) (n:OA) (o p:Nat) (q r:Int) (w:World) (K:KT) (Y1:YT):f54_s4 a b c d e f g h i j k l m n o p q r w K Y1=(Y1 (Env.mk 68 [(2,(Value.slice a b c)),(3,(Value.int .i64 d)),(7,(Value.slice e f g)),(21,(Value.int .i64 (IntKind.wrap .i64 ((r:Int)+1)))),(4,(Value.slice h i j)),(0,(Value.slice k l m)),(19,(Value.slice n o p)),(20,(Value.int .i64 q))] []) w):=by kernel_rfl
def f54_s5 (a:OA) (b c:Nat) (d:Int) (f:OA) (g h:Nat) (i:OA) (j k:Nat) (l:OA) (m n:Nat) (o p:Int) (q:Addr) (r:OA) (s t:Nat) (u:Int) (w:World) (K:KT) (Y1:YT):Prop:=SG P (cA c54 32051) none [2,3,7,4,0,19,20,21] [2,3,7,4,0,19,20,21] (f54_k12 K Y1) (Env.mk 68 [(2,(VS a b c)),(3,(VI d)),(4,(VS f g h)),(0,(VS i j k)),(19,(VS l m n)),(20,(VI o)),(21,(VI p)),(9,(VP (some q))),(7,(VS r s t)),(8,(VI u))] []) w
def f54_s6 (a:OA) (b c:Nat) (d:Int) (f:OA) (g h:Nat) (i:OA) (j k:Nat) (l:OA) (m n:Nat) (o p:Int) (q:Addr) (r:Int) (s:OA) (t u:Nat) (w:World) (K:KT) (Y1:YT):Prop:=SG P (cA c54 128207) none [2,3,7,4,0,19,20,21] [2,3,7,4,0,19,20,21] (f54_k12 K Y1) (Env.mk 68 [(2,(VS a b c)),(3,(VI d)),(4,(VS f g h)),(0,(VS i j k)),(19,(VS l m n)),(20,(VI o)),(21,(VI p)),(9,(VP (some q))),(10,(VI r)),(7,(VS s t u))] []) w
theorem f54_s6_eq (c:OA) (d e:Nat) (f:Int) (g:OA) (h i:Nat) (j:OA) (k l:Nat) (m:OA) (n o:Nat) (p q:Int) (a:Addr) (r:Int) (s:OA) (t u:Nat) (w:World) (K:KT) (Y1:YT):f54_s6 c d e f g h i j k l m n o p q a r s t u w K Y1=(∃ x:Int,w.cell? (a.add 15)=some (.int .i64 x)∧∃ y:Int,w.cell? (a.add 9)=some (.int .u32 y)∧∃ z:Int,w.cell? (a.add 8)=some (.int .i64 z)∧∃ a0:Int,w.cell? (a.add 10)=some (.int .u32 a0)∧∃ b:Array Value,(∀ wq,(Instr.build 62 [(0,(Value.int .i64 x)),(1,(Value.int .i64 (IntKind.wrap .i64 ((r:Int) - 4)))),(2,(Value.int .u32 y)),(3,(Value.int .i64 z)),(4,(Value.int .u32 a0))].toArray).run P wq=.ok (.agg b) wq)∧sizesAre 5 [(Value.agg b)]∧NewC (([(Value.agg b)].map fun (v:Value)=>v.cells.toList).flatten.toArray) 62 w (fun f0 g0=>∃ (b0:OA) (c0 d0:Nat),∃ e0:World,(Builtin.append_ #[58,58] 58 [(Value.slice s t u),(Value.slice (some (Addr.mk f0 0 none)) 1 1)].toArray).run P g0=.ok (.slice b0 c0 d0) e0∧f54_s4 c d e f b0 c0 d0 g h i j k l m n o p q e0 K Y1)):=by kernel_rfl
theorem f54_s5_eq (e:OA) (f g:Nat) (h:Int) (c:OA) (a i:Nat) (j:OA) (d k:Nat) (l:OA) (m n:Nat) (o p:Int) (q:Addr) (r:OA) (s t:Nat) (b:Int) (w:World) (K:KT) (Y1:YT):f54_s5 e f g h c a i j d k l m n o p q r s t b w K Y1=(BIf (decide (((IntKind.wrap .i64 ((b:Int)+1)):Int) < ((a:Nat):Int))) (optS c (fun v=>0≤((IntKind.wrap .i64 ((b:Int)+1)):Int)∧((IntKind.wrap .i64 ((b:Int)+1)):Int) < (a:Nat)∧∃ u:Int,w.cell? ((v.add (Int.toNat (IntKind.wrap .i64 ((b:Int)+1)) * 16)).add 15)=some (.int .i64 u)∧f54_s6 e f g h c a i j d k l m n o p q u r s t w K Y1)) (f54_s6 e f g h c a i j d k l m n o p q ((d:Nat):Int) r s t w K Y1)):=by kernel_rfl
theorem f54_s3_eq (s:Bool) (a:OA) (b c:Nat) (d:Int) (e:OA) (f g:Nat) (h:OA) (i j:Nat) (k:OA) (l m:Nat) (n:OA) (o p:Nat) (q r:Int) (t:Addr) (u:Int) (w:World) (K:KT) (Y1:YT):f54_s3 s a b c d e f g h i j k l m n o p q r t u w K Y1=(BIf s (f54_s4 a b c d e f g h i j k l m n o p q r w K Y1) (f54_s5 a b c d h i j k l m n o p q r t e f g u w K Y1)):=by kernel_rfl
theorem f54_s2_eq (f:OA) (g h:Nat) (i:Int) (j:OA) (k l:Nat) (m:OA) (n o:Nat) (p:OA) (q r:Nat) (c:OA) (d s:Nat) (t a:Int) (w:World) (K:KT) (Y1:YT):f54_s2 f g h i j k l m n o p q r c d s t a w K Y1=(optS c (fun x=>0≤(a:Int)∧(a:Int) < (d:Nat)∧LdA 16 (x.add (Int.toNat a * 16)) w (fun y=>NewC (zcells P 151) 151 w (fun b z=>StA 16 (Addr.mk b 0 none) y z (fun e=>∃ u:Int,e.cell? (Addr.mk b 0 none)=some (.int .i64 u)∧BIf ((u:Int) != 39) (∃ v:Int,e.cell? (Addr.mk b 0 none)=some (.int .i64 v)∧f54_s3 ((v:Int) != 40) f g h i j k l m n o p q r c d s t a (Addr.mk b 0 none) a e K Y1) (f54_s3 false f g h i j k l m n o p q r c d s t a (Addr.mk b 0 none) a e K Y1)))))):=by kernel_rfl
def f54_s7 (a:OA) (b c:Nat) (w:World) (K:KT):Prop:=SG P (cA c54 63) none [2,3] [2,3] (f54_kb K) (Env.mk 68 [(7,(VS a b c))] []) w
theorem f54_s7_eq (a:OA) (b c:Nat) (w:World) (K:KT):f54_s7 a b c w K=(K (Value.tuple [(Value.slice a b c),(Value.int .i64 0)].toArray) w):=by kernel_rfl
theorem f54_lb1_eq (f:OA) (g h:Nat) (i:Int) (a:OA) (b c:Nat) (d:Int) (j:OA) (k l:Nat) (m:OA) (n o:Nat) (p:OA) (q r:Nat) (e:Int) (w:World) (K:KT) (Y1:YT):f54_lb1 f g h i a b c d j k l m n o p q r e w K Y1=(BIf (decide ((d:Int) < e)) (f54_s2 f g h i a b c j k l m n o p q r e d w K Y1) (f54_s7 a b c w K)):=by kernel_rfl
theorem f54_s0_eq (d:OA) (e f:Nat) (g:Int) (b:OA) (a c:Nat) (h:OA) (i j:Nat) (w:World) (K:KT):f54_s0 d e f g b a c h i j w K=(LoopE (f54_lp1 K) (Env.mk 68 [(2,(Value.slice d e f)),(3,(Value.int .i64 g)),(7,(Value.slice none 0 0)),(21,(Value.int .i64 0)),(4,(Value.slice b a c)),(0,(Value.slice h i j)),(19,(Value.slice b a c)),(20,(Value.int .i64 ((a:Nat):Int)))] []) w):=by kernel_rfl
theorem f54_eq (a:OA) (b c:Nat) (w:World) (K:KT):f54 a b c w K=(CallL P 98 [(Value.slice a b c)] w (fun i d=>∃ (e:OA) (f g:Nat),∃ j:Int,∃ h:Bool,i=(.tuple [(Value.slice e f g),(Value.int .i64 j),(Value.bool h)].toArray)∧BIf (!h) (K (Value.tuple [(Value.slice none 0 0),(Value.int .i64 170)].toArray) d) (f54_s0 none 0 0 0 e f g a b c d K))):=by kernel_rfl
theorem f54_ok (a:OA) (b c:Nat) (w:World) (K:KT) (h:f54 a b c w K):CallL P 54 [(Value.slice a b c)] w K:=okCS c54 Tryz.func54 (by kernel_rfl) (by kernel_rfl) h
noncomputable def c98:Code:=bodyOf Tryz.f98
noncomputable def rs98:List ResultVar:=Tryz.f98.results.toList
abbrev f98_kb (K:KT):Exit→YT:=bodyK P rs98 K
def f98 (a:OA) (b c:Nat) (w:World) (K:KT):Prop:=CS P c98 none [2,3,4] [2,3,4] (f98_kb K) (env0 69 [(VS a b c)]) w
def f98_s0 (a:OA) (b c:Nat) (w:World) (K:KT):Prop:=CS P (cA c98 1) none [2,3,4] [2,3,4] (f98_kb K) (Env.mk 69 [(0,(VS a b c))] []) w
abbrev f98_k0 (K:KT):Exit→YT:=kseq P (cA c98 2) (cA c98 3) none [2,3,4] [2,3,4] (f98_kb K)
def f98_s1 (a:Int) (b:OA) (c d:Nat) (e:OA) (f g:Nat) (w:World) (K:KT):Prop:=CS P (cA c98 3) none [2,3,4] [2,3,4] (f98_kb K) (Env.mk 69 [(4,(VB false)),(3,(VI a)),(2,(VS b c d)),(0,(VS e f g))] []) w
abbrev f98_k1 (K:KT):Exit→YT:=kseq P (cA c98 6) (cA c98 7) none [2,3,4] [2,3,4] (f98_kb K)
abbrev f98_k2 (K:KT):Exit→YT:=kseq P (cA c98 12) (cA c98 13) none [0,2,3,4] [2,3,4] (f98_k1 K)
def f98_s2 (a:OA) (b c:Nat) (d:OA) (f g:Nat) (h:Int) (i:Bool) (w:World) (K:KT):Prop:=SG P (cA c98 7) none [2,3,4] [2,3,4] (f98_kb K) (Env.mk 69 [(0,(VS a b c)),(2,(VS d f g)),(3,(VI h)),(4,(VB i))] []) w
abbrev f98_k4 (K:KT):Exit→YT:=kseq P (cA c98 14) (cA c98 15) none [2,3,4] [2,3,4] (f98_kb K)
def f98_s3 (a:OA) (b c:Nat) (d:OA) (e f:Nat) (g:OA) (h i:Nat) (j:Int) (k:Bool) (w:World) (K:KT):Prop:=CS P (cA c98 15) none [2,3,4] [2,3,4] (f98_kb K) (Env.mk 69 [(5,(VS a b c)),(0,(VS d e f)),(2,(VS g h i)),(3,(VI j)),(4,(VB k))] []) w
abbrev f98_k5 (K:KT):Exit→YT:=kseq P (cA c98 30) (cA c98 31) none [2,3,4] [2,3,4] (f98_kb K)
abbrev f98_k6 (K:KT):Exit→YT:=kseq P (cA c98 60) (cA c98 61) none [0,5] [2,3,4] (f98_k5 K)
def f98_s4 (a:Int) (b:OA) (c d:Nat) (e:OA) (f g:Nat) (h:OA) (i j:Nat) (k:Int) (l:Bool) (w:World) (K:KT):Prop:=CS P (cA c98 61) none [0,5] [2,3,4] (f98_k5 K) (Env.mk 69 [(6,(VI a)),(5,(VS b c d)),(0,(VS e f g)),(2,(VS h i j)),(3,(VI k)),(4,(VB l))] []) w
abbrev f98_k7 (K:KT):Exit→YT:=kblock 0 (f98_k5 K)
def f98_lp5 (K:KT) (Y5:YT) (e:Env) (w:World):Prop:=Join (fun e w=>CS P (cA c98 244) none [0,5,6,2,3,4] [2,3,4,0,5] (kloop [0,5,6,2,3,4] Y5 (f98_k7 K)) e w) e w
abbrev f98_kl5 (K:KT) (Y5:YT):Exit→YT:=kloop [0,5,6,2,3,4] Y5 (f98_k7 K)
def f98_lb5 (a:OA) (b c:Nat) (d:OA) (f g:Nat) (h:Int) (i:OA) (j k:Nat) (l:Int) (m:Bool) (w:World) (K:KT) (Y5:YT):Prop:=SG P (cA c98 244) none [0,5,6,2,3,4] [2,3,4,0,5] (f98_kl5 K Y5) (Env.mk 69 [(0,(VS a b c)),(5,(VS d f g)),(6,(VI h)),(2,(VS i j k)),(3,(VI l)),(4,(VB m))] []) w
abbrev f98_k8 (K:KT) (Y5:YT):Exit→YT:=kseq P (cA c98 488) (cA c98 489) none [0,5,6,2,3,4] [2,3,4,0,5] (f98_kl5 K Y5)
abbrev f98_k9 (K:KT) (Y5:YT):Exit→YT:=kseq P (cA c98 976) (cA c98 977) none [0,5,6,2,3,4] [2,3,4,0,5] (f98_k8 K Y5)
def f98_s6 (a:OA) (b c:Nat) (d:OA) (f g:Nat) (h:Int) (i:OA) (j k:Nat) (l:Int) (m:Bool) (w:World) (K:KT) (Y5:YT):Prop:=SG P (cA c98 489) none [0,5,6,2,3,4] [2,3,4,0,5] (f98_kl5 K Y5) (Env.mk 69 [(0,(VS a b c)),(5,(VS d f g)),(6,(VI h)),(2,(VS i j k)),(3,(VI l)),(4,(VB m))] []) w
abbrev f98_k10 (K:KT) (Y5:YT):Exit→YT:=kblock 1 (f98_kl5 K Y5)
abbrev f98_k11 (K:KT) (Y5:YT):Exit→YT:=kseq P (cA c98 1956) (cA c98 1957) none [0,5,6,2,3,4] [2,3,4,0,5,6] (f98_k10 K Y5)
abbrev f98_k12 (K:KT) (Y5:YT):Exit→YT:=kseq P (cA c98 3914) (cA c98 3915) none [0,5,6,2,3,4] [2,3,4,0,5,6] (f98_k10 K Y5)
def f98_s7 (a:Bool) (b:OA) (c d:Nat) (f:OA) (g h:Nat) (i:Int) (j:OA) (k l:Nat) (m:Int) (n:Bool) (o:Int) (p:Addr) (w:World) (K:KT) (Y5:YT):Prop:=SG P (cA c98 7829) none [0,2,3,4,8,6,7,5] [2,3,4,0,5,6] (f98_k12 K Y5) (Env.mk 69 [(41,(VB a)),(0,(VS b c d)),(5,(VS f g h)),(6,(VI i)),(2,(VS j k l)),(3,(VI m)),(4,(VB n)),(8,(VI o)),(7,(VP (some p)))] []) w
def f98_s8 (a:OA) (b c:Nat) (d:OA) (f g:Nat) (h:Int) (i:Bool) (j k:Int) (l:Addr) (m:OA) (n o:Nat) (w:World) (K:KT) (Y5:YT):Prop:=SG P (cA c98 3915) none [0,5,6,2,3,4] [2,3,4,0,5,6] (f98_k10 K Y5) (Env.mk 69 [(0,(VS a b c)),(2,(VS d f g)),(3,(VI h)),(4,(VB i)),(8,(VI j)),(6,(VI k)),(7,(VP (some l))),(5,(VS m n o))] []) w
abbrev f98_k15 (K:KT) (Y5:YT):Exit→YT:=kseq P (cA c98 7830) (cA c98 7831) none [0,5,6,2,3,4] [2,3,4,0,5,6] (f98_k10 K Y5)
theorem f98_s8_eq (d:OA) (e f:Nat) (g:OA) (h i:Nat) (j:Int) (k:Bool) (l c:Int) (m:Addr) (n:OA) (o p:Nat) (w:World) (K:KT) (Y5:YT):f98_s8 d e f g h i j k l c m n o p w K Y5=(LdA 15 m w (fun x=>∃ q:Array Value,(∀ wq,(Instr.build 151 [(0,(Value.agg x)),(1,(Value.int .i64 c))].toArray).run P wq=.ok (.agg q) wq)∧sizesAre 16 [(Value.agg q)]∧NewC (([(Value.agg q)].map fun (v:Value)=>v.cells.toList).flatten.toArray) 151 w (fun y z=>∃ (r:OA) (s t:Nat),∃ u:World,(Builtin.append_ #[147,147] 147 [(Value.slice n o p),(Value.slice (some (Addr.mk y 0 none)) 1 1)].toArray).run P z=.ok (.slice r s t) u∧Y5 (Env.mk 69 [(0,(Value.slice d e f)),(5,(Value.slice r s t)),(6,(Value.int .i64 (IntKind.wrap .i64 ((c:Int)+l)))),(2,(Value.slice g h i)),(3,(Value.int .i64 j)),(4,(Value.bool k))] []) u))):=Eq.trans SGe (Eq.trans (CSs [0,5,2,3,4,8,6] (f98_k15 K Y5) (by kernel_rfl)) (by kernel_rfl))
theorem f98_s7_eq (c:Bool) (d:OA) (e f:Nat) (g:OA) (h i:Nat) (a:Int) (j:OA) (k l:Nat) (m:Int) (n:Bool) (o:Int) (p:Addr) (w:World) (K:KT) (Y5:YT):f98_s7 c d e f g h i a j k l m n o p w K Y5=(BIf c (K (Value.tuple [(Value.slice none 0 0),(Value.int .i64 a),(Value.bool false)].toArray) w) (f98_s8 d e f j k l m n o a p g h i w K Y5)):=Eq.trans SGe (by kernel_rfl)
theorem f98_s6_eq (d:OA) (e f:Nat) (g:OA) (c i:Nat) (h:Int) (j:OA) (k l:Nat) (m:Int) (n:Bool) (w:World) (K:KT) (Y5:YT):f98_s6 d e f g c i h j k l m n w K Y5=(∃ (r:OA) (s t:Nat),(∀ wq,(Instr.sliceAt 38 (Value.slice d e f) (some (.int .i64 h)) none none).run P wq=.ok (.slice r s t) wq)∧CallL P 138 [(Value.slice r s t)] w (fun y z=>∃ u:Array Value,∃ o:Int,∃ v:Int,y=(.tuple [(Value.agg u),(Value.int .i64 o),(Value.int .i64 v)].toArray)∧NewC (zcells P 119) 119 z (fun p a0=>StA 15 (Addr.mk p 0 none) u a0 (fun q=>BIf ((v:Int) != 0) (f98_s7 true d e f g c i h j k l m n o (Addr.mk p 0 none) q K Y5) (BIf (decide ((((c:Nat):Int):Int) > 0)) (optS g (fun b0=>0≤((IntKind.wrap .i64 ((((c:Nat):Int):Int) - 1)):Int)∧((IntKind.wrap .i64 ((((c:Nat):Int):Int) - 1)):Int) < (c:Nat)∧LdA 15 (b0.add (Int.toNat (IntKind.wrap .i64 ((((c:Nat):Int):Int) - 1)) * 16)) q (fun c0=>CallL P 139 [(Value.agg c0)] q (fun d0 e0=>∃ x:Bool,d0=(.bool x)∧f98_s7 x d e f g c i h j k l m n o (Addr.mk p 0 none) e0 K Y5)))) (f98_s7 false d e f g c i h j k l m n o (Addr.mk p 0 none) q K Y5)))))):=Eq.trans SGe (Eq.trans (CSb 1 [2,3,4,0,5,6] (f98_k10 K Y5) (by kernel_rfl)) (Eq.trans (CSs [0,5,6,2,3,4,8,7,9] (f98_k11 K Y5) (by kernel_rfl)) (by kernel_rfl)))
def f98_s9 (a:OA) (b c:Nat) (d:OA) (f g:Nat) (w:World) (K:KT):Prop:=SG P (cA c98 31) none [2,3,4] [2,3,4] (f98_kb K) (Env.mk 69 [(0,(VS a b c)),(5,(VS d f g))] []) w
abbrev f98_k16 (K:KT):Exit→YT:=kseq P (cA c98 62) (cA c98 63) none [2,3,4] [2,3,4] (f98_kb K)
abbrev f98_k17 (K:KT):Exit→YT:=kseq P (cA c98 124) (cA c98 125) none [5] [2,3,4] (f98_k16 K)
def f98_s10 (a:Bool) (b:OA) (c d:Nat) (f:OA) (g h:Nat) (w:World) (K:KT):Prop:=SG P (cA c98 125) none [5] [2,3,4] (f98_k16 K) (Env.mk 69 [(65,(VB a)),(0,(VS b c d)),(5,(VS f g h))] []) w
def f98_s11 (a:OA) (b c:Nat) (w:World) (K:KT):Prop:=SG P (cA c98 63) none [2,3,4] [2,3,4] (f98_kb K) (Env.mk 69 [(5,(VS a b c))] []) w
abbrev f98_k19 (K:KT):Exit→YT:=kseq P (cA c98 126) (cA c98 127) none [2,3,4] [2,3,4] (f98_kb K)
theorem f98_s11_eq (c:OA) (d e:Nat) (w:World) (K:KT):f98_s11 c d e w K=(K (Value.tuple [(Value.slice c d e),(Value.int .i64 0),(Value.bool true)].toArray) w):=Eq.trans SGe (Eq.trans (CSs [2,3,4] (f98_k19 K) (by kernel_rfl)) (by kernel_rfl))
theorem f98_s10_eq (a:Bool) (g:OA) (c h:Nat) (d:OA) (e f:Nat) (w:World) (K:KT):f98_s10 a g c h d e f w K=(BIf a (K (Value.tuple [(Value.slice none 0 0),(Value.int .i64 ((c:Nat):Int)),(Value.bool false)].toArray) w) (f98_s11 d e f w K)):=Eq.trans SGe (by kernel_rfl)
theorem f98_s9_eq (e:OA) (f g:Nat) (d:OA) (c h:Nat) (w:World) (K:KT):f98_s9 e f g d c h w K=(BIf ((((c:Nat):Int):Int) == 0) (f98_s10 true e f g d c h w K) (optS d (fun j=>0≤((IntKind.wrap .i64 ((((c:Nat):Int):Int) - 1)):Int)∧((IntKind.wrap .i64 ((((c:Nat):Int):Int) - 1)):Int) < (c:Nat)∧LdA 15 (j.add (Int.toNat (IntKind.wrap .i64 ((((c:Nat):Int):Int) - 1)) * 16)) w (fun k=>CallL P 139 [(Value.agg k)] w (fun l m=>∃ i:Bool,l=(.bool i)∧f98_s10 (!i) e f g d c h m K))))):=Eq.trans SGe (Eq.trans (CSs [5] (f98_k16 K) (by kernel_rfl)) (Eq.trans (CSs [65,0,5] (f98_k17 K) (by kernel_rfl)) (by kernel_rfl)))
theorem f98_lb5_eq (d:OA) (c e:Nat) (f:OA) (g h:Nat) (i:Int) (j:OA) (k l:Nat) (m:Int) (n:Bool) (w:World) (K:KT) (Y5:YT):f98_lb5 d c e f g h i j k l m n w K Y5=(BIf (decide ((i:Int) < ((c:Nat):Int))) (f98_s6 d c e f g h i j k l m n w K Y5) (f98_s9 d c e f g h w K)):=Eq.trans SGe (Eq.trans (CSs [0,5,6,2,3,4] (f98_k8 K Y5) (by kernel_rfl)) (Eq.trans (CSs [16,0,5,6,2,3,4] (f98_k9 K Y5) (by kernel_rfl)) (by kernel_rfl)))
theorem f98_s4_eq (a:Int) (c:OA) (d e:Nat) (f:OA) (g h:Nat) (i:OA) (j k:Nat) (l:Int) (m:Bool) (w:World) (K:KT):f98_s4 a c d e f g h i j k l m w K=(LoopE (f98_lp5 K) (Env.mk 69 [(0,(Value.slice f g h)),(5,(Value.slice c d e)),(6,(Value.int .i64 a)),(2,(Value.slice i j k)),(3,(Value.int .i64 l)),(4,(Value.bool m))] []) w):=Eq.trans (b:=CS P (cA c98 61) none [0,5] [2,3,4] (f98_k5 K) (Env.mk 69 [(6,(VI a)),(5,(VS c d e)),(0,(VS f g h)),(2,(VS i j k)),(3,(VI l)),(4,(VB m))] []) w) (by kernel_rfl) (Eq.trans (CSb 0 [2,3,4,0,5] (f98_k7 K) (by kernel_rfl)) ((CS_loop' (b:=(cA c98 244)) (X':=[2,3,4,0,5]) (H:=[0,5,6,2,3,4]) (by kernel_rfl) (by kernel_rfl) (by kernel_rfl)).trans (by kernel_rfl)))
theorem f98_s3_eq (c:OA) (d e:Nat) (f:OA) (g h:Nat) (i:OA) (j k:Nat) (l:Int) (m:Bool) (w:World) (K:KT):f98_s3 c d e f g h i j k l m w K=(f98_s4 0 c d e f g h i j k l m w K):=Eq.trans (b:=CS P (cA c98 15) none [2,3,4] [2,3,4] (f98_kb K) (Env.mk 69 [(5,(VS c d e)),(0,(VS f g h)),(2,(VS i j k)),(3,(VI l)),(4,(VB m))] []) w) (by kernel_rfl) (Eq.trans (CSs [0,5] (f98_k5 K) (by kernel_rfl)) (Eq.trans (CSs [0,5,6,2,3,4] (f98_k6 K) (by kernel_rfl)) (by kernel_rfl)))
theorem f98_s2_eq (c:OA) (d e:Nat) (f:OA) (g h:Nat) (i:Int) (j:Bool) (w:World) (K:KT):f98_s2 c d e f g h i j w K=(f98_s3 none 0 0 c d e f g h i j w K):=Eq.trans SGe (Eq.trans (CSs [0,5,2,3,4] (f98_k4 K) (by kernel_rfl)) (by kernel_rfl))
theorem f98_s1_eq (d:Int) (e:OA) (f g:Nat) (h:OA) (c i:Nat) (w:World) (K:KT):f98_s1 d e f g h c i w K=(BIf (decide ((((c:Nat):Int):Int) > 65536)) (K (Value.tuple [(Value.slice none 0 0),(Value.int .i64 0),(Value.bool false)].toArray) w) (f98_s2 h c i e f g d false w K)):=Eq.trans (b:=CS P (cA c98 3) none [2,3,4] [2,3,4] (f98_kb K) (Env.mk 69 [(4,(VB false)),(3,(VI d)),(2,(VS e f g)),(0,(VS h c i))] []) w) (by kernel_rfl) (Eq.trans (CSs [0,2,3,4] (f98_k1 K) (by kernel_rfl)) (Eq.trans (CSs [12,0,2,3,4] (f98_k2 K) (by kernel_rfl)) (by kernel_rfl)))
theorem f98_s0_eq (c:OA) (d e:Nat) (w:World) (K:KT):f98_s0 c d e w K=(f98_s1 0 none 0 0 c d e w K):=Eq.trans (b:=CS P (cA c98 1) none [2,3,4] [2,3,4] (f98_kb K) (Env.mk 69 [(0,(VS c d e))] []) w) (by kernel_rfl) (Eq.trans (CSs [0,2,3,4] (f98_k0 K) (by kernel_rfl)) (by kernel_rfl))
theorem f98_eq (a:OA) (b c:Nat) (w:World) (K:KT):f98 a b c w K=(f98_s0 a b c w K):=by kernel_rfl
theorem f98_ok (a:OA) (b c:Nat) (w:World) (K:KT) (h:f98 a b c w K):CallL P 98 [(Value.slice a b c)] w K:=okCS c98 Tryz.func98 (by kernel_rfl) (by kernel_rfl) h
noncomputable def c138:Code:=bodyOf Tryz.f138
noncomputable def rs138:List ResultVar:=Tryz.f138.results.toList
abbrev f138_kb (K:KT):Exit→YT:=bodyK P rs138 K
def f138 (a:OA) (b c:Nat) (w:World) (K:KT):Prop:=CS P c138 none [2,3,4] [2,3,4] (f138_kb K) (env0 93 [(VS a b c)]) w
abbrev f138_k4 (K:KT):Exit→YT:=kseq P (cA c138 62) (cA c138 63) none [2,3,4] [2,3,4] (f138_kb K)
def f138_s0 (a:Bool) (b c d f:Addr) (g h:Int) (w:World) (K:KT):Prop:=SG P (cA c138 125) none [5,7,6,2,3,4] [2,3,4] (f138_k4 K) (Env.mk 93 [(31,(VB a)),(2,(VP (some b))),(5,(VP (some c))),(7,(VP (some d))),(6,(VP (some f))),(3,(VI g)),(4,(VI h))] []) w
def f138_s1 (a b c d:Addr) (f g:Int) (w:World) (K:KT):Prop:=SG P (cA c138 63) none [2,3,4] [2,3,4] (f138_kb K) (Env.mk 93 [(5,(VP (some a))),(7,(VP (some b))),(6,(VP (some c))),(2,(VP (some d))),(3,(VI f)),(4,(VI g))] []) w
abbrev f138_k7 (K:KT):Exit→YT:=kseq P (cA c138 126) (cA c138 127) none [2,3,4] [2,3,4] (f138_kb K)
abbrev f138_k9 (K:KT):Exit→YT:=kblock 0 (f138_k7 K)
def f138_rd2 (a b c e:Addr) (f g:Int) (l:Nat) (R:LoopState→Option Code→Loop) (post:Option Code→World→Prop) (args:List Value) (W:World):Prop:=args.length=1∧CS P (cA c138 1012) (some l) [5,9,7] [] (kround P (cA c138 1013) l R post) { putParams (Env.mk 93 [(5,(VP (some a))),(7,(VP (some b))),(6,(VP (some c))),(2,(VP (some e))),(3,(VI f)),(4,(VI g))] []) [34] args with d:=[] } W
abbrev f138_ka2 (l:Nat) (R:LoopState→Option Code→Loop) (post:Option Code→World→Prop):Exit→YT:=kround P (cA c138 1013) l R post
def f138_ra2 (a b c d:Addr) (e f:Int) (g:Array Value) (w:World) (l:Nat) (R:LoopState→Option Code→Loop) (post:Option Code→World→Prop):Prop:=CS P (cA c138 1012) (some l) [5,9,7] [] (f138_ka2 l R post) (Env.mk 93 [(34,(Value.agg g)),(5,(VP (some a))),(7,(VP (some b))),(6,(VP (some c))),(2,(VP (some d))),(3,(VI e)),(4,(VI f))] []) w
def f138_s3 (a b c:Addr) (w:World) (l:Nat) (R:LoopState→Option Code→Loop) (post:Option Code→World→Prop):Prop:=SG P (cA c138 1013) (some l) [] [] (endS l R post) (Env.mk 93 [(5,(VP (some a))),(9,(VP (some b))),(7,(VP (some c)))] []) w
theorem f138_s3_eq (c b f:Addr) (w:World) (l:Nat) (R:LoopState→Option Code→Loop) (post:Option Code→World→Prop):f138_s3 c b f w l R post=(LdA 3 f w (fun s=>∃ g:Int,w.cell? b=some (.int .i64 g)∧CallL P 169 [(Value.agg s),(Value.int .i64 g)] w (fun t a=>∃ h:Bool,t=(.bool h)∧BIf (!h) (a.heap[l]?=some (.loop (R .busy none))∧post none (a.putObj l (.loop (R .ready none)))) (∃ i:Int,a.cell? b=some (.int .i64 i)∧BIf ((i:Int) == 128) (∃ d:Option Addr,a.drew.cell? (b.add 1)=some (.pointer d)∧∃ j:Option Addr,a.drew.cell? c=some (.pointer j)∧CallL P 166 [(Value.pointer j),(Value.int .i64 2)] a.drew (fun u k=>∃ m:Int,u=(.int .u32 m)∧k.cell? (b.add 1)=some (.pointer d)∧optS d (fun v=>St1 v (Value.int .i64 (IntKind.wrap .i64 m)) k (fun n=>n.heap[l]?=some (.loop (R .busy none))∧post none (n.putObj l (.loop (R .ready none))))))) (∃ e:Option Addr,a.drew.cell? (b.add 1)=some (.pointer e)∧∃ o:Option Addr,a.drew.cell? c=some (.pointer o)∧CallL P 166 [(Value.pointer o),(Value.int .i64 1)] a.drew (fun x p=>∃ q:Int,x=(.int .u32 q)∧p.cell? (b.add 1)=some (.pointer e)∧optS e (fun y=>St1 y (Value.int .i64 (IntKind.wrap .i64 q)) p (fun r=>r.heap[l]?=some (.loop (R .busy none))∧post none (r.putObj l (.loop (R .ready none))))))))))):=by kernel_rfl
theorem f138_ra2_eq (a b f g:Addr) (h i:Int) (c:Array Value) (w:World) (l:Nat) (R:LoopState→Option Code→Loop) (post:Option Code→World→Prop):f138_ra2 a b f g h i c w l R post=(NewC (zcells P 222) 222 w (fun d j=>StA 3 (Addr.mk d 0 none) c j (fun e=>e.heap[l]?=some (.loop (R .ready none))∧f138_s3 a (Addr.mk d 0 none) b (e.putObj l (.loop (R .busy none))) l R post))):=by kernel_rfl
theorem f138_rd2_eq (b c d e:Addr) (f g:Int) (a:Array Value) (w:World) (l:Nat) (R:LoopState→Option Code→Loop) (post:Option Code→World→Prop):f138_rd2 b c d e f g l R post [(Value.agg a)] w=([(Value.agg a)].length=1∧f138_ra2 b c d e f g a w l R post):=by kernel_rfl
def f138_rn2 (a b c e:Addr) (f g:Int) (d:List Deferred) (w:World) (K:KT):Prop:=(f138_k9 K) .normal (Env.mk 93 [(5,(VP (some a))),(7,(VP (some b))),(6,(VP (some c))),(2,(VP (some e))),(3,(VI f)),(4,(VI g))] d) w
def f138_s4 (a b c:Addr) (f g:Int) (h:Addr) (d:List Deferred) (w:World) (K:KT):Prop:=SG P (cA c138 127) none [2,3,4] [2,3,4] (f138_kb K) (Env.mk 93 [(6,(VP (some a))),(5,(VP (some b))),(2,(VP (some c))),(3,(VI f)),(4,(VI g)),(7,(VP (some h)))] d) w
def f138_s5 (a b c:Addr) (f g:Int) (h:Addr) (d:List Deferred) (w:World) (K:KT):Prop:=SG P (cA c138 255) none [2,3,4] [2,3,4] (f138_kb K) (Env.mk 93 [(6,(VP (some a))),(5,(VP (some b))),(2,(VP (some c))),(3,(VI f)),(4,(VI g)),(7,(VP (some h)))] d) w
def f138_s6 (a b c:Addr) (f g:Int) (h:Addr) (d:List Deferred) (w:World) (K:KT):Prop:=SG P (cA c138 511) none [2,3,4] [2,3,4] (f138_kb K) (Env.mk 93 [(6,(VP (some a))),(5,(VP (some b))),(2,(VP (some c))),(3,(VI f)),(4,(VI g)),(7,(VP (some h)))] d) w
abbrev f138_k18 (K:KT):Exit→YT:=kseq P (cA c138 1022) (cA c138 1023) none [2,3,4] [2,3,4] (f138_kb K)
abbrev f138_k21 (K:KT):Exit→YT:=kblock 3 (f138_k18 K)
def f138_lp7 (K:KT) (Y7:YT) (e:Env) (w:World):Prop:=Join (fun e w=>CS P (cA c138 32724) none [69,6,5,2,3,4] [2,3,4,5,6] (kloop [69,6,5,2,3,4] Y7 (f138_k21 K)) e w) e w
abbrev f138_kl7 (K:KT) (Y7:YT):Exit→YT:=kloop [69,6,5,2,3,4] Y7 (f138_k21 K)
def f138_lb7 (a:Int) (b c f:Addr) (g h:Int) (d:List Deferred) (w:World) (K:KT) (Y7:YT):Prop:=SG P (cA c138 32724) none [69,6,5,2,3,4] [2,3,4,5,6] (f138_kl7 K Y7) (Env.mk 93 [(69,(VI a)),(6,(VP (some b))),(5,(VP (some c))),(2,(VP (some f))),(3,(VI g)),(4,(VI h))] d) w
def f138_s8 (a b c:Addr) (f g h:Int) (d:List Deferred) (w:World) (K:KT) (Y7:YT):Prop:=SG P (cA c138 130899) none [69,6,5,2,3,4] [2,3,4,5,6] (f138_kl7 K Y7) (Env.mk 93 [(6,(VP (some a))),(5,(VP (some b))),(2,(VP (some c))),(3,(VI f)),(4,(VI g)),(69,(VI h))] d) w
def f138_s9 (a b c:Addr) (f g h:Int) (d:List Deferred) (w:World) (K:KT) (Y7:YT):Prop:=SG P (cA c138 261799) none [69,6,5,2,3,4] [2,3,4,5,6] (f138_kl7 K Y7) (Env.mk 93 [(6,(VP (some a))),(5,(VP (some b))),(2,(VP (some c))),(3,(VI f)),(4,(VI g)),(69,(VI h))] d) w
theorem f138_s9_eq (a b c:Addr) (e f g:Int) (d:List Deferred) (w:World) (K:KT) (Y7:YT):f138_s9 a b c e f g d w K Y7=(Y7 (Env.mk 93 [(69,(Value.int .i64 (IntKind.wrap .i64 ((g:Int)+1)))),(6,(Value.pointer (some a))),(5,(Value.pointer (some b))),(2,(Value.pointer (some c))),(3,(Value.int .i64 e)),(4,(Value.int .i64 f))] d) w):=by kernel_rfl
theorem f138_s8_eq (b c e:Addr) (f g a:Int) (d:List Deferred) (w:World) (K:KT) (Y7:YT):f138_s8 b c e f g a d w K Y7=(∃ h:Option Addr,w.cell? c=some (.pointer h)∧CallL P 166 [(Value.pointer h),(Value.int .i64 4)] w (fun j k=>∃ i:Int,j=(.int .u32 i)∧0≤(a:Int)∧(a:Int) < (4:Nat)∧St1 ((b.add 11).add (Int.toNat a * 1)) (Value.int .u32 i) k (fun l=>f138_s9 b c e f g a d l K Y7))):=by kernel_rfl
def f138_s10 (a b c:Addr) (d:List Deferred) (w:World) (K:KT):Prop:=SG P (cA c138 1023) none [2,3,4] [2,3,4] (f138_kb K) (Env.mk 93 [(2,(VP (some a))),(5,(VP (some b))),(6,(VP (some c)))] d) w
abbrev f138_k27 (K:KT):Exit→YT:=kseq P (cA c138 2046) (cA c138 2047) none [2,3,4] [2,3,4] (f138_kb K)
def f138_s11 (a:Bool) (b c f:Addr) (d:List Deferred) (w:World) (K:KT):Prop:=SG P (cA c138 4093) none [2,5,6] [2,3,4] (f138_k27 K) (Env.mk 93 [(86,(VB a)),(2,(VP (some b))),(5,(VP (some c))),(6,(VP (some f)))] d) w
def f138_s12 (a b c:Addr) (d:List Deferred) (w:World) (K:KT):Prop:=SG P (cA c138 2047) none [2,3,4] [2,3,4] (f138_kb K) (Env.mk 93 [(2,(VP (some a))),(5,(VP (some b))),(6,(VP (some c)))] d) w
def f138_s13 (a:Addr) (b c:Int) (d:List Deferred) (w:World) (K:KT):Prop:=SG P (cA c138 4095) none [2,3,4] [2,3,4] (f138_kb K) (Env.mk 93 [(2,(VP (some a))),(3,(VI b)),(4,(VI c))] d) w
theorem f138_s13_eq (a:Addr) (b c:Int) (d:List Deferred) (w:World) (K:KT):f138_s13 a b c d w K=(LeaveS P rs138 (Env.mk 93 [(2,(Value.pointer (some a))),(3,(Value.int .i64 b)),(4,(Value.int .i64 c))] d) K d w):=by kernel_rfl
theorem f138_s12_eq (a b g:Addr) (d:List Deferred) (w:World) (K:KT):f138_s12 a b g d w K=(LdA 15 g w.drew (fun i=>∃ c:Option Addr,w.drew.cell? b=some (.pointer c)∧optS c (fun h=>∃ e:Int,w.drew.cell? (h.add 1)=some (.int .i64 e)∧StA 15 a i w.drew (fun f=>f.cell? (h.add 1)=some (.int .i64 e)∧f.cell? b=some (.pointer c)∧f138_s13 a e 0 d f K)))):=by kernel_rfl
theorem f138_s11_eq (b:Bool) (a c e:Addr) (d:List Deferred) (w:World) (K:KT):f138_s11 b a c e d w K=(BIf b (∃ f:Array Value,(∀ wq,(Instr.build 119 [].toArray).run P wq=.ok (.agg f) wq)∧StA 15 a f w (fun g=>LeaveS P rs138 (Env.mk 93 [(4,(Value.int .i64 170)),(3,(Value.int .i64 0)),(87,(Value.agg f)),(86,(Value.bool true)),(86,(Value.bool b)),(2,(Value.pointer (some a))),(5,(Value.pointer (some c))),(6,(Value.pointer (some e)))] d) K d g)) (f138_s12 a c e d w K)):=by kernel_rfl
theorem f138_s10_eq (c a b:Addr) (d:List Deferred) (w:World) (K:KT):f138_s10 c a b d w K=(∃ e:Option Addr,w.cell? a=some (.pointer e)∧optS e (fun h=>∃ f:Bool,w.cell? (h.add 2)=some (.bool f)∧BIf f (f138_s11 true c a b d w K) (LdA 15 b w (fun i=>CallL P 170 [(Value.agg i)] w (fun j k=>∃ g:Int,j=(.int .i64 g)∧f138_s11 ((g:Int) != 0) c a b d k K))))):=by kernel_rfl
theorem f138_lb7_eq (a:Int) (b c e:Addr) (f g:Int) (d:List Deferred) (w:World) (K:KT) (Y7:YT):f138_lb7 a b c e f g d w K Y7=(BIf (decide ((a:Int) < 4)) (f138_s8 b c e f g a d w K Y7) (f138_s10 e c b d w K)):=by kernel_rfl
theorem f138_s6_eq (a b c:Addr) (e f:Int) (g:Addr) (d:List Deferred) (w:World) (K:KT):f138_s6 a b c e f g d w K=(LdA 3 g w (fun j=>CallL P 169 [(Value.agg j),(Value.int .i64 1024)] w (fun k h=>∃ i:Bool,k=(.bool i)∧BIf i (LoopE (f138_lp7 K) (Env.mk 93 [(69,(Value.int .i64 0)),(6,(Value.pointer (some a))),(5,(Value.pointer (some b))),(2,(Value.pointer (some c))),(3,(Value.int .i64 e)),(4,(Value.int .i64 f))] d) h) (f138_s10 c b a d h K)))):=by kernel_rfl
theorem f138_s5_eq (a b e:Addr) (f g:Int) (c:Addr) (d:List Deferred) (w:World) (K:KT):f138_s5 a b e f g c d w K=(LdA 3 c w (fun l=>CallL P 169 [(Value.agg l),(Value.int .i64 512)] w (fun m h=>∃ i:Bool,m=(.bool i)∧BIf i (∃ j:Option Addr,h.cell? b=some (.pointer j)∧CallL P 166 [(Value.pointer j),(Value.int .i64 4)] h (fun n o=>∃ k:Int,n=(.int .u32 k)∧St1 (a.add 10) (Value.int .u32 k) o (fun p=>f138_s6 a b e f g c d p K))) (f138_s6 a b e f g c d h K)))):=by kernel_rfl
theorem f138_s4_eq (a b e:Addr) (f g:Int) (c:Addr) (d:List Deferred) (w:World) (K:KT):f138_s4 a b e f g c d w K=(LdA 3 c w (fun l=>CallL P 169 [(Value.agg l),(Value.int .i64 256)] w (fun m h=>∃ i:Bool,m=(.bool i)∧BIf i (∃ j:Option Addr,h.cell? b=some (.pointer j)∧CallL P 166 [(Value.pointer j),(Value.int .i64 4)] h (fun n o=>∃ k:Int,n=(.int .u32 k)∧St1 (a.add 9) (Value.int .u32 k) o (fun p=>f138_s5 a b e f g c d p K))) (f138_s5 a b e f g c d h K)))):=by kernel_rfl
theorem f138_rn2_eq (a b c e:Addr) (f g:Int) (d:List Deferred) (w:World) (K:KT):f138_rn2 a b c e f g d w K=(f138_s4 c a e f g b d w K):=by kernel_rfl
theorem f138_s1_eq (b c a d:Addr) (e f:Int) (w:World) (K:KT):f138_s1 b c a d e f w K=(CallL P 168 [(Value.pointer (some a)),(Value.pointer (some a))] w (fun h i=>∃ g:Value,h=g∧RangeC P (f138_k9 K) (Env.mk 93 [(5,(Value.pointer (some b))),(7,(Value.pointer (some c))),(6,(Value.pointer (some a))),(2,(Value.pointer (some d))),(3,(Value.int .i64 e)),(4,(Value.int .i64 f))] []) i g (f138_rd2 b c a d e f))):=by kernel_rfl
theorem f138_s0_eq (b:Bool) (a c d e:Addr) (f g:Int) (w:World) (K:KT):f138_s0 b a c d e f g w K=(BIf b (∃ h:Array Value,(∀ wq,(Instr.build 119 [].toArray).run P wq=.ok (.agg h) wq)∧StA 15 a h w (fun i=>LdA 15 a i (fun j=>K (Value.tuple [(Value.agg j),(Value.int .i64 0),(Value.int .i64 170)].toArray) i))) (f138_s1 c d e a f g w K)):=by kernel_rfl
theorem f138_eq (e:OA) (f g:Nat) (w:World) (K:KT):f138 e f g w K=(NewC (zcells P 119) 119 w (fun h t=>∃ i:Array Value,(∀ wq,(Instr.build 211 [(0,(Value.slice e f g))].toArray).run P wq=.ok (.agg i) wq)∧NewC i 211 t (fun u v=>NewC (zcells P 209) 209 v (fun a x=>St1 (Addr.mk a 0 none) (Value.pointer (some (Addr.mk u 0 none))) x (fun j=>∃ k:Option Addr,j.cell? (Addr.mk a 0 none)=some (.pointer k)∧CallL P 166 [(Value.pointer k),(Value.int .i64 1)] j (fun y z=>∃ l:Int,y=(.int .u32 l)∧∃ m:Array Value,(∀ wq,(Instr.build 119 [(0,(Value.int .i64 (IntKind.wrap .i64 l)))].toArray).run P wq=.ok (.agg m) wq)∧NewC (zcells P 119) 119 z (fun b a0=>StA 15 (Addr.mk b 0 none) m a0 (fun n=>∃ o:Int,n.cell? (Addr.mk b 0 none)=some (.int .i64 o)∧CallL P 167 [(Value.int .i64 o)] n (fun b0 c0=>∃ p:Array Value,∃ q:Bool,b0=(.tuple [(Value.agg p),(Value.bool q)].toArray)∧NewC (zcells P 214) 214 c0 (fun d d0=>StA 3 (Addr.mk d 0 none) p d0 (fun c=>BIf (!q) (f138_s0 true (Addr.mk h 0 none) (Addr.mk a 0 none) (Addr.mk d 0 none) (Addr.mk b 0 none) 0 0 c K) (∃ r:Option Addr,c.cell? (Addr.mk a 0 none)=some (.pointer r)∧optS r (fun e0=>∃ s:Bool,c.cell? (e0.add 2)=some (.bool s)∧f138_s0 s (Addr.mk h 0 none) (Addr.mk a 0 none) (Addr.mk d 0 none) (Addr.mk b 0 none) 0 0 c K))))))))))))):=by kernel_rfl
theorem f138_ok (a:OA) (b c:Nat) (w:World) (K:KT) (h:f138 a b c w K):CallL P 138 [(Value.slice a b c)] w K:=okCS c138 Tryz.func138 (by kernel_rfl) (by kernel_rfl) h
noncomputable def c166:Code:=bodyOf Tryz.f166
noncomputable def rs166:List ResultVar:=Tryz.f166.results.toList
abbrev f166_kb (K:KT):Exit→YT:=bodyK P rs166 K
def f166 (a:OA) (b:Int) (w:World) (K:KT):Prop:=CS P c166 none [4] [4] (f166_kb K) (env0 54 [(VP a),(VI b)]) w
def f166_s0 (a:OA) (b c:Int) (w:World) (K:KT):Prop:=SG P (cA c166 7) none [4] [4] (f166_kb K) (Env.mk 54 [(0,(VP a)),(4,(Value.int .u32 b)),(1,(VI c))] []) w
abbrev f166_k6 (K:KT):Exit→YT:=kseq P (cA c166 30) (cA c166 31) none [4] [4] (f166_kb K)
abbrev f166_k8 (K:KT):Exit→YT:=kblock 0 (f166_k6 K)
def f166_lp1 (K:KT) (Y1:YT) (e:Env) (w:World):Prop:=Join (fun e w=>CS P (cA c166 244) none [23,0,5,4,1,22] [4,5,1,0] (kloop [23,0,5,4,1,22] Y1 (f166_k8 K)) e w) e w
abbrev f166_kl1 (K:KT) (Y1:YT):Exit→YT:=kloop [23,0,5,4,1,22] Y1 (f166_k8 K)
def f166_lb1 (a:Int) (b:OA) (c d f g:Int) (w:World) (K:KT) (Y1:YT):Prop:=SG P (cA c166 244) none [23,0,5,4,1,22] [4,5,1,0] (f166_kl1 K Y1) (Env.mk 54 [(23,(VI a)),(0,(VP b)),(5,(Value.int .u32 c)),(4,(Value.int .u32 d)),(1,(VI f)),(22,(VI g))] []) w
def f166_s2 (a:OA) (b c d f g:Int) (w:World) (K:KT) (Y1:YT):Prop:=SG P (cA c166 979) none [23,0,5,4,1,22] [4,5,1,0] (f166_kl1 K Y1) (Env.mk 54 [(0,(VP a)),(4,(Value.int .u32 b)),(1,(VI c)),(22,(VI d)),(23,(VI f)),(5,(Value.int .u32 g))] []) w
def f166_s3 (a:OA) (b c d f g:Int) (w:World) (K:KT) (Y1:YT):Prop:=SG P (cA c166 1959) none [23,0,5,4,1,22] [4,5,1,0] (f166_kl1 K Y1) (Env.mk 54 [(0,(VP a)),(5,(Value.int .u32 b)),(4,(Value.int .u32 c)),(1,(VI d)),(22,(VI f)),(23,(VI g))] []) w
theorem f166_s3_eq (a:OA) (b c d e f:Int) (w:World) (K:KT) (Y1:YT):f166_s3 a b c d e f w K Y1=(Y1 (Env.mk 54 [(23,(Value.int .i64 (IntKind.wrap .i64 ((f:Int)+1)))),(0,(Value.pointer a)),(5,(Value.int .u32 b)),(4,(Value.int .u32 c)),(1,(Value.int .i64 d)),(22,(Value.int .i64 e))] []) w):=by kernel_rfl
theorem f166_s2_eq (b:OA) (d e f a g:Int) (w:World) (K:KT) (Y1:YT):f166_s2 b d e f a g w K Y1=(optS b (fun k=>optS b (fun l=>∃ (h:OA) (i m:Nat),w.drew.cell? k=some (.slice h i m)∧∃ c:Int,w.drew.cell? (l.add 1)=some (.int .i64 c)∧optS h (fun n=>0≤((IntKind.wrap .i64 ((c:Int)+a)):Int)∧((IntKind.wrap .i64 ((c:Int)+a)):Int) < (i:Nat)∧∃ j:Int,w.drew.cell? (n.add (Int.toNat (IntKind.wrap .i64 ((c:Int)+a)) * 1))=some (.int .u8 j)∧0≤((IntKind.wrap .i64 ((8:Int) * a)):Int)∧f166_s3 b (IntKind.wrap .u32 ((BitVec.ofInt (IntKind.bits .u32) (g:Int) ||| BitVec.ofInt (IntKind.bits .u32) (IntKind.wrap .u32 (((IntKind.wrap .u32 j):Int) * 2 ^ (min (Int.toNat (IntKind.wrap .i64 ((8:Int) * a))) (IntKind.bits .u32))))).toNat:Int)) d e f a w.drew K Y1)))):=by kernel_rfl
def f166_s4 (a b:Int) (c:OA) (w:World) (K:KT):Prop:=SG P (cA c166 31) none [4] [4] (f166_kb K) (Env.mk 54 [(5,(Value.int .u32 a)),(1,(VI b)),(0,(VP c))] []) w
theorem f166_s4_eq (b c:Int) (a:OA) (w:World) (K:KT):f166_s4 b c a w K=(optS a (fun e=>∃ d:Int,w.cell? (e.add 1)=some (.int .i64 d)∧optS a (fun f=>St1 (f.add 1) (Value.int .i64 (IntKind.wrap .i64 ((d:Int)+c))) w (fun g=>K (Value.int .u32 b) g)))):=by kernel_rfl
theorem f166_lb1_eq (a:Int) (b:OA) (c f d e:Int) (w:World) (K:KT) (Y1:YT):f166_lb1 a b c f d e w K Y1=(BIf (decide ((a:Int) < e)) (f166_s2 b f d e a c w K Y1) (f166_s4 c d b w K)):=by kernel_rfl
theorem f166_s0_eq (b:OA) (c a:Int) (w:World) (K:KT):f166_s0 b c a w K=(LoopE (f166_lp1 K) (Env.mk 54 [(23,(Value.int .i64 0)),(0,(Value.pointer b)),(5,(Value.int .u32 0)),(4,(Value.int .u32 c)),(1,(Value.int .i64 a)),(22,(Value.int .i64 a))] []) w):=by kernel_rfl
theorem f166_eq (a:OA) (b:Int) (w:World) (K:KT):f166 a b w K=(optS a (fun e=>optS a (fun f=>∃ c:Int,w.drew.cell? (e.add 1)=some (.int .i64 c)∧∃ (g:OA) (d h:Nat),w.drew.cell? f=some (.slice g d h)∧BIf (decide (((IntKind.wrap .i64 ((c:Int)+b)):Int) > ((d:Nat):Int))) (optS a (fun i=>St1 (i.add 2) (Value.bool true) w.drew (fun j=>K (Value.int .u32 0) j))) (f166_s0 a 0 b w.drew K)))):=by kernel_rfl
theorem f166_ok (a:OA) (b:Int) (w:World) (K:KT) (h:f166 a b w K):CallL P 166 [(Value.pointer a),(Value.int .i64 b)] w K:=okCS c166 Tryz.func166 (by kernel_rfl) (by kernel_rfl) h
noncomputable def c167:Code:=bodyOf Tryz.f167
noncomputable def rs167:List ResultVar:=Tryz.f167.results.toList
abbrev f167_kb (K:KT):Exit→YT:=bodyK P rs167 K
def f167 (a:Int) (w:World) (K:KT):Prop:=CS P c167 none [2,3] [2,3] (f167_kb K) (env0 14 [(VI a)]) w
abbrev f167_k1 (K:KT):Exit→YT:=kseq P (cA c167 6) (cA c167 7) none [2,3] [2,3] (f167_kb K)
def f167_s0 (a:Bool) (b:Addr) (c:Int) (w:World) (K:KT):Prop:=SG P (cA c167 13) none [2,0] [2,3] (f167_k1 K) (Env.mk 14 [(9,(VB a)),(2,(VP (some b))),(0,(VI c))] []) w
def f167_s1 (a:Addr) (b:Int) (w:World) (K:KT):Prop:=SG P (cA c167 7) none [2,3] [2,3] (f167_kb K) (Env.mk 14 [(2,(VP (some a))),(0,(VI b))] []) w
theorem f167_s1_eq (b:Addr) (a:Int) (w:World) (K:KT):f167_s1 b a w K=(0≤(a:Int)∧(a:Int) < (46:Nat)∧LdA 3 ((Addr.mk 0 0 none).add (Int.toNat a * 3)) w (fun d=>StA 3 b d w (fun c=>LdA 3 b c (fun e=>K (Value.tuple [(Value.agg e),(Value.bool true)].toArray) c)))):=by kernel_rfl
theorem f167_s0_eq (b:Bool) (a:Addr) (c:Int) (w:World) (K:KT):f167_s0 b a c w K=(BIf b (∃ d:Array Value,(∀ wq,(Instr.build 214 [].toArray).run P wq=.ok (.agg d) wq)∧StA 3 a d w (fun e=>LdA 3 a e (fun f=>K (Value.tuple [(Value.agg f),(Value.bool false)].toArray) e))) (f167_s1 a c w K)):=by kernel_rfl
theorem f167_eq (a:Int) (w:World) (K:KT):f167 a w K=(NewC (zcells P 214) 214 w (fun b c=>BIf (decide ((a:Int) < 1)) (f167_s0 true (Addr.mk b 0 none) a c K) (f167_s0 (decide ((a:Int)≥46)) (Addr.mk b 0 none) a c K))):=by kernel_rfl
theorem f167_ok (a:Int) (w:World) (K:KT) (h:f167 a w K):CallL P 167 [(Value.int .i64 a)] w K:=okCS c167 Tryz.func167 (by kernel_rfl) (by kernel_rfl) h
noncomputable def c168:Code:=bodyOf Tryz.f168
noncomputable def rs168:List ResultVar:=Tryz.f168.results.toList
abbrev f168_kb (K:KT):Exit→YT:=bodyK P rs168 K
def f168 (a b:OA) (w:World) (K:KT):Prop:=CS P c168 none [4] [4] (f168_kb K) (env0 6 [(VP a),(VP b)]) w
theorem f168_eq (a b:OA) (w:World) (K:KT):f168 a b w K=(NewC #[(Value.pointer a)] 219 w (fun c d=>NewC #[(Value.pointer b)] 219 d (fun e f=>K (Value.func (.func 185) #[] #[(Value.pointer (some (Addr.mk c 0 none))),(Value.pointer (some (Addr.mk e 0 none)))]) f))):=by kernel_rfl
theorem f168_ok (a b:OA) (w:World) (K:KT) (h:f168 a b w K):CallL P 168 [(Value.pointer a),(Value.pointer b)] w K:=okCS c168 Tryz.func168 (by kernel_rfl) (by kernel_rfl) h
noncomputable def c169:Code:=bodyOf Tryz.f169
noncomputable def rs169:List ResultVar:=Tryz.f169.results.toList
abbrev f169_kb (K:KT):Exit→YT:=bodyK P rs169 K
def f169 (a:Array Value) (b:Int) (w:World) (K:KT):Prop:=CS P c169 none [4] [4] (f169_kb K) (env0 10 [(Value.agg a),(VI b)]) w
theorem f169_eq (a:Array Value) (b:Int) (w:World) (K:KT):f169 a b w K=(NewC a 214 w (fun e c=>∃ d:Int,c.cell? ((Addr.mk e 0 none).add 1)=some (.int .i64 d)∧K (Value.bool (((IntKind.wrap .i64 ((BitVec.ofInt (IntKind.bits .i64) (d:Int) &&& BitVec.ofInt (IntKind.bits .i64) b).toNat:Int)):Int) != 0)) c)):=by kernel_rfl
theorem f169_ok (a:Array Value) (b:Int) (w:World) (K:KT) (h:f169 a b w K):CallL P 169 [(Value.agg a),(Value.int .i64 b)] w K:=okCS c169 Tryz.func169 (by kernel_rfl) (by kernel_rfl) h
noncomputable def c170:Code:=bodyOf Tryz.f170
noncomputable def rs170:List ResultVar:=Tryz.f170.results.toList
abbrev f170_kb (K:KT):Exit→YT:=bodyK P rs170 K
def f170 (a:Array Value) (w:World) (K:KT):Prop:=CS P c170 none [2] [2] (f170_kb K) (env0 47 [(Value.agg a)]) w
def f170_s0 (a:Array Value) (w:World) (K:KT):Prop:=CS P (cA c170 1) none [2] [2] (f170_kb K) (Env.mk 47 [(0,(Value.agg a))] []) w
abbrev f170_k0 (K:KT):Exit→YT:=kseq P (cA c170 2) (cA c170 3) none [2] [2] (f170_kb K)
def f170_s1 (a:Int) (b:Addr) (c:Array Value) (w:World) (K:KT):Prop:=CS P (cA c170 3) none [2] [2] (f170_kb K) (Env.mk 47 [(2,(VI a)),(1,(VP (some b))),(0,(Value.agg c))] []) w
abbrev f170_k1 (K:KT):Exit→YT:=kseq P (cA c170 6) (cA c170 7) none [2] [2] (f170_kb K)
abbrev f170_k2 (K:KT):Exit→YT:=kseq P (cA c170 12) (cA c170 13) none [2,1] [2] (f170_k1 K)
def f170_s2 (a:Int) (b:Addr) (w:World) (K:KT):Prop:=SG P (cA c170 7) none [2] [2] (f170_kb K) (Env.mk 47 [(2,(VI a)),(1,(VP (some b)))] []) w
abbrev f170_k4 (K:KT):Exit→YT:=kseq P (cA c170 14) (cA c170 15) none [2] [2] (f170_kb K)
def f170_s3 (a:OA) (b c:Nat) (d:OA) (e f:Nat) (g:Array Value) (h:Int) (i:Addr) (w:World) (K:KT):Prop:=CS P (cA c170 15) none [2] [2] (f170_kb K) (Env.mk 47 [(3,(VS a b c)),(12,(VS d e f)),(11,(Value.agg g)),(2,(VI h)),(1,(VP (some i)))] []) w
abbrev f170_k5 (K:KT):Exit→YT:=kseq P (cA c170 30) (cA c170 31) none [2] [2] (f170_kb K)
abbrev f170_k6 (K:KT):Exit→YT:=kseq P (cA c170 60) (cA c170 61) none [2,3] [2] (f170_k5 K)
def f170_s4 (a:Int) (b:OA) (c d:Nat) (w:World) (K:KT):Prop:=SG P (cA c170 31) none [2] [2] (f170_kb K) (Env.mk 47 [(2,(VI a)),(3,(VS b c d))] []) w
abbrev f170_k8 (K:KT):Exit→YT:=kseq P (cA c170 62) (cA c170 63) none [2] [2] (f170_kb K)
abbrev f170_k9 (K:KT):Exit→YT:=kseq P (cA c170 124) (cA c170 125) none [] [2] (f170_k8 K)
def f170_s5 (a b:Int) (c:OA) (d e:Nat) (f:Int) (g:OA) (h i:Nat) (w:World) (K:KT):Prop:=CS P (cA c170 125) none [] [2] (f170_k8 K) (Env.mk 47 [(25,(VI a)),(24,(VI b)),(23,(VS c d e)),(2,(VI f)),(3,(VS g h i))] []) w
abbrev f170_k10 (K:KT):Exit→YT:=kblock 0 (f170_k8 K)
def f170_lp6 (K:KT) (Y6:YT) (e:Env) (w:World):Prop:=Join (fun e w=>CS P (cA c170 500) none [25,23,2,24] [2] (kloop [25,23,2,24] Y6 (f170_k10 K)) e w) e w
abbrev f170_kl6 (K:KT) (Y6:YT):Exit→YT:=kloop [25,23,2,24] Y6 (f170_k10 K)
def f170_lb6 (a:Int) (b:OA) (c d:Nat) (f g:Int) (w:World) (K:KT) (Y6:YT):Prop:=SG P (cA c170 500) none [25,23,2,24] [2] (f170_kl6 K Y6) (Env.mk 47 [(25,(VI a)),(23,(VS b c d)),(2,(VI f)),(24,(VI g))] []) w
abbrev f170_k11 (K:KT) (Y6:YT):Exit→YT:=kseq P (cA c170 1000) (cA c170 1001) none [25,23,2,24] [2] (f170_kl6 K Y6)
def f170_s7 (a:Bool) (b:Int) (c:OA) (d e:Nat) (f g:Int) (w:World) (K:KT) (Y6:YT):Prop:=CS P (cA c170 1001) none [25,23,2,24] [2] (f170_kl6 K Y6) (Env.mk 47 [(26,(VB a)),(25,(VI b)),(23,(VS c d e)),(2,(VI f)),(24,(VI g))] []) w
abbrev f170_k12 (K:KT) (Y6:YT):Exit→YT:=kseq P (cA c170 2002) (cA c170 2003) none [25,23,2,24] [2] (f170_kl6 K Y6)
def f170_s8 (a:OA) (b c:Nat) (d f g:Int) (w:World) (K:KT) (Y6:YT):Prop:=SG P (cA c170 2003) none [25,23,2,24] [2] (f170_kl6 K Y6) (Env.mk 47 [(23,(VS a b c)),(24,(VI d)),(25,(VI f)),(2,(VI g))] []) w
abbrev f170_k13 (K:KT) (Y6:YT):Exit→YT:=kseq P (cA c170 4006) (cA c170 4007) none [25,23,2,24] [2] (f170_kl6 K Y6)
abbrev f170_k14 (K:KT) (Y6:YT):Exit→YT:=kblock 1 (f170_k13 K Y6)
abbrev f170_k15 (K:KT) (Y6:YT):Exit→YT:=kseq P (cA c170 16024) (cA c170 16025) none [23,2,24,25] [2,23,24,25] (f170_k14 K Y6)
def f170_s9 (a:Bool) (b:OA) (c d:Nat) (f g h:Int) (w:World) (K:KT) (Y6:YT):Prop:=SG P (cA c170 32051) none [23,2,24,25] [2,23,24,25] (f170_k14 K Y6) (Env.mk 47 [(45,(VB a)),(23,(VS b c d)),(24,(VI f)),(25,(VI g)),(2,(VI h))] []) w
def f170_s10 (a:OA) (b c:Nat) (d f g:Int) (w:World) (K:KT) (Y6:YT):Prop:=SG P (cA c170 4007) none [25,23,2,24] [2] (f170_kl6 K Y6) (Env.mk 47 [(23,(VS a b c)),(2,(VI d)),(24,(VI f)),(25,(VI g))] []) w
theorem f170_s10_eq (a:OA) (c d:Nat) (e f g:Int) (w:World) (K:KT) (Y6:YT):f170_s10 a c d e f g w K Y6=(Y6 (Env.mk 47 [(25,(Value.int .i64 (IntKind.wrap .i64 ((g:Int)+1)))),(23,(Value.slice a c d)),(2,(Value.int .i64 e)),(24,(Value.int .i64 f))] []) w):=Eq.trans SGe (by kernel_rfl)
theorem f170_s9_eq (a:Bool) (c:OA) (d e:Nat) (f g h:Int) (w:World) (K:KT) (Y6:YT):f170_s9 a c d e f g h w K Y6=(BIf a (K (Value.int .i64 170) w) (f170_s10 c d e h f g w K Y6)):=Eq.trans SGe (by kernel_rfl)
theorem f170_s8_eq (d:OA) (e g:Nat) (h c i:Int) (w:World) (K:KT) (Y6:YT):f170_s8 d e g h c i w K Y6=(optS d (fun q=>0≤(c:Int)∧(c:Int) < (e:Nat)∧LdA 2 (q.add (Int.toNat c * 2)) w (fun r=>NewC (zcells P 238) 238 w (fun j s=>StA 2 (Addr.mk j 0 none) r s (fun f=>∃ k:Bool,f.cell? (Addr.mk j 0 none)=some (.bool k)∧BIf k (∃ l:Int,f.cell? ((Addr.mk j 0 none).add 1)=some (.int .i64 l)∧BIf (decide ((l:Int)≥6)) (f170_s9 true d e g h c i f K Y6) (∃ m:Bool,f.cell? (Addr.mk j 0 none)=some (.bool m)∧BIf (!m) (∃ n:Int,f.cell? ((Addr.mk j 0 none).add 1)=some (.int .i64 n)∧f170_s9 (decide ((n:Int)≥12)) d e g h c i f K Y6) (f170_s9 false d e g h c i f K Y6))) (∃ o:Bool,f.cell? (Addr.mk j 0 none)=some (.bool o)∧BIf (!o) (∃ p:Int,f.cell? ((Addr.mk j 0 none).add 1)=some (.int .i64 p)∧f170_s9 (decide ((p:Int)≥12)) d e g h c i f K Y6) (f170_s9 false d e g h c i f K Y6))))))):=Eq.trans SGe (Eq.trans (CSs [23,2,24,25] (f170_k13 K Y6) (by kernel_rfl)) (Eq.trans (CSb 1 [2,23,24,25] (f170_k14 K Y6) (by kernel_rfl)) (Eq.trans (CSs [23,24,25,2,7] (f170_k15 K Y6) (by kernel_rfl)) (by kernel_rfl))))
def f170_s11 (w:World) (K:KT):Prop:=SG P (cA c170 63) none [2] [2] (f170_kb K) (Env.mk 47 [] []) w
abbrev f170_k18 (K:KT):Exit→YT:=kseq P (cA c170 126) (cA c170 127) none [2] [2] (f170_kb K)
theorem f170_s11_eq (w:World) (K:KT):f170_s11 w K=(K (Value.int .i64 0) w):=Eq.trans SGe (Eq.trans (CSs [2] (f170_k18 K) (by kernel_rfl)) (by kernel_rfl))
theorem f170_s7_eq (c:Bool) (d:Int) (e:OA) (f g:Nat) (h i:Int) (w:World) (K:KT) (Y6:YT):f170_s7 c d e f g h i w K Y6=(BIf c (f170_s8 e f g i d h w K Y6) (f170_s11 w K)):=Eq.trans (b:=CS P (cA c170 1001) none [25,23,2,24] [2] (f170_kl6 K Y6) (Env.mk 47 [(26,(VB c)),(25,(VI d)),(23,(VS e f g)),(2,(VI h)),(24,(VI i))] []) w) (by kernel_rfl) (Eq.trans (CSs [23,24,25,2] (f170_k12 K Y6) (by kernel_rfl)) (by kernel_rfl))
theorem f170_lb6_eq (c:Int) (e:OA) (f g:Nat) (h d:Int) (w:World) (K:KT) (Y6:YT):f170_lb6 c e f g h d w K Y6=(f170_s7 (decide ((c:Int) < d)) c e f g h d w K Y6):=Eq.trans SGe (Eq.trans (CSs [26,23,24,25,2] (f170_k11 K Y6) (by kernel_rfl)) (by kernel_rfl))
theorem f170_s5_eq (a c:Int) (d:OA) (e f:Nat) (g:Int) (h:OA) (i j:Nat) (w:World) (K:KT):f170_s5 a c d e f g h i j w K=(LoopE (f170_lp6 K) (Env.mk 47 [(25,(Value.int .i64 a)),(23,(Value.slice d e f)),(2,(Value.int .i64 g)),(24,(Value.int .i64 c))] []) w):=Eq.trans (b:=CS P (cA c170 125) none [] [2] (f170_k8 K) (Env.mk 47 [(25,(VI a)),(24,(VI c)),(23,(VS d e f)),(2,(VI g)),(3,(VS h i j))] []) w) (by kernel_rfl) (Eq.trans (CSb 0 [2] (f170_k10 K) (by kernel_rfl)) ((CS_loop' (b:=(cA c170 500)) (X':=[2]) (H:=[25,23,2,24]) (by kernel_rfl) (by kernel_rfl) (by kernel_rfl)).trans (by kernel_rfl)))
theorem f170_s4_eq (f:Int) (d:OA) (c e:Nat) (w:World) (K:KT):f170_s4 f d c e w K=(f170_s5 0 ((c:Nat):Int) d c e f d c e w K):=Eq.trans SGe (Eq.trans (CSs [] (f170_k8 K) (by kernel_rfl)) (Eq.trans (CSs [25,23,2,24] (f170_k9 K) (by kernel_rfl)) (by kernel_rfl)))
theorem f170_s3_eq (c:OA) (d e:Nat) (h:OA) (i j:Nat) (k:Array Value) (f:Int) (g:Addr) (w:World) (K:KT):f170_s3 c d e h i j k f g w K=(LdA 15 g w (fun u=>CallL P 188 [(Value.agg u)] w (fun x y=>∃ m:Array Value,∃ n:Bool,x=(.tuple [(Value.agg m),(Value.bool n)].toArray)∧NewC (zcells P 238) 238 y (fun o z=>StA 2 (Addr.mk o 0 none) m z (fun l=>BIf n (LdA 2 (Addr.mk o 0 none) l (fun p=>sizesAre 2 [(Value.agg p)]∧NewC (([(Value.agg p)].map fun (v:Value)=>v.cells.toList).flatten.toArray) 238 l (fun a0 b0=>∃ (q:OA) (r s:Nat),∃ t:World,(Builtin.append_ #[235,235] 235 [(Value.slice c d e),(Value.slice (some (Addr.mk a0 0 none)) 1 1)].toArray).run P b0=.ok (.slice q r s) t∧f170_s4 f q r s t K))) (f170_s4 f c d e l K)))))):=Eq.trans (b:=CS P (cA c170 15) none [2] [2] (f170_kb K) (Env.mk 47 [(3,(VS c d e)),(12,(VS h i j)),(11,(Value.agg k)),(2,(VI f)),(1,(VP (some g)))] []) w) (by kernel_rfl) (Eq.trans (CSs [2,3] (f170_k5 K) (by kernel_rfl)) (Eq.trans (CSs [2,4,3,5] (f170_k6 K) (by kernel_rfl)) (by kernel_rfl)))
theorem f170_s2_eq (d:Int) (c:Addr) (w:World) (K:KT):f170_s2 d c w K=(LdA 15 c w (fun h=>CallL P 187 [(Value.agg h)] w (fun i j=>∃ (e:OA) (f g:Nat),i=(.slice e f g)∧f170_s3 e f g e f g h d c j K))):=Eq.trans SGe (Eq.trans (CSs [2,3,1] (f170_k4 K) (by kernel_rfl)) (by kernel_rfl))
theorem f170_s1_eq (d:Int) (c:Addr) (e:Array Value) (w:World) (K:KT):f170_s1 d c e w K=(LdA 15 c w (fun h=>CallL P 186 [(Value.agg h)] w (fun i f=>∃ g:Bool,i=(.bool g)∧BIf (!g) (K (Value.int .i64 170) f) (f170_s2 d c f K)))):=Eq.trans (b:=CS P (cA c170 3) none [2] [2] (f170_kb K) (Env.mk 47 [(2,(VI d)),(1,(VP (some c))),(0,(Value.agg e))] []) w) (by kernel_rfl) (Eq.trans (CSs [2,1] (f170_k1 K) (by kernel_rfl)) (Eq.trans (CSs [10,2,1] (f170_k2 K) (by kernel_rfl)) (by kernel_rfl)))
theorem f170_s0_eq (c:Array Value) (w:World) (K:KT):f170_s0 c w K=(NewC c 119 w (fun d e=>f170_s1 0 (Addr.mk d 0 none) c e K)):=Eq.trans (b:=CS P (cA c170 1) none [2] [2] (f170_kb K) (Env.mk 47 [(0,(Value.agg c))] []) w) (by kernel_rfl) (Eq.trans (CSs [2,1] (f170_k0 K) (by kernel_rfl)) (by kernel_rfl))
theorem f170_eq (a:Array Value) (w:World) (K:KT):f170 a w K=(f170_s0 a w K):=by kernel_rfl
theorem f170_ok (a:Array Value) (w:World) (K:KT) (h:f170 a w K):CallL P 170 [(Value.agg a)] w K:=okCS c170 Tryz.func170 (by kernel_rfl) (by kernel_rfl) h
noncomputable def c185:Code:=bodyOf Tryz.f185
noncomputable def rs185:List ResultVar:=Tryz.f185.results.toList
abbrev f185_kb (K:KT):Exit→YT:=bodyK P rs185 K
def f185 (a:Value) (b c:Addr) (w:World) (K:KT):Prop:=CS P c185 none [] [] (f185_kb K) (env0 73 [a,(VP (some b)),(VP (some c))]) w
def f185_s0 (a:Int) (b:Value) (c:OA) (d f:Nat) (g:Int) (w:World) (K:KT):Prop:=SG P (cA c185 3) none [] [] (f185_kb K) (Env.mk 73 [(64,(VI a)),(0,b),(62,(VS c d f)),(63,(VI g))] []) w
abbrev f185_k1 (K:KT):Exit→YT:=kblock 0 (f185_kb K)
def f185_lp1 (K:KT) (Y1:YT) (e:Env) (w:World):Prop:=Join (fun e w=>CS P (cA c185 12) none [64,0,62,63] [] (kloop [64,0,62,63] Y1 (f185_k1 K)) e w) e w
abbrev f185_kl1 (K:KT) (Y1:YT):Exit→YT:=kloop [64,0,62,63] Y1 (f185_k1 K)
def f185_lb1 (a:Int) (b:Value) (c:OA) (d f:Nat) (g:Int) (w:World) (K:KT) (Y1:YT):Prop:=SG P (cA c185 12) none [64,0,62,63] [] (f185_kl1 K Y1) (Env.mk 73 [(64,(VI a)),(0,b),(62,(VS c d f)),(63,(VI g))] []) w
def f185_s2 (a:Value) (b:OA) (c d:Nat) (f g:Int) (w:World) (K:KT) (Y1:YT):Prop:=SG P (cA c185 51) none [64,0,62,63] [] (f185_kl1 K Y1) (Env.mk 73 [(0,a),(62,(VS b c d)),(63,(VI f)),(64,(VI g))] []) w
def f185_s3 (a:Value) (b:OA) (c d:Nat) (f g:Int) (w:World) (K:KT) (Y1:YT):Prop:=SG P (cA c185 103) none [64,0,62,63] [] (f185_kl1 K Y1) (Env.mk 73 [(0,a),(62,(VS b c d)),(63,(VI f)),(64,(VI g))] []) w
theorem f185_s3_eq (a:Value) (b:OA) (c d:Nat) (e f:Int) (w:World) (K:KT) (Y1:YT):f185_s3 a b c d e f w K Y1=(Y1 (Env.mk 73 [(64,(Value.int .i64 (IntKind.wrap .i64 ((f:Int)+1)))),(0,a),(62,(Value.slice b c d)),(63,(Value.int .i64 e))] []) w):=by kernel_rfl
theorem f185_s2_eq (b:Value) (c:OA) (d e:Nat) (f a:Int) (w:World) (K:KT) (Y1:YT):f185_s2 b c d e f a w K Y1=(optS c (fun k=>0≤(a:Int)∧(a:Int) < (d:Nat)∧LdA 3 (k.add (Int.toNat a * 3)) w (fun l=>NewC (zcells P 222) 222 w (fun g m=>StA 3 (Addr.mk g 0 none) l m (fun h=>LdA 3 (Addr.mk g 0 none) h (fun n=>CallF P b [(Value.agg n)] h (fun o i=>∃ j:Bool,o=(.bool j)∧BIf (!j) (K (Value.tuple [].toArray) i) (f185_s3 b c d e f a i K Y1)))))))):=by kernel_rfl
theorem f185_lb1_eq (a:Int) (c:Value) (d:OA) (e f:Nat) (b:Int) (w:World) (K:KT) (Y1:YT):f185_lb1 a c d e f b w K Y1=(BIf (decide ((a:Int) < b)) (f185_s2 c d e f b a w K Y1) (K (Value.tuple [].toArray) w)):=by kernel_rfl
theorem f185_s0_eq (a:Int) (b:Value) (c:OA) (d e:Nat) (f:Int) (w:World) (K:KT):f185_s0 a b c d e f w K=(LoopE (f185_lp1 K) (Env.mk 73 [(64,(Value.int .i64 a)),(0,b),(62,(Value.slice c d e)),(63,(Value.int .i64 f))] []) w):=by kernel_rfl
theorem f185_eq (k:Value) (a b:Addr) (w:World) (K:KT):f185 k a b w K=(∃ l:Option Addr,w.drew.cell? a=some (.pointer l)∧optS l (fun d0=>∃ m:Option Addr,w.drew.cell? b=some (.pointer m)∧optS m (fun e0=>∃ c:Array Value,(∀ wq,(Instr.build 222 [(0,(Value.int .i64 1)),(1,(Value.pointer (some (d0.add 1)))),(2,(Value.pointer (some (e0.add 1))))].toArray).run P wq=.ok (.agg c) wq)∧∃ n:Option Addr,w.drew.cell? a=some (.pointer n)∧optS n (fun f0=>∃ o:Option Addr,w.drew.cell? b=some (.pointer o)∧optS o (fun g0=>∃ d:Array Value,(∀ wq,(Instr.build 222 [(0,(Value.int .i64 2)),(1,(Value.pointer (some (f0.add 2)))),(2,(Value.pointer (some (g0.add 2))))].toArray).run P wq=.ok (.agg d) wq)∧∃ p:Option Addr,w.drew.cell? a=some (.pointer p)∧optS p (fun h0=>∃ q:Option Addr,w.drew.cell? b=some (.pointer q)∧optS q (fun i0=>∃ e:Array Value,(∀ wq,(Instr.build 222 [(0,(Value.int .i64 4)),(1,(Value.pointer (some (h0.add 3)))),(2,(Value.pointer (some (i0.add 3))))].toArray).run P wq=.ok (.agg e) wq)∧∃ r:Option Addr,w.drew.cell? a=some (.pointer r)∧optS r (fun j0=>∃ s:Option Addr,w.drew.cell? b=some (.pointer s)∧optS s (fun l0=>∃ f:Array Value,(∀ wq,(Instr.build 222 [(0,(Value.int .i64 8)),(1,(Value.pointer (some (j0.add 4)))),(2,(Value.pointer (some (l0.add 4))))].toArray).run P wq=.ok (.agg f) wq)∧∃ t:Option Addr,w.drew.cell? a=some (.pointer t)∧optS t (fun m0=>∃ u:Option Addr,w.drew.cell? b=some (.pointer u)∧optS u (fun n0=>∃ g:Array Value,(∀ wq,(Instr.build 222 [(0,(Value.int .i64 16)),(1,(Value.pointer (some (m0.add 5)))),(2,(Value.pointer (some (n0.add 5))))].toArray).run P wq=.ok (.agg g) wq)∧∃ x:Option Addr,w.drew.cell? a=some (.pointer x)∧optS x (fun o0=>∃ y:Option Addr,w.drew.cell? b=some (.pointer y)∧optS y (fun p0=>∃ h:Array Value,(∀ wq,(Instr.build 222 [(0,(Value.int .i64 32)),(1,(Value.pointer (some (o0.add 6)))),(2,(Value.pointer (some (p0.add 6))))].toArray).run P wq=.ok (.agg h) wq)∧∃ z:Option Addr,w.drew.cell? a=some (.pointer z)∧optS z (fun q0=>∃ a0:Option Addr,w.drew.cell? b=some (.pointer a0)∧optS a0 (fun r0=>∃ i:Array Value,(∀ wq,(Instr.build 222 [(0,(Value.int .i64 64)),(1,(Value.pointer (some (q0.add 7)))),(2,(Value.pointer (some (r0.add 7))))].toArray).run P wq=.ok (.agg i) wq)∧∃ b0:Option Addr,w.drew.cell? a=some (.pointer b0)∧optS b0 (fun s0=>∃ c0:Option Addr,w.drew.cell? b=some (.pointer c0)∧optS c0 (fun t0=>∃ j:Array Value,(∀ wq,(Instr.build 222 [(0,(Value.int .i64 128)),(1,(Value.pointer (some (s0.add 8)))),(2,(Value.pointer (some (t0.add 8))))].toArray).run P wq=.ok (.agg j) wq)∧sizesAre 3 [(Value.agg c),(Value.agg d),(Value.agg e),(Value.agg f),(Value.agg g),(Value.agg h),(Value.agg i),(Value.agg j)]∧NewC (([(Value.agg c),(Value.agg d),(Value.agg e),(Value.agg f),(Value.agg g),(Value.agg h),(Value.agg i),(Value.agg j)].map fun (v:Value)=>v.cells.toList).flatten.toArray) 222 w.drew (fun u0 x0=>f185_s0 0 k (some (Addr.mk u0 0 none)) 8 8 8 x0 K)))))))))))))))))):=by kernel_rfl
theorem f185_ok (a:Value) (b c:Addr) (w:World) (K:KT) (h:f185 a b c w K):CallL P 185 [a,(Value.pointer (some b)),(Value.pointer (some c))] w K:=okCS c185 Tryz.func185 (by kernel_rfl) (by kernel_rfl) h
end Go.Fx.Tryz
namespace Go.Fx.Tryz
open Go Go.Fx Go.Fx.Ch
open Go.Proofs
set_option maxRecDepth 20000
variable {w0 w:World} {H:HBL} {K:KT}
def Fcs (s:ByteArray) (f r:Nat):List Value:=[.string s,J f,J r]
theorem obeys_ok (h:St w0 w H) {s:ByteArray} {f r:Nat} {x:HI} (hK:∀ w',St w0 w' H→K (.bool (obeys r x)) w'):CallL P 196 [.agg (Fcs s f r).toArray,.agg (HIcs x).toArray] w K:=by
 refine f196_ok _ _ _ _ ?_
 rw [f196_eq]
 refine h.newC fun n2 w3 hn2 h3=>h3.newC fun n4 w5 hn4 h5=>?_
 have h5:St w0 w5 ((n4,Cs (HIcs x) 119)::(n2,Cs (Fcs s f r) 214)::H):=h5
 have c:∀ i,w5.cell? (Addr.mk n4 i none)=(HIcs x)[i]?:=fun i=>h5.cell (k:=0) rfl
 refine ⟨r,by rw [add_lit']; exact h5.cell (k:=1) rfl,?_⟩
 have hd:∀ {w'},St w0 w' ((n4,Cs (HIcs x) 119)::(n2,Cs (Fcs s f r) 214)::H)→St w0 w' H:=fun h'=>(h'.tail hn4).tail hn2
 have hK5:=hK w5 (hd h5)
 unfold obeys at hK5
 generalize (r:Int)=r at *
 simp only [add_lit',Nat.zero_add]
 have csub:w5.cell? (Addr.mk n4 1 none)=some (J x.sub):=c 1
 have cty:w5.cell? (Addr.mk n4 3 none)=some (J x.ty):=c 3
 have cc:w5.cell? (Addr.mk n4 7 none)=some (J x.c):=c 7
 have ck:w5.cell? (Addr.mk n4 8 none)=some (J x.k):=c 8
 have ci:w5.cell? (Addr.mk n4 9 none)=some (U x.i):=c 9
 simp only [f196_s0_eq,f196_s1_eq,f196_s2_eq,f196_s3_eq,f196_s4_eq,f196_s5_eq,f196_s6_eq,f196_s7_eq,f196_s8_eq,f196_s9_eq]
 cases e1:(r == 1) <;> rw [e1] at hK5 <;> simp only [BIf_true,BIf_false]
 case true=>exact ⟨_,csub,within_ok ⟨_,rfl,hK5⟩⟩
 cases e2:(r == 2) <;> rw [e2] at hK5 <;> simp only [BIf_true,BIf_false]
 case true=>
  refine h5.ldA (k:=0) (i:=0) rfl (by simp [HIcs]) (unary_ok (x:=x) h5 fun w' h'=>⟨_,rfl,?_⟩)
  have hK:=hK w' (hd h')
  unfold obeys at hK
  rw [e1,e2] at hK
  exact hK
 cases e3:(r == 3) <;> rw [e3] at hK5 <;> simp only [BIf_true,BIf_false]
 case true=>
  refine ⟨_,csub,within_ok ⟨_,rfl,?_⟩⟩
  cases hb:within x.sub 8 10 <;> rw [hb] at hK5 <;> simp only [BIf_true,BIf_false]
  ·exact ⟨_,csub,within_ok ⟨_,rfl,hK5⟩⟩
  ·exact hK5
 cases e4:(r == 4) <;> rw [e4] at hK5 <;> simp only [BIf_true,BIf_false]
 case true=>
  refine ⟨_,csub,?_⟩
  cases hb:(x.sub == 1) <;> rw [hb] at hK5 <;> simp only [BIf_true,BIf_false]
  ·exact ⟨_,csub,within_ok ⟨_,rfl,hK5⟩⟩
  ·exact hK5
 cases e5:(r == 5) <;> rw [e5] at hK5 <;> simp only [BIf_true,BIf_false]
 case true=>
  refine ⟨_,csub,?_⟩
  cases hb:(x.sub == 14) <;> rw [hb] at hK5 <;> simp only [BIf_true,BIf_false]
  ·exact ⟨_,csub,hK5⟩
  ·exact hK5
 cases e6:(r == 6) <;> rw [e6] at hK5 <;> simp only [BIf_true,BIf_false]
 case true=>exact ⟨_,ck,within_ok ⟨_,rfl,hK5⟩⟩
 cases e7:(r == 7) <;> rw [e7] at hK5 <;> simp only [BIf_true,BIf_false]
 case true=>
  refine ⟨_,cty,word_ok ⟨_,rfl,?_⟩⟩
  cases hb:word x.ty <;> rw [hb] at hK5 <;> simp only [BIf_true,BIf_false]
  ·exact hK5
  ·refine ⟨_,cty,_,ck,place_ok h5 fun w' h'=>⟨_,rfl,?_⟩⟩
   have hK:=hK w' (hd h')
   unfold obeys at hK
   rw [e1,e2,e3,e4,e5,e6,e7,hb] at hK
   exact hK
 cases e8:(r == 8) <;> rw [e8] at hK5 <;> simp only [BIf_true,BIf_false]
 case true=>
  refine ⟨_,ck,place_ok h5 fun w' h'=>⟨_,rfl,?_⟩⟩
  have hK:=hK w' (hd h')
  unfold obeys at hK
  rw [e1,e2,e3,e4,e5,e6,e7,e8] at hK
  exact hK
 cases e9:(r == 9) <;> rw [e9] at hK5 <;> simp only [BIf_true,BIf_false]
 case true=>exact ⟨_,cty,word_ok ⟨_,rfl,hK5⟩⟩
 cases e10:(r == 10) <;> rw [e10] at hK5 <;> simp only [BIf_true,BIf_false]
 case true=>
  refine ⟨_,cty,word_ok ⟨_,rfl,?_⟩⟩
  cases hb:word x.ty <;> rw [hb] at hK5 <;> simp only [BIf_true,BIf_false]
  ·exact ⟨_,cty,hK5⟩
  ·exact hK5
 cases e11:(r == 11) <;> rw [e11] at hK5 <;> simp only [BIf_true,BIf_false]
 case true=>exact ⟨_,ck,within_ok ⟨_,rfl,hK5⟩⟩
 cases e12:(r == 12) <;> rw [e12] at hK5 <;> simp only [BIf_true,BIf_false]
 case true=>
  refine ⟨_,csub,within_ok ⟨_,rfl,?_⟩⟩
  cases hb:within x.sub 0 2 <;> rw [hb] at hK5 <;> simp only [BIf_true,BIf_false]
  ·exact hK5
  ·refine ⟨_,csub,?_⟩
   cases hc:(x.sub == 0) <;> rw [hc] at hK5 <;> simp only [BIf_true,BIf_false]
   ·exact ⟨_,cc,hK5⟩
   ·exact hK5
 cases e13:(r == 13) <;> rw [e13] at hK5 <;> simp only [BIf_true,BIf_false]
 case true=>exact ⟨_,ck,within_ok ⟨_,rfl,hK5⟩⟩
 cases e14:(r == 14) <;> rw [e14] at hK5 <;> simp only [BIf_true,BIf_false]
 case true=>exact ⟨_,csub,within_ok ⟨_,rfl,hK5⟩⟩
 cases e15:(r == 15) <;> rw [e15] at hK5 <;> simp only [BIf_true,BIf_false]
 case true=>
  refine ⟨_,ck,within_ok ⟨_,rfl,?_⟩⟩
  cases hb:within x.k 0 8 <;> rw [hb] at hK5 <;> simp only [BIf_true,BIf_false]
  ·exact hK5
  ·exact ⟨_,ci,hK5⟩
 cases e16:(r == 16) <;> rw [e16] at hK5 <;> simp only [BIf_true,BIf_false]
 case true=>
  refine ⟨_,ck,?_⟩
  cases hb:(x.k == 4) <;> rw [hb] at hK5 <;> simp only [BIf_true,BIf_false]
  ·exact ⟨_,ck,hK5⟩
  ·exact hK5
 cases e17:(r == 17) <;> rw [e17] at hK5 <;> simp only [BIf_true,BIf_false]
 case true=>exact ⟨_,ck,within_ok ⟨_,rfl,hK5⟩⟩
 cases e18:(r == 18) <;> rw [e18] at hK5 <;> simp only [BIf_true,BIf_false]
 case true=>exact ⟨_,ck,within_ok ⟨_,rfl,hK5⟩⟩
 cases e19:(r == 19) <;> rw [e19] at hK5 <;> simp only [BIf_true,BIf_false]
 case true=>
  refine ⟨_,ck,within_ok ⟨_,rfl,?_⟩⟩
  cases hb:within x.k 0 508 <;> rw [hb] at hK5 <;> simp only [BIf_true,BIf_false]
  ·exact hK5
  ·exact ⟨_,ck,by omega,hK5⟩
 exact hK5
theorem and64 (a b:Nat) (ha:a < 32768) (hb:b < 32768):(IntKind.wrap .i64 ((BitVec.ofInt (IntKind.bits .i64) (a:Int) &&& BitVec.ofInt (IntKind.bits .i64) (b:Int)).toNat:Int))=((Nat.land a b:Nat):Int):=by
 have hle:Nat.land a b≤a:=Nat.and_le_left
 have e:(BitVec.ofInt (IntKind.bits .i64) (a:Int) &&& BitVec.ofInt (IntKind.bits .i64) (b:Int)).toNat=Nat.land a b:=by
  show (BitVec.ofInt 64 (a:Int) &&& BitVec.ofInt 64 (b:Int)).toNat=Nat.land a b
  rw [BitVec.toNat_and,BitVec.ofInt_natCast,BitVec.ofInt_natCast,BitVec.toNat_ofNat,BitVec.toNat_ofNat,Nat.mod_eq_of_lt (by omega),Nat.mod_eq_of_lt (by omega)]
  rfl
 rw [e,wrap_i64 (by omega) (by omega)]
theorem has_ok (h:St w0 w H) {s:ByteArray} {f r bit:Nat} (hf:f < 32768) (hb:bit < 32768) (hK:∀ w',St w0 w' H→K (.bool (has f bit)) w'):CallL P 169 [.agg (Fcs s f r).toArray,J bit] w K:=by
 refine f169_ok _ _ _ _ ?_
 rw [f169_eq]
 refine h.newC fun n2 w3 hn2 h3=>⟨f,by rw [add_lit']; exact h3.cell (k:=0) rfl,?_⟩
 rw [and64 f bit hf hb]
 have:=hK w3 (h3.tail hn2)
 unfold has at this
 have e:(((Nat.land f bit:Nat):Int) != 0)=(Nat.land f bit != 0):=by
  rw [Bool.eq_iff_iff]; simp
 rw [e]; exact this
structure Table (gcs:List Value):Prop where
 len:gcs.length=138
 row:∀ i,i < 46→∃ s,(gcs.drop (i * 3)).take 3=Fcs s (forms.getD i (0,0)).1 (forms.getD i (0,0)).2
theorem z214:∃ z:List Value,zcells P 214=z.toArray∧z.length=3:=⟨[.string ⟨#[]⟩,J 0,J 0],by kernel_rfl,rfl⟩
theorem bform (wq:World):(Instr.build 214 [].toArray).run P wq=.ok (.agg (Fcs ⟨#[]⟩ 0 0).toArray) wq:=by kernel_rfl
theorem formOf_ok (h:St w0 w H) {gcs:List Value} {gt:TypeId} (hg:(0,Cs gcs gt)∈H) (ht:Table gcs) {op:Int}
  (hK:∀ w' s,St w0 w' H→K (.tuple [.agg (Fcs s (formN (if 1≤op∧op < 46 then op else 0)).1 (formN (if 1≤op∧op < 46 then op else 0)).2).toArray,.bool (decide (1≤op∧op < 46))].toArray) w') :
  CallL P 167 [J op] w K:=by
 refine f167_ok _ _ _ ?_
 obtain ⟨z,hz,hzl⟩:=z214
 rw [f167_eq,hz]
 refine h.newC fun n1 w2 hn1 h2=>?_
 have no:¬ (1≤op∧op < 46)→f167_s0 true (Addr.mk n1 0 none) op w2 K:=fun hno=>by
  rw [f167_s0_eq]
  simp only [BIf_true]
  refine ⟨_,bform,h2.stA (k:=0) rfl (by simp [Fcs]) (by simp [hzl]) (by simp [Fcs,Value.oneCell']) fun w7 h7=>?_⟩
  have h7:St w0 w7 ((n1,Cs (splice z 0 (Fcs ⟨#[]⟩ 0 0)) 214)::H):=h7
  rw [splice_all _ _ (by rw [hzl]; rfl)] at h7
  refine h7.ldA (k:=0) (i:=0) rfl (by simp [Fcs]) ?_
  have hK:=hK w7 ⟨#[]⟩ (h7.tail hn1)
  rw [if_neg hno,show decide (1≤op∧op < 46)=false by simpa using hno] at hK
  exact hK
 rw [BIf_iff]
 refine ⟨fun hb=>no (by have:=of_decide_eq_true hb; omega),fun hb=>?_⟩
 have h1:¬ op < 1:=of_decide_eq_false hb
 cases hb2:decide (op≥46) with
 | true=>exact no (by have:=of_decide_eq_true hb2; omega)
 | false=>
  have h46:¬ op≥46:=of_decide_eq_false hb2
  have hin:1≤op∧op < 46:=by omega
  rw [f167_s0_eq]
  simp only [BIf_false]
  rw [f167_s1_eq]
  refine ⟨by omega,by omega,?_⟩
  obtain ⟨s,hs⟩:=ht.row op.toNat (by omega)
  rw [add_lit',Nat.zero_add]
  refine LdA_of (h2.has _ _ (.tail _ hg)) (by rw [ht.len]; omega) ?_
  rw [hs]
  refine h2.stA (k:=0) rfl (by simp [Fcs]) (by simp [hzl]) (by simp [Fcs,Value.oneCell']) fun w7 h7=>?_
  have h7:St w0 w7 ((n1,Cs (splice z 0 (Fcs s (forms.getD op.toNat (0,0)).1 (forms.getD op.toNat (0,0)).2)) 214)::H):=h7
  rw [splice_all _ _ (by rw [hzl]; rfl)] at h7
  refine h7.ldA (k:=0) (i:=0) rfl (by simp [Fcs]) ?_
  have hK:=hK w7 s (h7.tail hn1)
  rw [if_pos hin,show decide (1≤op∧op < 46)=true by simpa using hin] at hK
  exact hK
def flds:List (Nat × Nat):=[(1,1),(2,2),(4,3),(8,4),(16,5),(32,6),(64,7),(128,8)]
def Pcs (n m:Nat) (f:Nat × Nat):List Value:=[J f.1,.pointer (some (Addr.mk n f.2 none)),.pointer (some (Addr.mk m f.2 none))]
theorem bpair (b:Int) (p q:Option Addr) (wq:World):(Instr.build 222 [(0,J b),(1,.pointer p),(2,.pointer q)].toArray).run P wq=.ok (.agg #[J b,.pointer p,.pointer q]) wq:=by kernel_rfl
theorem z222:∃ z:List Value,zcells P 222=z.toArray∧z.length=3:=⟨[J 0,.pointer none,.pointer none],by kernel_rfl,rfl⟩
theorem fields185_ok {v0:Value} {b1 b2 n m:Nat} {t1 t2:TypeId} (I:Nat→List (Nat × Obj)→Prop) (h:St w0 w H) (h1:(b1,Cs [.pointer (some (Addr.mk n 0 none))] t1)∈H) (h2:(b2,Cs [.pointer (some (Addr.mk m 0 none))] t2)∈H) (h0:I 0 H)
  (hy:∀ i:Nat,i < 8→∀ q o X W,w0.heap.size≤q→I i X→St w0 W ((q,o)::X)→CallF P v0 [.agg (Pcs n m (flds.getD i (0,0))).toArray] W fun r W'=>r=.bool true∧∃ X',I (i+1) X'∧St w0 W' ((q,o)::X'))
  (hK:∀ W X,I 8 X→St w0 W X→K (.tuple #[]) W):CallL P 185 [v0,.pointer (some (Addr.mk b1 0 none)),.pointer (some (Addr.mk b2 0 none))] w K:=by
 refine f185_ok _ _ _ _ _ ?_
 rw [f185_eq]
 have hd:=h.drew
 have c1:w.drew.cell? (Addr.mk b1 0 none)=some (.pointer (some (Addr.mk n 0 none))):=cell_of (hd.has _ _ h1)
 have c2:w.drew.cell? (Addr.mk b2 0 none)=some (.pointer (some (Addr.mk m 0 none))):=cell_of (hd.has _ _ h2)
 refine ⟨_,c1,_,c2,_,bpair _ _ _,_,c1,_,c2,_,bpair _ _ _,_,c1,_,c2,_,bpair _ _ _,_,c1,_,c2,_,bpair _ _ _,_,c1,_,c2,_,bpair _ _ _,_,c1,_,c2,_,bpair _ _ _,_,c1,_,c2,_,bpair _ _ _,_,c1,_,c2,_,bpair _ _ _,⟨rfl,rfl,rfl,rfl,rfl,rfl,rfl,rfl,trivial⟩,?_⟩
 refine hd.newC fun q w1 hq h3=>?_
 simp only [add_lit',Nat.zero_add] at h3
 have h3:St w0 w1 ((q,Cs ((flds.map (Pcs n m)).flatten) 222)::H):=h3
 obtain ⟨z,hz,hzl⟩:=z222
 rw [f185_s0_eq]
 refine ⟨fun k e w=>∃ (i:Nat) (X:HBL),i≤8∧k=8 - i∧e=Env.mk 73 [(64,J i),(0,v0),(62,.slice (some (Addr.mk q 0 none)) 8 8),(63,J 8)] []∧I i X∧St w0 w ((q,Cs ((flds.map (Pcs n m)).flatten) 222)::X),⟨8,0,H,by omega,rfl,rfl,h0,h3⟩,?_⟩
 rintro k e W ⟨i,X,hi,rfl,rfl,hI,hs⟩
 show f185_lb1 ..
 rw [f185_lb1_eq,BIf_iff]
 refine ⟨fun hlt=>?_,fun hge=>?_⟩
 ·have hlt:i < 8:=by have:=of_decide_eq_true hlt; omega
  rw [f185_s2_eq,hz]
  refine ⟨by omega,by omega,?_⟩
  rw [Int.toNat_natCast,add_lit',Nat.zero_add]
  refine hs.ldA (k:=0) rfl (by show i * 3+3≤24; omega) ?_
  have hp:(((flds.map (Pcs n m)).flatten).drop (i * 3)).take 3=Pcs n m (flds.getD i (0,0)):=by
   have:i=0∨i=1∨i=2∨i=3∨i=4∨i=5∨i=6∨i=7:=by omega
   rcases this with rfl | rfl | rfl | rfl | rfl | rfl | rfl | rfl <;> rfl
  rw [hp]
  refine hs.newC fun u w2 hu h4=>?_
  refine h4.stA (k:=0) rfl rfl (by simp [hzl]) (by simp [Pcs,Value.oneCell']) fun w3 h5=>?_
  have h5:St w0 w3 ((u,Cs (splice z 0 (Pcs n m (flds.getD i (0,0)))) 222)::(q,Cs ((flds.map (Pcs n m)).flatten) 222)::X):=h5
  rw [splice_all _ _ (by rw [hzl]; rfl)] at h5
  refine h5.ldA (k:=0) (i:=0) rfl (by simp [Pcs]) ?_
  refine CallF_mono ?_ (hy i hlt q _ X w3 hq hI (h5.tail hu))
  rintro r W' ⟨rfl,X',hI',h6⟩
  refine ⟨true,rfl,?_⟩
  rw [Bool.not_true,BIf_false,f185_s3_eq]
  exact ⟨8 - (i+1),by omega,i+1,X',by omega,rfl,by rw [wrap_i64 (by omega) (by omega)]; rfl,hI',h6⟩
 ·have:i=8:=by have:=of_decide_eq_false hge; omega
  subst this
  exact hK _ X hI (hs.tail hq)
theorem en185:enterable P 185=true:=by kernel_rfl
abbrev mk (l:Nat):Deferred:={ target:=.collected l,args:=#[] }
theorem range_fields {KK:Exit→YT} {e:Env} {round:Nat→(LoopState→Option Code→Loop)→(Option Code→World→Prop)→List Value→World→Prop}
  (h:St w0 w H) {b1 b2 n m:Nat} {t1 t2:TypeId} (h1:(b1,Cs [.pointer (some (Addr.mk n 0 none))] t1)∈H) (h2:(b2,Cs [.pointer (some (Addr.mk m 0 none))] t2)∈H)
  (I:Nat→List (Nat × Obj)→Prop) (I0:I 0 H)
  (hround:∀ l l' q o R post (i:Nat) W X,i < 8→I i X→St w0 W ((l,.loop (R .ready none))::(l',.deferred (some []))::(q,o)::X)→w0.heap.size≤l→w0.heap.size≤l'→w0.heap.size≤q→
   (∀ W' X',I (i+1) X'→St w0 W' ((l,.loop (R .ready none))::(l',.deferred (some []))::(q,o)::X')→post none W')→round l R post [.agg (Pcs n m (flds.getD i (0,0))).toArray] W)
  (hend:∀ W X l',w0.heap.size≤l'→I 8 X→St w0 W ((l',.deferred (some []))::X)→KK .normal { e with d:=mk l'::e.d } W) :
  RangeC P KK e w (.func (.func 185) #[] #[.pointer (some (Addr.mk b1 0 none)),.pointer (some (Addr.mk b2 0 none))]) round:=by
 refine ⟨en185,fun R hy=>?_⟩
 have h3:=(h.alloc (.deferred (some []))).alloc (.loop (R .ready none))
 have hsz:(w.alloc (.deferred (some []))).heap.size=w.heap.size+1:=by simp
 rw [hsz] at h3
 have hle:w0.heap.size≤w.heap.size:=h.le
 refine fields185_ok (n:=n) (m:=m) (t1:=t1) (t2:=t2) (fun i Y=>∃ X,I i X∧Y=(w.heap.size+1,.loop (R .ready none))::(w.heap.size,.deferred (some []))::X) h3 (.tail _ (.tail _ h1)) (.tail _ (.tail _ h2)) ⟨H,I0,rfl⟩ ?_ ?_
 ·rintro i hi q o Y W hq ⟨X,hI,rfl⟩ hs
  have hs':St w0 W ((w.heap.size+1,.loop (R .ready none))::(w.heap.size,.deferred (some []))::(q,o)::X):=hs.perm ((List.Perm.swap _ _ _).trans ((List.Perm.swap _ _ _).cons _))
  refine CallF_mono ?_ (hy [.agg (Pcs n m (flds.getD i (0,0))).toArray] W (fun j W'=>match j with
   | none=>∃ X',I (i+1) X'∧St w0 W' ((w.heap.size+1,.loop (R .ready none))::(w.heap.size,.deferred (some []))::(q,o)::X')
   | some _=>False)
   (hround _ _ q o R _ i W X hi hI hs' (by omega) (by omega) hq (fun W' X' h1 h2=>⟨X',h1,h2⟩)) (hs'.get (k:=0) rfl))
  rintro v W' ⟨j,rfl,hj⟩
  cases j with
  | none=>
   obtain ⟨X',h2,h3⟩:=hj
   exact ⟨rfl,_,⟨X',h2,rfl⟩,h3.perm (((List.Perm.swap _ _ _).cons _).trans (List.Perm.swap _ _ _))⟩
  | some c=>exact hj.elim
 ·rintro W Y ⟨X,hI,rfl⟩ hs
  refine ⟨.ready,none,hs.get (k:=0) rfl,by simp,?_⟩
  exact hend _ X _ hle hI ((hs.put (k:=0) rfl _).tail (by omega))
theorem fieldsOf_ok (h:St w0 w H) {p q:Addr} (hK:∀ w' b1 b2,w0.heap.size≤b1→w0.heap.size≤b2→St w0 w' ((b2,Cs [.pointer (some q)] 219)::(b1,Cs [.pointer (some p)] 219)::H)→K (.func (.func 185) #[] #[.pointer (some (Addr.mk b1 0 none)),.pointer (some (Addr.mk b2 0 none))]) w') :
  CallL P 168 [.pointer (some p),.pointer (some q)] w K:=by
 refine f168_ok _ _ _ _ ?_
 rw [f168_eq]
 exact h.newC fun n2 w3 hn2 h3=>h3.newC fun n4 w5 hn4 h5=>hK w5 n2 n4 hn2 hn4 h5
theorem z119:∃ z:List Value,zcells P 119=z.toArray∧z.length=15:=⟨HIcs {},by kernel_rfl,rfl⟩
theorem bop (op:Int) (wq:World):(Instr.build 119 [(0,J op)].toArray).run P wq=.ok (.agg (HIcs { op:=op }).toArray) wq:=by kernel_rfl
theorem leave_195 (a:Addr) (v5:Value) (cs:Array Value) (d0:List Deferred) (w:World) (K:KT) :
  LeaveS P rs195 (Env.mk 39 [(38,(Value.agg cs)),(4,.pointer (some a)),(5,v5)] d0) K [] w=LdA 15 a w (fun cs=>K (Value.agg cs) w):=by kernel_rfl
theorem one_HI (x:HI):∀ v∈HIcs x,v.oneCell'=true:=by simp [HIcs,Value.oneCell']
theorem HIcs_len (x:HI):(HIcs x).length=15:=rfl
theorem forms_small (op:Int):(formN op).1 < 32768∧(formN op).2 < 32:=by
 unfold formN
 have hl:forms.length=46:=rfl
 rcases Nat.lt_or_ge op.toNat 46 with h | h
 ·have key:∀ i,i < 46→(forms.getD i (0,0)).1 < 32768∧(forms.getD i (0,0)).2 < 32:=by decide
  exact key _ h
 ·rw [List.getD_eq_getElem?_getD,List.getElem?_eq_none (by omega)]; simp
theorem bareN_step (fs:Nat) (x:HI) (i:Nat) (hi:i < 8) (hb:has fs (flds.getD i (0,0)).1=true) (v:Value) (hv:(HIcs x)[(flds.getD i (0,0)).2]?=some v) :
  (HIcs (bareN fs x i)).set (flds.getD i (0,0)).2 v=HIcs (bareN fs x (i+1)):=by
 have:i=0∨i=1∨i=2∨i=3∨i=4∨i=5∨i=6∨i=7:=by omega
 rcases this with rfl | rfl | rfl | rfl | rfl | rfl | rfl | rfl <;> simp [flds,HIcs] at hb hv ⊢ <;> subst hv <;> simp [bareN,pick,hb]
theorem bareN_skip (fs:Nat) (x:HI) (i:Nat) (hi:i < 8) (hb:has fs (flds.getD i (0,0)).1=false):bareN fs x (i+1)=bareN fs x i:=by
 have:i=0∨i=1∨i=2∨i=3∨i=4∨i=5∨i=6∨i=7:=by omega
 rcases this with rfl | rfl | rfl | rfl | rfl | rfl | rfl | rfl <;> simp [flds] at hb <;> simp [bareN,pick,hb]
theorem flds_bit (i:Nat) (hi:i < 8):(flds.getD i (0,0)).1 < 32768∧(flds.getD i (0,0)).2 < 15:=by
 have key:∀ i,i < 8→(flds.getD i (0,0)).1 < 32768∧(flds.getD i (0,0)).2 < 15:=by decide
 exact key i hi
theorem bare_ok (h:St w0 w H) {s:ByteArray} {f r:Nat} {x:HI} (hf:f < 32768) (hK:∀ w',St w0 w' H→K (.agg (HIcs (bare f x)).toArray) w'):CallL P 195 [.agg (Fcs s f r).toArray,.agg (HIcs x).toArray] w K:=by
 refine f195_ok _ _ _ _ ?_
 obtain ⟨z,hz,hzl⟩:=z119
 rw [f195_eq,hz]
 refine h.newC fun n2 w3 hn2 h3=>h3.newC fun n4 w5 hn4 h5=>h5.newC fun n6 w7 hn6 h7=>?_
 refine ⟨x.op,h7.cell (k:=1) rfl,_,bop _,h7.newC fun n10 w11 hn10 h11=>?_⟩
 refine h11.stA (k:=0) rfl rfl (by simp [hzl]) (by simpa using one_HI _) fun w12 h12=>?_
 have h12:St w0 w12 ((n10,Cs (splice z 0 (HIcs { op:=x.op })) 119)::(n6,Cs z 119)::(n4,Cs (HIcs x) 119)::(n2,Cs (Fcs s f r) 214)::H):=h12
 rw [splice_all _ _ (by rw [hzl]; rfl)] at h12
 refine fieldsOf_ok h12 fun w14 b1 b2 hb1 hb2 h14=>⟨_,rfl,?_⟩
 have e0:HIcs { op:=x.op }=HIcs (bareN f x 0):=by simp [HIcs,bareN,pick]
 rw [e0] at h14
 refine range_fields (n:=n4) (m:=n10) h14 (.tail _ (.head _)) (.head _)
  (fun i X=>X=(b2,Cs [.pointer (some (Addr.mk n10 0 none))] 219)::(b1,Cs [.pointer (some (Addr.mk n4 0 none))] 219)::(n10,Cs (HIcs (bareN f x i)) 119)::(n6,Cs z 119)::(n4,Cs (HIcs x) 119)::(n2,Cs (Fcs s f r) 214)::H) rfl ?_ ?_
 ·rintro l l' q o R post i W X hi rfl hs hl hl' hq hpost
  rw [f195_rd0_eq]
  refine ⟨rfl,?_⟩
  rw [f195_ra0_eq]
  obtain ⟨z3,hz3,hz3l⟩:=z222
  rw [hz3]
  refine hs.newC fun n21 w22 hn21 h22=>?_
  refine h22.stA (k:=0) rfl rfl (by simp [hz3l]) (by simp [Pcs,Value.oneCell']) fun w23 h23=>?_
  have h23:St w0 w23 ((n21,Cs (splice z3 0 (Pcs n4 n10 (flds.getD i (0,0)))) 222)::(l,.loop (R .ready none))::(l',.deferred (some []))::(q,o)::(b2,Cs [.pointer (some (Addr.mk n10 0 none))] 219)::(b1,Cs [.pointer (some (Addr.mk n4 0 none))] 219)::(n10,Cs (HIcs (bareN f x i)) 119)::(n6,Cs z 119)::(n4,Cs (HIcs x) 119)::(n2,Cs (Fcs s f r) 214)::H):=h23
  rw [splice_all _ _ (by rw [hz3l]; rfl)] at h23
  refine ⟨h23.get (k:=1) rfl,?_⟩
  have h24:=h23.put (k:=1) rfl (.loop (R .busy none))
  rw [f195_s1_eq]
  refine h24.ldA (k:=9) (i:=0) rfl (by simp [Fcs]) ?_
  refine ⟨(flds.getD i (0,0)).1,h24.cell (k:=0) rfl,has_ok h24 hf (flds_bit i hi).1 fun w29 h29=>⟨_,rfl,?_⟩⟩
  rw [BIf_iff]
  refine ⟨fun hb=>?_,fun hb=>?_⟩
  ·have h30:=h29.drew
   obtain ⟨v,hv⟩:∃ v:Int,(HIcs x)[(flds.getD i (0,0)).2]?=some (J v):=by
    have:i=0∨i=1∨i=2∨i=3∨i=4∨i=5∨i=6∨i=7:=by omega
    rcases this with rfl | rfl | rfl | rfl | rfl | rfl | rfl | rfl <;> exact ⟨_,rfl⟩
   refine ⟨some (Addr.mk n10 (flds.getD i (0,0)).2 none),by rw [add_lit']; exact h30.cell (k:=0) rfl,some (Addr.mk n4 (flds.getD i (0,0)).2 none),by rw [add_lit']; exact h30.cell (k:=0) rfl,v,?_,?_⟩
   ·rw [h30.cell (k:=8) rfl]; exact hv
   ·refine h30.st1 (k:=6) rfl (by rw [HIcs_len]; exact (flds_bit i hi).2) rfl fun w36 h36=>?_
    refine ⟨h36.get (k:=1) rfl,?_⟩
    have h37:=h36.put (k:=1) rfl (.loop (R .ready none))
    refine hpost _ _ rfl ?_
    rw [← bareN_step f x i hi hb (J v) hv]
    exact h37.tail hn21
  ·refine ⟨h29.get (k:=1) rfl,?_⟩
   have h37:=h29.put (k:=1) rfl (.loop (R .ready none))
   refine hpost _ _ rfl ?_
   rw [bareN_skip f x i hi hb]
   exact h37.tail hn21
 ·rintro W X l' hl' rfl hs
  show f195_rn0 ..
  rw [f195_rn0_eq]
  have fin:∀ {W y},y=bare f x→St w0 W ((l',.deferred (some []))::(b2,Cs [.pointer (some (Addr.mk n10 0 none))] 219)::(b1,Cs [.pointer (some (Addr.mk n4 0 none))] 219)::(n10,Cs (HIcs y) 119)::(n6,Cs z 119)::(n4,Cs (HIcs x) 119)::(n2,Cs (Fcs s f r) 214)::H)→
    f195_s5 (Addr.mk n6 0 none) (Addr.mk n10 0 none) [mk l'] W K:=fun {W y} hy h1=>by
   rw [f195_s5_eq]
   refine h1.ldA (k:=3) (i:=0) rfl (by simp [HIcs]) ?_
   refine h1.stA (k:=4) rfl rfl (by simp [hzl]) (fun v hv=>one_HI y v (List.mem_of_mem_take (by simpa using hv))) fun w70 h70=>?_
   have h70:St w0 w70 ((l',.deferred (some []))::(b2,Cs [.pointer (some (Addr.mk n10 0 none))] 219)::(b1,Cs [.pointer (some (Addr.mk n4 0 none))] 219)::(n10,Cs (HIcs y) 119)::(n6,Cs (splice z 0 (HIcs y)) 119)::(n4,Cs (HIcs x) 119)::(n2,Cs (Fcs s f r) 214)::H):=h70
   rw [splice_all _ _ (by rw [hzl]; rfl)] at h70
   show w70.heap[l']?=some (.deferred (some []))∧LeaveS P rs195 _ K [] (w70.putObj l' (.deferred none))
   refine ⟨h70.get (k:=0) rfl,?_⟩
   rw [leave_195]
   have h71:=h70.put (k:=0) rfl (.deferred none)
   refine h71.ldA (k:=4) (i:=0) rfl (by simp [HIcs]) ?_
   subst hy
   exact hK _ (((((((h71.tail hl').tail hb2).tail hb1).tail hn10).tail hn6).tail hn4).tail hn2)
  have s4:∀ {W y},y={ bareN f x 8 with i:=pick (has f 256) x.i,chain:=pick (has f 512) x.chain }→St w0 W ((l',.deferred (some []))::(b2,Cs [.pointer (some (Addr.mk n10 0 none))] 219)::(b1,Cs [.pointer (some (Addr.mk n4 0 none))] 219)::(n10,Cs (HIcs y) 119)::(n6,Cs z 119)::(n4,Cs (HIcs x) 119)::(n2,Cs (Fcs s f r) 214)::H)→
    f195_s4 (Addr.mk n6 0 none) (Addr.mk n10 0 none) (Addr.mk n4 0 none) (Addr.mk n2 0 none) [mk l'] W K:=fun {W y} hy h1=>by
   rw [f195_s4_eq]
   refine h1.ldA (k:=6) (i:=0) rfl (by simp [Fcs]) (has_ok (bit:=1024) h1 hf (by omega) fun w2 h2=>⟨_,rfl,?_⟩)
   rw [BIf_iff]
   refine ⟨fun hb=>?_,fun hb=>fin ?_ h2⟩
   ·rw [add_lit',add_lit']
    refine h2.ldA (k:=5) (i:=0+11) rfl (by simp [HIcs]) ?_
    refine h2.stA (k:=3) rfl rfl (by simp [HIcs]) (fun v hv=>one_HI x v (List.mem_of_mem_drop (List.mem_of_mem_take (by simpa using hv)))) fun w3 h3=>?_
    have e:splice (HIcs y) (0+11) ((HIcs x).drop (0+11) |>.take 4)=HIcs { y with v0:=x.v0,v1:=x.v1,v2:=x.v2,v3:=x.v3 }:=rfl
    have h3:St w0 w3 ((l',.deferred (some []))::(b2,Cs [.pointer (some (Addr.mk n10 0 none))] 219)::(b1,Cs [.pointer (some (Addr.mk n4 0 none))] 219)::(n10,Cs (HIcs { y with v0:=x.v0,v1:=x.v1,v2:=x.v2,v3:=x.v3 }) 119)::(n6,Cs z 119)::(n4,Cs (HIcs x) 119)::(n2,Cs (Fcs s f r) 214)::H):=by rw [← e]; exact h3
    refine fin ?_ h3
    subst hy
    simp [bare,pick,hb]
   ·subst hy
    simp [bare,pick,hb,bareN]
  have s3:∀ {W y},y={ bareN f x 8 with i:=pick (has f 256) x.i }→St w0 W ((l',.deferred (some []))::(b2,Cs [.pointer (some (Addr.mk n10 0 none))] 219)::(b1,Cs [.pointer (some (Addr.mk n4 0 none))] 219)::(n10,Cs (HIcs y) 119)::(n6,Cs z 119)::(n4,Cs (HIcs x) 119)::(n2,Cs (Fcs s f r) 214)::H)→
    f195_s3 (Addr.mk n6 0 none) (Addr.mk n10 0 none) (Addr.mk n4 0 none) (Addr.mk n2 0 none) [mk l'] W K:=fun {W y} hy h1=>by
   rw [f195_s3_eq]
   refine h1.ldA (k:=6) (i:=0) rfl (by simp [Fcs]) (has_ok (bit:=512) h1 hf (by omega) fun w2 h2=>⟨_,rfl,?_⟩)
   rw [BIf_iff]
   refine ⟨fun hb=>⟨x.chain,by rw [add_lit']; exact h2.cell (k:=5) rfl,?_⟩,fun hb=>s4 ?_ h2⟩
   ·rw [add_lit']
    refine h2.st1 (k:=3) rfl (by simp [HIcs]) rfl fun w3 h3=>s4 (y:={ y with chain:=x.chain }) ?_ h3
    subst hy
    simp [pick,hb]
   ·subst hy
    simp [pick,hb,bareN]
  rw [f195_s2_eq]
  refine hs.ldA (k:=6) (i:=0) rfl (by simp [Fcs]) (has_ok (bit:=256) hs hf (by omega) fun w2 h2=>⟨_,rfl,?_⟩)
  rw [BIf_iff]
  refine ⟨fun hb=>⟨x.i,by rw [add_lit']; exact h2.cell (k:=5) rfl,?_⟩,fun hb=>s3 ?_ h2⟩
  ·rw [add_lit']
   refine h2.st1 (k:=3) rfl (by simp [HIcs]) rfl fun w3 h3=>s3 (y:={ bareN f x 8 with i:=x.i }) ?_ h3
   simp [pick,hb]
  ·simp [pick,hb,bareN]
end Go.Fx.Tryz
namespace Go.Fx.Tryz
open Go Go.Fx Go.Fx.Ch
open Go.Proofs
set_option linter.all false
set_option maxRecDepth 20000
variable {w0 w:World} {H:HBL} {K:KT}
theorem fieldsOf119 : P.fieldsOf 119 = #[{ name := "Op", type := 3, offset := 0, embedded := false, tag := "", pkgPath := "", byteOffset := 0 }, { name := "Sub", type := 3, offset := 1, embedded := false, tag := "", pkgPath := "", byteOffset := 8 }, { name := "From", type := 3, offset := 2, embedded := false, tag := "", pkgPath := "", byteOffset := 16 }, { name := "Ty", type := 3, offset := 3, embedded := false, tag := "", pkgPath := "", byteOffset := 24 }, { name := "D", type := 3, offset := 4, embedded := false, tag := "", pkgPath := "", byteOffset := 32 }, { name := "A", type := 3, offset := 5, embedded := false, tag := "", pkgPath := "", byteOffset := 40 }, { name := "B", type := 3, offset := 6, embedded := false, tag := "", pkgPath := "", byteOffset := 48 }, { name := "C", type := 3, offset := 7, embedded := false, tag := "", pkgPath := "", byteOffset := 56 }, { name := "K", type := 3, offset := 8, embedded := false, tag := "", pkgPath := "", byteOffset := 64 }, { name := "I", type := 24, offset := 9, embedded := false, tag := "", pkgPath := "", byteOffset := 72 }, { name := "Chain", type := 24, offset := 10, embedded := false, tag := "", pkgPath := "", byteOffset := 76 }, { name := "V", type := 117, offset := 11, embedded := false, tag := "", pkgPath := "", byteOffset := 80 }] := by kernel_rfl
def Vcs (x:HI):List Value:=[U x.v0,U x.v1,U x.v2,U x.v3]
theorem eqVec (w:World) (d:Nat) (x y:HI):(Op.equalIn (d+2) 117 (.agg (Vcs x).toArray) (.agg (Vcs y).toArray)).run P w=.ok (x.v0 == y.v0 && (x.v1 == y.v1 && (x.v2 == y.v2 && x.v3 == y.v3))) w:=by
 have h24:∀ d (x y:Int),(Op.equalIn (d+1) 24 (.int .u32 x) (.int .u32 y)).run P w=.ok (x == y) w:=fun d x y=>by simp [Op.equalIn,run_underlying Tryz.underlying24]
 rw [show d+2=(d+1)+1 from rfl,run_equalIn_array w (d+1) _ _ Tryz.underlying117 (by kernel_rfl:P.info? 24=some Tryz.t24)]
 have hc:P.cellsOf 24=1:=by kernel_rfl
 have p:∀ x:HI,(part 24 (Vcs x).toArray 0).run P w=.ok (U x.v0) w∧(part 24 (Vcs x).toArray 1).run P w=.ok (U x.v1) w∧(part 24 (Vcs x).toArray 2).run P w=.ok (U x.v2) w∧(part 24 (Vcs x).toArray 3).run P w=.ok (U x.v3) w:=fun x=>⟨by kernel_rfl,by kernel_rfl,by kernel_rfl,by kernel_rfl⟩
 obtain ⟨a0,a1,a2,a3⟩:=p x
 obtain ⟨b0,b1,b2,b3⟩:=p y
 rw [hc,show List.range 4=[0,1,2,3] from rfl]
 simp only [Op.eqItems,Nat.mul_one,Sem.run_bind,a0,a1,a2,a3,b0,b1,b2,b3,h24,Result.andThen_ok]
 by_cases e0:x.v0=y.v0 <;> simp [e0,h24,a1,a2,a3,b1,b2,b3]
 by_cases e1:x.v1=y.v1 <;> simp [e1,h24,a2,a3,b2,b3]
 by_cases e2:x.v2=y.v2 <;> simp [e2,h24,a3,b3]
 by_cases e3:x.v3=y.v3 <;> simp [e3]
def eqHI (x y:HI):Bool:=x.op == y.op && (x.sub == y.sub && (x.frm == y.frm && (x.ty == y.ty && (x.d == y.d && (x.a == y.a && (x.b == y.b && (x.c == y.c && (x.k == y.k && (x.i == y.i && (x.chain == y.chain && (x.v0 == y.v0 && (x.v1 == y.v1 && (x.v2 == y.v2 && x.v3 == y.v3)))))))))))))
theorem eqHI_is (x y:HI):eqHI x y=(x == y):=by
 rw [Bool.eq_iff_iff]
 unfold eqHI
 obtain ⟨⟩:=x
 obtain ⟨⟩:=y
 simp
theorem partHI (w:World) (x:HI):(part 3 (HIcs x).toArray 0).run P w=.ok (J x.op) w∧(part 3 (HIcs x).toArray 1).run P w=.ok (J x.sub) w∧(part 3 (HIcs x).toArray 2).run P w=.ok (J x.frm) w∧(part 3 (HIcs x).toArray 3).run P w=.ok (J x.ty) w∧(part 3 (HIcs x).toArray 4).run P w=.ok (J x.d) w∧(part 3 (HIcs x).toArray 5).run P w=.ok (J x.a) w∧(part 3 (HIcs x).toArray 6).run P w=.ok (J x.b) w∧(part 3 (HIcs x).toArray 7).run P w=.ok (J x.c) w∧(part 3 (HIcs x).toArray 8).run P w=.ok (J x.k) w∧(part 24 (HIcs x).toArray 9).run P w=.ok (U x.i) w∧(part 24 (HIcs x).toArray 10).run P w=.ok (U x.chain) w∧(part 117 (HIcs x).toArray 11).run P w=.ok (.agg (Vcs x).toArray) w:=
 ⟨by kernel_rfl,by kernel_rfl,by kernel_rfl,by kernel_rfl,by kernel_rfl,by kernel_rfl,by kernel_rfl,by kernel_rfl,by kernel_rfl,by kernel_rfl,by kernel_rfl,by kernel_rfl⟩
theorem eq119 (w:World) (x y:HI):(Op.equal 119 (.agg (HIcs x).toArray) (.agg (HIcs y).toArray)).run P w=.ok (x == y) w:=by
 unfold Op.equal
 have h3:∀ d (x y:Int),(Op.equalIn (d+1) 3 (.int .i64 x) (.int .i64 y)).run P w=.ok (x == y) w:=fun d x y=>by simp [Op.equalIn,run_underlying Tryz.underlying3]
 have h24:∀ d (x y:Int),(Op.equalIn (d+1) 24 (.int .u32 x) (.int .u32 y)).run P w=.ok (x == y) w:=fun d x y=>by simp [Op.equalIn,run_underlying Tryz.underlying24]
 have hm:∃ d,Op.maxDepth=d+3:=⟨_,rfl⟩
 obtain ⟨d,hd⟩:=hm
 rw [hd,run_equalIn_struct w (d+2) 119 _ _ (by rw [fieldsOf119]; exact Tryz.underlying119) Tryz.stoodInHeld119,fieldsOf119,← eqHI_is]
 obtain ⟨a0,a1,a2,a3,a4,a5,a6,a7,a8,a9,a10,a11⟩:=partHI w x
 obtain ⟨b0,b1,b2,b3,b4,b5,b6,b7,b8,b9,b10,b11⟩:=partHI w y
 have hv:=eqVec w d x y
 unfold eqHI
 simp only [Op.eqFields,ne_eq,String.reduceEq,not_false_eq_true,if_true,Sem.run_bind,a0,b0,h3,Result.andThen_ok]
 by_cases e0:x.op=y.op <;> simp [e0,a1,b1,h3,h24,hv]
 by_cases e1:x.sub=y.sub <;> simp [e1,a2,b2,h3,h24,hv]
 by_cases e2:x.frm=y.frm <;> simp [e2,a3,b3,h3,h24,hv]
 by_cases e3:x.ty=y.ty <;> simp [e3,a4,b4,h3,h24,hv]
 by_cases e4:x.d=y.d <;> simp [e4,a5,b5,h3,h24,hv]
 by_cases e5:x.a=y.a <;> simp [e5,a6,b6,h3,h24,hv]
 by_cases e6:x.b=y.b <;> simp [e6,a7,b7,h3,h24,hv]
 by_cases e7:x.c=y.c <;> simp [e7,a8,b8,h3,h24,hv]
 by_cases e8:x.k=y.k <;> simp [e8,a9,b9,h3,h24,hv]
 by_cases e9:x.i=y.i <;> simp [e9,a10,b10,h3,h24,hv]
 by_cases e10:x.chain=y.chain <;> simp [e10,a11,b11,h3,h24,hv]
 by_cases u0:x.v0=y.v0 <;> by_cases u1:x.v1=y.v1 <;> by_cases u2:x.v2=y.v2 <;> by_cases u3:x.v3=y.v3 <;> simp [u0,u1,u2,u3]
theorem eqop119 (s t:Nat) (w:World) (x y:HI):(do eqGuard .eql 119 (.tmp s) (.tmp t) (.agg (HIcs x).toArray) (.agg (HIcs y).toArray); binOp .eql 119 (.agg (HIcs x).toArray) (.agg (HIcs y).toArray):Sem Value).run P w=.ok (.bool (x == y)) w:=by
 simp [eqGuard,binOp,eq119,Tryz.eqGuardType119]
theorem valid_ok (h:St w0 w H) {gcs:List Value} {gt:TypeId} (hg:(0,Cs gcs gt)∈H) (ht:Table gcs) {x:HI} (hK:∀ w',St w0 w' H→K (.bool (valid x)) w'):CallL P 186 [.agg (HIcs x).toArray] w K:=by
 refine f186_ok _ _ _ ?_
 rw [f186_eq]
 refine h.newC fun n1 w2 hn1 h2=>⟨x.op,h2.cell (k:=0) rfl,?_⟩
 have h2:St w0 w2 ((n1,Cs (HIcs x) 119)::H):=h2
 refine formOf_ok h2 (.tail _ hg) ht fun w5 s h5=>⟨_,_,rfl,?_⟩
 obtain ⟨z,hz,hzl⟩:=z214
 rw [hz]
 refine h5.newC fun n8 w9 hn8 h9=>?_
 refine h9.stA (k:=0) rfl rfl (by simp [hzl]) (by simp [Fcs,Value.oneCell']) fun w10 h10=>?_
 have h10:St w0 w10 ((n8,Cs (splice z 0 (Fcs s (formN (if 1≤x.op∧x.op < 46 then x.op else 0)).1 (formN (if 1≤x.op∧x.op < 46 then x.op else 0)).2)) 214)::(n1,Cs (HIcs x) 119)::H):=h10
 rw [splice_all _ _ (by rw [hzl]; rfl)] at h10
 have hd:∀ {w'} {f r},St w0 w' ((n8,Cs (Fcs s f r) 214)::(n1,Cs (HIcs x) 119)::H)→K (.bool (valid x)) w':=fun h'=>hK _ ((h'.tail hn8).tail hn1)
 rw [BIf_iff]
 refine ⟨fun hb=>?_,fun hb=>?_⟩
 ·have hop:1≤x.op∧x.op < 46:=of_decide_eq_true hb
  rw [if_pos hop] at h10
  have h11:=h10.drew
  refine h11.ldA (k:=0) (i:=0) rfl (by simp [Fcs]) (h11.ldA (k:=1) (i:=0) rfl (by simp [HIcs]) (h11.ldA (k:=1) (i:=0) rfl (by simp [HIcs]) ?_))
  refine bare_ok (x:=x) h11 (forms_small x.op).1 fun w15 h15=>⟨_,rfl,?_,(bare (formN x.op).1 x == x),fun wq=>eqop119 15 16 wq _ x,?_⟩
  ·intro i hi
   rw [add_lit',h15.cell (k:=1) rfl]
   simp [HIcs]
  have fls:∀ {b},valid x=b→f186_s0 b w15 K:=fun {b} hb=>by rw [f186_s0_eq,← hb]; exact hd h15
  have c:∀ i,w15.cell? (Addr.mk n1 i none)=(HIcs x)[i]?:=fun i=>h15.cell (k:=1) rfl
  simp only [add_lit',Nat.zero_add]
  cases v1:(bare (formN x.op).1 x == x) <;> simp only [BIf_true,BIf_false]
  ·exact fls (by unfold valid; rw [v1]; simp)
  refine ⟨x.d,c 4,?_⟩
  cases v2:decide (x.d≥0) <;> simp only [BIf_true,BIf_false]
  ·exact fls (by unfold valid; rw [v2]; simp)
  refine ⟨x.a,c 5,?_⟩
  cases v3:decide (x.a≥0) <;> simp only [BIf_true,BIf_false]
  ·exact fls (by unfold valid; rw [v3]; simp)
  refine ⟨x.b,c 6,?_⟩
  cases v4:decide (x.b≥0) <;> simp only [BIf_true,BIf_false]
  ·exact fls (by unfold valid; rw [v4]; simp)
  refine ⟨x.c,c 7,?_⟩
  cases v5:decide (x.c≥0) <;> simp only [BIf_true,BIf_false]
  ·exact fls (by unfold valid; rw [v5]; simp)
  refine h15.ldA (k:=0) (i:=0) rfl (by simp [Fcs]) (h15.ldA (k:=1) (i:=0) rfl (by simp [HIcs]) ?_)
  refine obeys_ok (x:=x) h15 fun w25 h25=>⟨_,rfl,?_⟩
  rw [f186_s0_eq]
  have hv:valid x=obeys (formN x.op).2 x:=by unfold valid; rw [hb,v1,v2,v3,v4,v5]; simp
  rw [← hv]; exact hd h25
 ·rw [f186_s0_eq]
  have hv:valid x=false:=by unfold valid; rw [hb]; simp
  rw [← hv]; exact hd h10.drew
abbrev B (x:Int):Value:=.int .u8 x
theorem le_snoc (l:List Int) (b:Int):le (l++[b])=le l+b * 256 ^ l.length:=by
 induction l with
 | nil=>simp [le]
 | cons x r ih=>simp only [List.cons_append,le,ih,List.length_cons,Int.pow_succ,Int.mul_add]; rw [← Int.add_assoc]; congr 1; rw [Int.mul_comm (256 ^ r.length) 256,← Int.mul_assoc,← Int.mul_assoc,Int.mul_comm 256 b]
theorem le_range (l:List Int) (h:∀ b∈l,0≤b∧b < 256):0≤le l∧le l < 256 ^ l.length:=by
 induction l with
 | nil=>simp [le]
 | cons x r ih=>
  have h1:=h x (by simp)
  have h2:=ih fun b hb=>h b (by simp [hb])
  simp only [le,List.length_cons,Int.pow_succ]
  omega
theorem or_add (acc b:Int) (i:Nat) (hi:i < 4) (h0:0≤acc) (h1:acc < 256 ^ i) (hb0:0≤b) (hb1:b < 256) :
  IntKind.wrap .u32 ((BitVec.ofInt (IntKind.bits .u32) acc ||| BitVec.ofInt (IntKind.bits .u32) (IntKind.wrap .u32 (IntKind.wrap .u32 b * 2 ^ (min (Int.toNat (IntKind.wrap .i64 (8 * (i:Int)))) (IntKind.bits .u32))))).toNat:Int)=acc+b * 256 ^ i:=by
 obtain ⟨a,rfl⟩:=Int.eq_ofNat_of_zero_le h0
 obtain ⟨c,rfl⟩:=Int.eq_ofNat_of_zero_le hb0
 have hc:c < 256:=by omega
 rw [wrap_i64 (by omega) (by omega),wrap_u32 (x:=((c:Nat):Int)) (by omega) (by omega)]
 have e8:min (Int.toNat (8 * (i:Int))) (IntKind.bits .u32)=8 * i:=by
  show min (Int.toNat (8 * (i:Int))) 32=8 * i
  omega
 rw [e8]
 have ha:a < 2 ^ (8 * i):=by
  have:(256:Int) ^ i=((2 ^ (8 * i):Nat):Int):=by rw [Nat.pow_mul]; simp
  rw [this] at h1; omega
 have e256:(256:Int) ^ i=((2 ^ (8 * i):Nat):Int):=by rw [Nat.pow_mul]; simp
 have hm:((c:Nat):Int) * 2 ^ (8 * i)=((2 ^ (8 * i) * c:Nat):Int):=by rw [Int.natCast_mul,Int.natCast_pow,Int.mul_comm]; rfl
 have hlt:2 ^ (8 * i) * c < 2 ^ (8 * i) * 256:=Nat.mul_lt_mul_of_pos_left hc (Nat.two_pow_pos _)
 have hle:2 ^ (8 * i) * 256≤4294967296:=by
  have:i=0∨i=1∨i=2∨i=3:=by omega
  rcases this with rfl | rfl | rfl | rfl <;> decide
 rw [hm,wrap_u32 (x:=((2 ^ (8 * i) * c:Nat):Int)) (by omega) (by omega),e256]
 have hor:(BitVec.ofInt (IntKind.bits .u32) ((a:Nat):Int) ||| BitVec.ofInt (IntKind.bits .u32) ((2 ^ (8 * i) * c:Nat):Int)).toNat=2 ^ (8 * i) * c+a:=by
  show (BitVec.ofInt 32 ((a:Nat):Int) ||| BitVec.ofInt 32 ((2 ^ (8 * i) * c:Nat):Int)).toNat=_
  rw [BitVec.toNat_or,BitVec.ofInt_natCast,BitVec.ofInt_natCast,BitVec.toNat_ofNat,BitVec.toNat_ofNat,Nat.mod_eq_of_lt (by omega),Nat.mod_eq_of_lt (by omega),Nat.or_comm]
  exact (Nat.two_pow_add_eq_or_of_lt ha c).symm
 have hsum:2 ^ (8 * i) * c+a < 4294967296:=by
  have:2 ^ (8 * i) * c+a < 2 ^ (8 * i) * 256:=by
   have:2 ^ (8 * i) * c+2 ^ (8 * i)≤2 ^ (8 * i) * 256:=by rw [← Nat.mul_succ]; exact Nat.mul_le_mul_left _ hc
   omega
  omega
 rw [hor,wrap_u32 (by omega) (by omega)]
 push_cast
 rw [Int.mul_comm ((c:Nat):Int),Int.add_comm]
theorem next_ok {X:HBL} (h:St w0 w X) {k rd:Nat} {ov:Value} {bs:List Int} {at_ n:Nat} {sh:Bool} (hk:X[k]?=some (rd,Cs [ov,J at_,.bool sh] 211))
  (hrow:∀ w' cs,St w0 w' (X.set k (rd,Cs cs 211))→Row w' 1 ov bs.length (bs.map B)) (hb:∀ b∈bs,0≤b∧b < 256) (hlen:bs.length < 1000000) (hat:at_ < 1000000) (hn:n≤4)
  (hK:∀ w' v a' s',St w0 w' (X.set k (rd,Cs [ov,J (a':Nat),.bool s'] 211))→(if at_+n > bs.length then v=0∧a'=at_∧s'=true else v=le ((bs.drop at_).take n)∧a'=at_+n∧s'=sh)→K (U v) w') :
  CallL P 166 [.pointer (some (Addr.mk rd 0 none)),J n] w K:=by
 have hset:X.set k (rd,Cs [ov,J at_,.bool sh] 211)=X:=by
  apply List.ext_getElem?
  intro j
  rw [List.getElem?_set]
  by_cases hkj:k=j
  ·subst hkj; obtain ⟨h1,h2⟩:=List.getElem?_eq_some_iff.1 hk; simp [h1,h2]
  ·simp [hkj]
 have hr0:Row w 1 ov bs.length (bs.map B):=hrow w _ (by rw [hset]; exact h)
 obtain ⟨sa,sc,rfl⟩:=hr0.form
 refine f166_ok _ _ _ _ ?_
 rw [f166_eq]
 have hd:=h.drew
 refine ⟨at_,by rw [add_lit']; exact hd.cell hk,sa,bs.length,sc,hd.cell hk,?_⟩
 rw [wrap_i64 (by omega) (by omega),BIf_iff]
 have hkl:k < X.length:=(List.getElem?_eq_some_iff.1 hk).1
 refine ⟨fun hgt=>?_,fun hle=>?_⟩
 ·have hgt:at_+n > bs.length:=by have:=of_decide_eq_true hgt; omega
  show St1 ((Addr.mk rd 0 none).add 2) _ _ _
  rw [add_lit']
  refine hd.st1 hk (by simp) rfl fun w7 h7=>hK w7 0 at_ true h7 (by rw [if_pos hgt]; exact ⟨rfl,rfl,rfl⟩)
 ·have hle:¬ at_+n > bs.length:=by have:=of_decide_eq_false hle; omega
  rw [f166_s0_eq]
  refine ⟨fun m e w'=>∃ i:Nat,i≤n∧m=n - i∧e=Env.mk 54 [(23,J i),(0,.pointer (some (Addr.mk rd 0 none))),(5,U (le ((bs.drop at_).take i))),(4,U 0),(1,J n),(22,J n)] []∧St w0 w' X,
   ⟨n,0,by omega,rfl,by simp [le],hd⟩,?_⟩
  rintro m e w' ⟨i,hi,rfl,rfl,hs⟩
  show f166_lb1 ..
  rw [f166_lb1_eq,BIf_iff]
  refine ⟨fun hlt=>?_,fun hge=>?_⟩
  ·have hlt:i < n:=by have:=of_decide_eq_true hlt; omega
   rw [f166_s2_eq]
   have hs':=hs.drew
   refine ⟨sa,bs.length,sc,hs'.cell hk,at_,by rw [add_lit']; exact hs'.cell hk,?_⟩
   rw [wrap_i64 (by omega) (by omega)]
   have hr:=hrow w'.drew _ (by rw [hset]; exact hs')
   have hjl:at_+i < bs.length:=by omega
   rcases hr.2 with ⟨_,h0⟩ | ⟨ad,cp,h1,h2⟩
   ·omega
   ·injection h1 with h1 h3 h4
    subst h1
    refine ⟨by omega,by omega,bs[at_+i],?_,by rw [wrap_i64 (by omega) (by omega)]; omega,?_⟩
    ·rw [show (Int.toNat ((at_:Int)+(i:Int)) * 1)=at_+i by omega,h2 _ (by omega)]
     simp [hjl]
    ·rw [f166_s3_eq]
     have hbb:=hb bs[at_+i] (List.getElem_mem hjl)
     have htl:((bs.drop at_).take i).length=i:=by simp; omega
     have hlr:=le_range ((bs.drop at_).take i) fun b hb'=>hb b (List.mem_of_mem_drop (List.mem_of_mem_take hb'))
     rw [htl] at hlr
     refine ⟨n - (i+1),by omega,i+1,by omega,rfl,?_,hs'⟩
     rw [or_add _ _ i (by omega) hlr.1 hlr.2 hbb.1 hbb.2,wrap_i64 (by omega) (by omega)]
     have hts:(bs.drop at_).take (i+1)=(bs.drop at_).take i++[bs[at_+i]]:=by
      rw [take_succ' _ (by simp; omega)]; simp
     rw [hts,le_snoc,htl]
     rfl
  ·have:i=n:=by have:=of_decide_eq_false hge; omega
   subst this
   rw [f166_s4_eq]
   refine ⟨at_,by rw [add_lit']; exact hs.cell hk,?_⟩
   show St1 ((Addr.mk rd 0 none).add 1) _ _ _
   rw [add_lit',wrap_i64 (by omega) (by omega)]
   refine hs.st1 hk (by simp) rfl fun w7 h7=>hK w7 _ (at_+i) sh ?_ (by rw [if_neg hle]; exact ⟨rfl,rfl,rfl⟩)
   have:((at_+i:Nat):Int)=(at_:Int)+(i:Int):=by omega
   rw [this]; exact h7
theorem z238:∃ z:List Value,zcells P 238=z.toArray∧z.length=2:=⟨[.bool false,J 0],by kernel_rfl,rfl⟩
theorem breg0 (wq:World):(Instr.build 238 [].toArray).run P wq=.ok (.agg #[.bool false,J 0]) wq:=by kernel_rfl
theorem breg (b:Bool) (n:Int) (wq:World):(Instr.build 238 [(0,.bool b),(1,J n)].toArray).run P wq=.ok (.agg #[.bool b,J n]) wq:=by kernel_rfl
theorem fs_small (x:HI):fsOf x < 32768:=(forms_small _).1
theorem def_ok (h:St w0 w H) {gcs:List Value} {gt:TypeId} (hg:(0,Cs gcs gt)∈H) (ht:Table gcs) {x:HI}
  (hK:∀ w',St w0 w' H→K (.tuple [.agg #[.bool (defV x).1,J (defV x).2],.bool (hasDef x)].toArray) w'):CallL P 188 [.agg (HIcs x).toArray] w K:=by
 refine f188_ok _ _ _ ?_
 obtain ⟨z,hz,hzl⟩:=z238
 obtain ⟨y,hy,hyl⟩:=z214
 rw [f188_eq,hz,hy]
 refine h.newC fun n1 w2 hn1 h2=>h2.newC fun n3 w4 hn3 h4=>⟨x.op,h4.cell (k:=1) rfl,?_⟩
 have h4:St w0 w4 ((n3,Cs z 238)::(n1,Cs (HIcs x) 119)::H):=h4
 refine formOf_ok h4 (.tail _ (.tail _ hg)) ht fun w7 s h7=>⟨_,_,rfl,h7.newC fun n10 w11 hn10 h11=>?_⟩
 refine h11.stA (k:=0) rfl rfl (by simp [hyl]) (by simp [Fcs,Value.oneCell']) fun w12 h12=>?_
 have h12:St w0 w12 ((n10,Cs (splice y 0 (Fcs s (fsOf x) (rlOf x))) 214)::(n3,Cs z 238)::(n1,Cs (HIcs x) 119)::H):=h12
 rw [splice_all _ _ (by rw [hyl]; rfl)] at h12
 have hd:∀ {w' zz},St w0 w' ((n10,Cs (Fcs s (fsOf x) (rlOf x)) 214)::(n3,Cs zz 238)::(n1,Cs (HIcs x) 119)::H)→St w0 w' H:=fun h'=>((h'.tail hn10).tail hn3).tail hn1
 refine h12.ldA (k:=2) (i:=0) rfl (by simp [HIcs]) (valid_ok (x:=x) h12 (.tail _ (.tail _ (.tail _ hg))) ht fun w15 h15=>⟨_,rfl,?_⟩)
 have no:∀ {w'},hasDef x=false→St w0 w' ((n10,Cs (Fcs s (fsOf x) (rlOf x)) 214)::(n3,Cs z 238)::(n1,Cs (HIcs x) 119)::H)→f188_s0 true (Addr.mk n3 0 none) (Addr.mk n1 0 none) (Addr.mk n10 0 none) w' K:=fun {w'} hh h'=>by
  rw [f188_s0_eq]
  simp only [BIf_true]
  refine ⟨_,breg0,h'.stA (k:=1) rfl rfl (by simp [hzl]) (by simp [Value.oneCell']) fun w22 h22=>?_⟩
  have h22:St w0 w22 ((n10,Cs (Fcs s (fsOf x) (rlOf x)) 214)::(n3,Cs (splice z 0 [.bool false,J 0]) 238)::(n1,Cs (HIcs x) 119)::H):=h22
  rw [splice_all _ _ (by rw [hzl]; rfl)] at h22
  refine h22.ldA (k:=1) (i:=0) rfl (by simp) ?_
  have hK:=hK w22 (hd h22)
  unfold defV at hK
  rw [hh] at hK
  exact hK
 rw [BIf_iff]
 refine ⟨fun hb=>no ?_ h15,fun hb=>?_⟩
 ·have hb:valid x=false:=by simpa using hb
  unfold hasDef; rw [hb]; rfl
 have hv:valid x=true:=by simpa using hb
 refine h15.ldA (k:=0) (i:=0) rfl (by simp [Fcs]) (has_ok (bit:=8) h15 (fs_small x) (by omega) fun w39 h39=>⟨_,rfl,?_⟩)
 cases h8:has (fsOf x) 8 with
 | false=>exact no (by unfold hasDef; rw [h8]; simp) h39
 | true=>
  have hh:hasDef x=true:=by unfold hasDef; rw [h8,hv]; rfl
  rw [Bool.not_true,f188_s0_eq]
  simp only [BIf_false]
  rw [f188_s1_eq]
  have h40:=h39.drew
  refine h40.ldA (k:=0) (i:=0) rfl (by simp [Fcs]) ⟨x.d,by rw [add_lit']; exact h40.cell (k:=2) rfl,has_ok (bit:=2048) h40 (fs_small x) (by omega) fun w30 h30=>⟨_,rfl,by rw [add_lit']; exact h30.cell (k:=2) rfl,_,breg _ _,?_⟩⟩
  refine h30.stA (k:=1) rfl rfl (by simp [hzl]) (by simp [Value.oneCell']) fun w33 h33=>?_
  have h33:St w0 w33 ((n10,Cs (Fcs s (fsOf x) (rlOf x)) 214)::(n3,Cs (splice z 0 [.bool (has (fsOf x) 2048),J x.d]) 238)::(n1,Cs (HIcs x) 119)::H):=h33
  rw [splice_all _ _ (by rw [hzl]; rfl)] at h33
  rw [f188_s2_eq]
  refine h33.ldA (k:=1) (i:=0) rfl (by simp) ?_
  have hK:=hK w33 (hd h33)
  unfold defV at hK
  rw [hh] at hK
  exact hK
def readsO (fs rl:Nat) (sub:Int):List (Nat × Bool):=
 (if has fs 16=true then [(5,has fs 4096)] else [])++(if has fs 32=true then [(6,has fs 8192)] else [])++(if (has fs 64 && (rl != 12 || sub == 0))=true then [(7,has fs 16384)] else [])
def Rcs (n:Nat) (r:Nat × Bool):List Value:=[.pointer (some (Addr.mk n r.1 none)),.bool r.2]
theorem flat_len {α:Type} (f:α→List Value) (m:Nat) (hf:∀ x,(f x).length=m) (l:List α):(l.map f).flatten.length=l.length * m:=by
 induction l with
 | nil=>simp
 | cons x r ih=>simp [ih,hf,Nat.add_mul,Nat.add_comm]
theorem bread (p:Option Addr) (b:Bool) (wq:World):(Instr.build 251 [(0,.pointer p),(1,.bool b)].toArray).run P wq=.ok (.agg #[.pointer p,.bool b]) wq:=by kernel_rfl
theorem app_read {n nb:Nat} {r:Nat × Bool} {l:List (Nat × Bool)} {L:HBL} {ov:Value} (h:St w0 w ((nb,Cs (Rcs n r) 251)::(L++H))) (hnb:w0.heap.size≤nb) (hS:SlO 2 251 ov l.length (l.map (Rcs n)).flatten L) (hN:New w0 L) (hl:l.length < 100) :
  ∃ a c w' L',(Builtin.append_ #[248,248] 248 [ov,.slice (some (Addr.mk nb 0 none)) 1 1].toArray).run P w=.ok (.slice a (l++[r]).length c) w'∧SlO 2 251 (.slice a (l++[r]).length c) (l++[r]).length ((l++[r]).map (Rcs n)).flatten L'∧St w0 w' (L'++H)∧New w0 L':=by
 have h:St w0 w ([(nb,Cs (Rcs n r) 251)]++(L++H)):=h
 obtain ⟨g,cap,w',L',hr,hS',hs',hN'⟩:=St.append (P:=P) 248 248 251 Tryz.t251 (.agg #[.pointer none,.bool false]) 2 16 Tryz.underlying248 (by kernel_rfl) rfl rfl rfl rfl (by omega) h hS hN (j:=0) rfl rfl (by simp [Rcs,Value.oneCell']) (by simp [maxLen]; omega) (by omega)
 refine ⟨some ⟨g,0,none⟩,cap,w',L',?_,?_,(hs':St w0 w' ((nb,Cs (Rcs n r) 251)::(L'++H))).tail hnb,hN'⟩
 ·simpa using hr
 ·simpa using hS'
theorem reads_ok (h:St w0 w H) {s:ByteArray} {fs rl n:Nat} {x:HI} (hfs:fs < 32768) (hx:(n,Cs (HIcs x) 119)∈H)
  (hK:∀ w' a c L,St w0 w' (L++H)→New w0 L→SlO 2 251 (.slice a (readsO fs rl x.sub).length c) (readsO fs rl x.sub).length ((readsO fs rl x.sub).map (Rcs n)).flatten L→K (.slice a (readsO fs rl x.sub).length c) w') :
  CallL P 197 [.agg (Fcs s fs rl).toArray,.pointer (some (Addr.mk n 0 none))] w K:=by
 refine f197_ok _ _ _ _ ?_
 rw [f197_eq]
 refine h.newC fun n2 w3 hn2 h3=>?_
 have h3:St w0 w3 ((n2,Cs (Fcs s fs rl) 214)::H):=h3
 have mv:∀ {w':World} {L:HBL},St w0 w' (L++(n2,Cs (Fcs s fs rl) 214)::H)→St w0 w' ((n2,Cs (Fcs s fs rl) 214)::(L++H)):=fun h'=>h'.perm List.perm_middle
 have mv':∀ {w':World} {L:HBL},St w0 w' ((n2,Cs (Fcs s fs rl) 214)::(L++H))→St w0 w' (L++(n2,Cs (Fcs s fs rl) 214)::H):=fun h'=>h'.perm List.perm_middle.symm
 have s3:∀ {w':World} {l a c L},l=readsO fs rl x.sub→SlO 2 251 (.slice a l.length c) l.length (l.map (Rcs n)).flatten L→New w0 L→St w0 w' (L++(n2,Cs (Fcs s fs rl) 214)::H)→f197_s3 a l.length c w' K:=by
  rintro w' l a c L rfl hS hN h'
  rw [f197_s3_eq]
  exact hK w' a c L ((mv h').tail hn2) hN hS
 have s2:∀ {w':World} {l a c L} {b:Bool},l++(if b=true then [(7,has fs 16384)] else [])=readsO fs rl x.sub→l.length < 100→SlO 2 251 (.slice a l.length c) l.length (l.map (Rcs n)).flatten L→New w0 L→St w0 w' (L++(n2,Cs (Fcs s fs rl) 214)::H)→
   f197_s2 b (Addr.mk n2 0 none) (some (Addr.mk n 0 none)) a l.length c w' K:=by
  intro w' l a c L b hl h100 hS hN h'
  rw [f197_s2_eq,BIf_iff]
  refine ⟨fun hb=>?_,fun hb=>s3 (by rw [hb] at hl; simpa using hl) hS hN h'⟩
  have h4:=(mv h').drew
  refine h4.ldA (k:=0) (i:=0) rfl (by simp [Fcs]) (has_ok (bit:=16384) h4 hfs (by omega) fun w54 h54=>⟨_,rfl,?_⟩)
  refine ⟨_,bread _ _,⟨rfl,trivial⟩,h54.newC fun n60 w58 hn60 h58=>?_⟩
  have h58:St w0 w58 ((n60,Cs (Rcs n (7,has fs 16384)) 251)::(n2,Cs (Fcs s fs rl) 214)::(L++H)):=by rw [add_lit'] at h58; exact h58
  obtain ⟨a',c',w62,L',hr,hS',hs',hN'⟩:=app_read (r:=(7,has fs 16384)) (h58.perm (List.Perm.cons _ List.perm_middle.symm)) hn60 hS hN h100
  refine ⟨_,_,_,w62,hr,s3 ?_ hS' hN' hs'⟩
  rw [hb] at hl; exact hl
 have s1:∀ {w':World} {l a c L},l++(if (has fs 64 && (rl != 12 || x.sub == 0))=true then [(7,has fs 16384)] else [])=readsO fs rl x.sub→l.length < 100→SlO 2 251 (.slice a l.length c) l.length (l.map (Rcs n)).flatten L→New w0 L→St w0 w' (L++(n2,Cs (Fcs s fs rl) 214)::H)→
   f197_s1 (Addr.mk n2 0 none) (some (Addr.mk n 0 none)) a l.length c w' K:=by
  intro w' l a c L hl h100 hS hN h'
  rw [f197_s1_eq]
  have h4:=mv h'
  refine h4.ldA (k:=0) (i:=0) rfl (by simp [Fcs]) (has_ok (bit:=64) h4 hfs (by omega) fun w44 h44=>⟨_,rfl,?_⟩)
  have s2':∀ {b:Bool},b=(has fs 64 && (rl != 12 || x.sub == 0))→f197_s2 b (Addr.mk n2 0 none) (some (Addr.mk n 0 none)) a l.length c w44 K:=fun {b} hb=>s2 (by rw [hb]; exact hl) h100 hS hN (mv' h44)
  rw [BIf_iff]
  refine ⟨fun hb=>⟨rl,by rw [add_lit']; exact h44.cell (k:=0) rfl,?_⟩,fun hb=>s2' (by rw [hb]; rfl)⟩
  rw [BIf_iff]
  refine ⟨fun hc=>s2' ?_,fun hc=>⟨x.sub,?_,s2' ?_⟩⟩
  ·have:(rl != 12)=true:=by simp at hc ⊢; omega
   rw [hb,this]; rfl
  ·rw [add_lit']
   exact cell_of (h44.has _ _ (.tail _ (List.mem_append_right _ hx)))
  ·have:(rl != 12)=false:=by simp at hc ⊢; omega
   rw [hb,this]; simp
 have s0:∀ {w':World} {l a c L},l++(if has fs 32=true then [(6,has fs 8192)] else [])++(if (has fs 64 && (rl != 12 || x.sub == 0))=true then [(7,has fs 16384)] else [])=readsO fs rl x.sub→l.length < 90→SlO 2 251 (.slice a l.length c) l.length (l.map (Rcs n)).flatten L→New w0 L→St w0 w' (L++(n2,Cs (Fcs s fs rl) 214)::H)→
   f197_s0 (Addr.mk n2 0 none) (some (Addr.mk n 0 none)) a l.length c w' K:=by
  intro w' l a c L hl h100 hS hN h'
  rw [f197_s0_eq]
  have h4:=mv h'
  refine h4.ldA (k:=0) (i:=0) rfl (by simp [Fcs]) (has_ok (bit:=32) h4 hfs (by omega) fun w25 h25=>⟨_,rfl,?_⟩)
  rw [BIf_iff]
  refine ⟨fun hb=>?_,fun hb=>s1 (by rw [hb] at hl; simpa using hl) (by omega) hS hN (mv' h25)⟩
  have h5:=h25.drew
  refine h5.ldA (k:=0) (i:=0) rfl (by simp [Fcs]) (has_ok (bit:=8192) h5 hfs (by omega) fun w30 h30=>⟨_,rfl,?_⟩)
  refine ⟨_,bread _ _,⟨rfl,trivial⟩,h30.newC fun n36 w34 hn36 h34=>?_⟩
  have h34:St w0 w34 ((n36,Cs (Rcs n (6,has fs 8192)) 251)::(n2,Cs (Fcs s fs rl) 214)::(L++H)):=by rw [add_lit'] at h34; exact h34
  obtain ⟨a',c',w38,L',hr,hS',hs',hN'⟩:=app_read (r:=(6,has fs 8192)) (h34.perm (List.Perm.cons _ List.perm_middle.symm)) hn36 hS hN (by omega)
  refine ⟨_,_,_,w38,hr,s1 ?_ (by simp; omega) hS' hN' hs'⟩
  rw [hb] at hl; exact hl
 refine h3.ldA (k:=0) (i:=0) rfl (by simp [Fcs]) (has_ok (bit:=16) h3 hfs (by omega) fun w6 h6=>⟨_,rfl,?_⟩)
 rw [BIf_iff]
 refine ⟨fun hb=>?_,fun hb=>s0 (l:=[]) (by unfold readsO; rw [hb]; simp) (by simp) (SlO.nil 2 251) (New.nil w0) h6⟩
 have h7:=h6.drew
 refine h7.ldA (k:=0) (i:=0) rfl (by simp [Fcs]) (has_ok (bit:=4096) h7 hfs (by omega) fun w11 h11=>⟨_,rfl,?_⟩)
 refine ⟨_,bread _ _,⟨rfl,trivial⟩,h11.newC fun n17 w15 hn17 h15=>?_⟩
 have h15:St w0 w15 ((n17,Cs (Rcs n (5,has fs 4096)) 251)::([]++(n2,Cs (Fcs s fs rl) 214)::H)):=by rw [add_lit'] at h15; exact h15
 obtain ⟨a',c',w19,L',hr,hS',hs',hN'⟩:=app_read (l:=[]) (r:=(5,has fs 4096)) h15 hn17 (SlO.nil 2 251) (New.nil w0) (by simp)
 refine ⟨_,_,_,w19,hr,s0 (l:=[(5,has fs 4096)]) ?_ (by simp) hS' hN' hs'⟩
 unfold readsO
 rw [hb]
 rfl
def fieldAt (x:HI) (o:Nat):Int:=if o=5 then x.a else if o=6 then x.b else x.c
def Gcs (r:Bool × Int):List Value:=[.bool r.1,J r.2]
theorem usesV_is (x:HI):usesV x=(readsO (fsOf x) (rlOf x) x.sub).map fun r=>(r.2,fieldAt x r.1):=by
 unfold usesV readsO
 simp only [List.map_append]
 congr 1
 ·congr 1
  ·split <;> simp [fieldAt]
  ·split <;> simp [fieldAt]
 ·split <;> simp [fieldAt]
theorem readsO_len (fs rl:Nat) (sub:Int):(readsO fs rl sub).length≤3:=by
 unfold readsO
 simp only [List.length_append]
 split <;> split <;> split <;> simp
theorem readsO_off {fs rl:Nat} {sub:Int} {r:Nat × Bool} (h:r∈readsO fs rl sub):r.1=5∨r.1=6∨r.1=7:=by
 unfold readsO at h
 simp only [List.mem_append] at h
 rcases h with (h | h) | h <;> split at h <;> simp at h <;> subst h <;> simp
theorem flat_at {α:Type} (f:α→List Value) (m:Nat) (hf:∀ x,(f x).length=m) (l:List α):∀ {i:Nat} (hi:i < l.length),((l.map f).flatten.drop (i * m)).take m=f l[i]:=by
 induction l with
 | nil=>intro i hi; simp at hi
 | cons x r ih=>
  intro i hi
  cases i with
  | zero=>simp [hf]
  | succ i=>
   have e:(i+1) * m=(f x).length+i * m:=by rw [hf,Nat.add_mul]; omega
   simp only [List.map_cons,List.flatten_cons,List.getElem_cons_succ]
   rw [e,← List.drop_drop,List.drop_left]
   exact ih _
theorem perm_by {l l':HBL} (h:∀ c:Nat × Obj→Nat,(l.map c).sum=(l'.map c).sum):l.Perm l':=by
 classical
 rw [List.perm_iff_count]
 intro a
 have e:∀ l:List (Nat × Obj),l.count a=(l.map fun y=>if y == a then 1 else 0).sum:=by
  intro l
  induction l with
  | nil=>rfl
  | cons x r ih=>rw [List.count_cons,List.map_cons,List.sum_cons,ih]; omega
 rw [e,e]
 exact h _
theorem app_reg {nb:Nat} {r:Bool × Int} {l:List (Bool × Int)} {L:HBL} {ov:Value} (h:St w0 w ((nb,Cs (Gcs r) 238)::(L++H))) (hnb:w0.heap.size≤nb) (hS:SlO 2 238 ov l.length (l.map Gcs).flatten L) (hN:New w0 L) (hl:l.length < 100) :
  ∃ a c w' L',(Builtin.append_ #[235,235] 235 [ov,.slice (some (Addr.mk nb 0 none)) 1 1].toArray).run P w=.ok (.slice a (l++[r]).length c) w'∧SlO 2 238 (.slice a (l++[r]).length c) (l++[r]).length ((l++[r]).map Gcs).flatten L'∧St w0 w' (L'++H)∧New w0 L':=by
 have h:St w0 w ([(nb,Cs (Gcs r) 238)]++(L++H)):=h
 obtain ⟨g,cap,w',L',hr,hS',hs',hN'⟩:=St.append (P:=P) 235 235 238 Tryz.t238 (.agg #[.bool false,J 0]) 2 16 Tryz.underlying235 (by kernel_rfl) rfl rfl rfl rfl (by omega) h hS hN (j:=0) rfl rfl (by simp [Gcs,Value.oneCell']) (by simp [maxLen]; omega) (by omega)
 refine ⟨some ⟨g,0,none⟩,cap,w',L',?_,?_,(hs':St w0 w' ((nb,Cs (Gcs r) 238)::(L'++H))).tail hnb,hN'⟩
 ·simpa using hr
 ·simpa using hS'
theorem uses_ok (h:St w0 w H) {gcs:List Value} {gt:TypeId} (hg:(0,Cs gcs gt)∈H) (ht:Table gcs) {x:HI} (hv:valid x=true)
  (hK:∀ w' a c L,St w0 w' (L++H)→New w0 L→SlO 2 238 (.slice a (usesV x).length c) (usesV x).length ((usesV x).map Gcs).flatten L→K (.slice a (usesV x).length c) w'):CallL P 187 [.agg (HIcs x).toArray] w K:=by
 refine f187_ok _ _ _ ?_
 obtain ⟨y,hy,hyl⟩:=z214
 obtain ⟨z,hz⟩:∃ z:List Value,zcells P 251=z.toArray∧z.length=2:=⟨[.pointer none,.bool false],by kernel_rfl,rfl⟩
 rw [f187_eq,f187_s0_eq]
 refine h.newC fun n2 w3 hn2 h3=>?_
 have h3:St w0 w3 ((n2,Cs (HIcs x) 119)::H):=h3
 rw [f187_s1_eq,f187_s2_eq]
 refine h3.ldA (k:=0) (i:=0) rfl (by simp [HIcs]) (valid_ok (x:=x) h3 (.tail _ hg) ht fun w13 h13=>⟨_,rfl,?_⟩)
 rw [hv,Bool.not_true]
 simp only [BIf_false]
 rw [f187_s3_eq,hy]
 refine ⟨x.op,h13.cell (k:=0) rfl,formOf_ok h13 (.tail _ hg) ht fun w20 s h20=>⟨_,_,rfl,h20.newC fun n23 w24 hn23 h24=>?_⟩⟩
 refine h24.stA (k:=0) rfl rfl (by simp [hyl]) (by simp [Fcs,Value.oneCell']) fun w25 h25=>?_
 have h25:St w0 w25 ((n23,Cs (splice y 0 (Fcs s (fsOf x) (rlOf x))) 214)::(n2,Cs (HIcs x) 119)::H):=h25
 rw [splice_all _ _ (by rw [hyl]; rfl)] at h25
 rw [f187_s4_eq]
 refine h25.ldA (k:=0) (i:=0) rfl (by simp [Fcs]) (reads_ok (x:=x) (n:=n2) h25 (fs_small x) (.tail _ (.head _)) fun w41 ra rc RL h41 hRN hRS=>⟨_,_,_,rfl,?_⟩)
 rw [f187_s5_eq]
 generalize hro:readsO (fsOf x) (rlOf x) x.sub=ro at *
 have hus:usesV x=ro.map fun r=>(r.2,fieldAt x r.1):=by rw [usesV_is,hro]
 have hlen:ro.length≤3:=by rw [← hro]; exact readsO_len _ _ _
 have hul:(usesV x).length=ro.length:=by rw [hus]; simp
 refine ⟨fun m e w'=>∃ (i:Nat) (oa:Option Addr) (oc:Nat) (OL:HBL),i≤ro.length∧m=ro.length - i∧e=Env.mk 36 [(20,J i),(3,.slice oa ((usesV x).take i).length oc),(18,.slice ra ro.length rc),(2,.slice none 0 0),(19,J ro.length)] []∧
   St w0 w' (OL++(RL++(n23,Cs (Fcs s (fsOf x) (rlOf x)) 214)::(n2,Cs (HIcs x) 119)::H))∧New w0 OL∧SlO 2 238 (.slice oa ((usesV x).take i).length oc) ((usesV x).take i).length (((usesV x).take i).map Gcs).flatten OL,
  ⟨ro.length,0,none,0,[],by omega,rfl,rfl,h41,New.nil w0,SlO.nil 2 238⟩,?_⟩
 rintro m e w' ⟨i,oa,oc,OL,hi,rfl,rfl,hs,hON,hOS⟩
 show f187_lb6 ..
 rw [f187_lb6_eq,f187_s7_eq,BIf_iff]
 refine ⟨fun hlt=>?_,fun hge=>?_⟩
 ·have hlt:i < ro.length:=by have:=of_decide_eq_true hlt; omega
  rw [f187_s8_eq,hz.1]
  have hrow:Row w' 2 (.slice ra ro.length rc) ro.length (ro.map (Rcs n2)).flatten:=hRS.row fun u hu=>hs.has _ _ (List.mem_append_right _ (List.mem_append_left _ hu))
  obtain ⟨ad,cp,hac,hld⟩:=hrow.ldA hlt
  injection hac with hac _ _
  subst hac
  refine ⟨by omega,by omega,?_⟩
  rw [Int.toNat_natCast]
  refine hld _ ?_
  rw [flat_at (Rcs n2) 2 (fun _=>rfl) ro hlt]
  refine hs.newC fun n78 w79 hn78 h79=>?_
  refine h79.stA (k:=0) rfl rfl (by simp [hz.2]) (by simp [Rcs,Value.oneCell']) fun w80 h80=>?_
  have h80:St w0 w80 ((n78,Cs (splice z 0 (Rcs n2 ro[i])) 251)::(OL++(RL++(n23,Cs (Fcs s (fsOf x) (rlOf x)) 214)::(n2,Cs (HIcs x) 119)::H))):=h80
  rw [splice_all _ _ (by rw [hz.2]; rfl)] at h80
  have h81:=h80.drew
  have hoff:ro[i].1=5∨ro[i].1=6∨ro[i].1=7:=readsO_off (fs:=fsOf x) (rl:=rlOf x) (sub:=x.sub) (by rw [hro]; exact List.getElem_mem hlt)
  refine ⟨ro[i].2,by rw [add_lit']; exact h81.cell (k:=0) rfl,some (Addr.mk n2 ro[i].1 none),h81.cell (k:=0) rfl,fieldAt x ro[i].1,?_,_,breg _ _,⟨rfl,trivial⟩,?_⟩
  ·rw [cell_of (h81.has n2 (Cs (HIcs x) 119) (.tail _ (List.mem_append_right _ (List.mem_append_right _ (.tail _ (.head _))))))]
   rcases hoff with h | h | h <;> rw [h] <;> rfl
  ·refine h81.newC fun n89 w87 hn89 h87=>?_
   have h87:St w0 w87 ((n89,Cs (Gcs (ro[i].2,fieldAt x ro[i].1)) 238)::(n78,Cs (Rcs n2 ro[i]) 251)::(OL++(RL++(n23,Cs (Fcs s (fsOf x) (rlOf x)) 214)::(n2,Cs (HIcs x) 119)::H))):=h87
   have h88:=(h87.perm (List.Perm.swap _ _ _)).tail hn78
   obtain ⟨a',c',w91,L',hr,hS',hs',hN'⟩:=app_reg (r:=(ro[i].2,fieldAt x ro[i].1)) h88 hn89 hOS hON (by simp; omega)
   refine ⟨_,_,_,w91,hr,?_⟩
   rw [f187_s9_eq]
   have ht1:(usesV x).take (i+1)=(usesV x).take i++[(ro[i].2,fieldAt x ro[i].1)]:=by
    rw [take_succ' _ (by rw [hul]; exact hlt)]
    congr 2
    simp [hus]
   refine ⟨ro.length - (i+1),by omega,i+1,a',c',L',by omega,rfl,?_,hs',hN',by rw [ht1]; exact hS'⟩
   rw [wrap_i64 (by omega) (by omega),ht1]; rfl
 ·have:i=ro.length:=by have:=of_decide_eq_false hge; omega
  subst this
  rw [f187_s10_eq]
  have htk:(usesV x).take ro.length=usesV x:=List.take_of_length_le (by rw [hul]; exact Nat.le_refl _)
  rw [htk] at hOS ⊢
  refine hK w' oa oc OL ?_ hON hOS
  have h1:St w0 w' (RL++((n23,Cs (Fcs s (fsOf x) (rlOf x)) 214)::(n2,Cs (HIcs x) 119)::(OL++H))):=hs.perm (perm_by fun c=>by simp only [List.map_append,List.map_cons,List.sum_append,List.sum_cons]; omega)
  exact ((h1.sub hRN).tail hn23).tail hn2
theorem usesV_len (x:HI):(usesV x).length≤3:=by rw [usesV_is,List.length_map]; exact readsO_len _ _ _
theorem regs_ok {X:HBL} {l:List (Bool × Int)} {la:Option Addr} {lc:Nat} {L:HBL} (h:St w0 w (L++X)) (hS:SlO 2 238 (.slice la l.length lc) l.length (l.map Gcs).flatten L) (hl:l.length < 100)
  (hK:∀ w',St w0 w' (L++X)→K (J (if l.all regOk=true then 0 else 170)) w'):f170_s4 0 la l.length lc w K:=by
 obtain ⟨z,hz,hzl⟩:=z238
 rw [f170_s4_eq,f170_s5_eq]
 refine ⟨fun m e w'=>∃ i:Nat,i≤l.length∧m=l.length - i∧e=Env.mk 47 [(25,J i),(23,.slice la l.length lc),(2,J 0),(24,J l.length)] []∧St w0 w' (L++X)∧(l.take i).all regOk=true,⟨l.length,0,by omega,rfl,rfl,h,rfl⟩,?_⟩
 rintro m e w' ⟨i,hi,rfl,rfl,hs,hall⟩
 show f170_lb6 ..
 rw [f170_lb6_eq,f170_s7_eq,BIf_iff]
 refine ⟨fun hlt=>?_,fun hge=>?_⟩
 ·have hlt:i < l.length:=by have:=of_decide_eq_true hlt; omega
  rw [f170_s8_eq,hz]
  have hrow:Row w' 2 (.slice la l.length lc) l.length (l.map Gcs).flatten:=hS.row fun u hu=>hs.has _ _ (List.mem_append_left _ hu)
  obtain ⟨ad,cp,hac,hld⟩:=hrow.ldA hlt
  injection hac with hac _ _
  subst hac
  refine ⟨by omega,by omega,?_⟩
  rw [Int.toNat_natCast]
  refine hld _ ?_
  rw [flat_at Gcs 2 (fun _=>rfl) l hlt]
  refine hs.newC fun n59 w60 hn59 h60=>?_
  refine h60.stA (k:=0) rfl rfl (by simp [hzl]) (by simp [Gcs,Value.oneCell']) fun w61 h61=>?_
  have h61:St w0 w61 ((n59,Cs (splice z 0 (Gcs l[i])) 238)::(L++X)):=h61
  rw [splice_all _ _ (by rw [hzl]; rfl)] at h61
  have h62:=h61.tail hn59
  have bad:regOk l[i]=false→∀ {Y:YT},f170_s9 true (some ad) l.length lc l.length i 0 w61 K Y:=fun hb {Y}=>by
   rw [f170_s9_eq]
   simp only [BIf_true]
   have:l.all regOk=false:=by
    rw [← Bool.not_eq_true,List.all_eq_true]
    intro h; rw [h _ (List.getElem_mem hlt)] at hb; cases hb
   have hK:=hK w61 h62
   rw [this] at hK
   exact hK
  have good:regOk l[i]=true→∀ {Y:YT},Y (Env.mk 47 [(25,J ((i+1:Nat):Int)),(23,.slice (some ad) l.length lc),(2,J 0),(24,J l.length)] []) w61→f170_s9 false (some ad) l.length lc l.length i 0 w61 K Y:=fun hb {Y} hY=>by
   rw [f170_s9_eq]
   simp only [BIf_false]
   rw [f170_s10_eq,wrap_i64 (by omega) (by omega)]
   exact hY
  have next:regOk l[i]=true→(l.take (i+1)).all regOk=true:=fun hb=>by rw [take_succ' l hlt,List.all_append,hall]; simp [hb]
  have hreg:regOk l[i]=if l[i].1=true then decide (l[i].2 < 6) else decide (l[i].2 < 12):=rfl
  have c0:w61.cell? (Addr.mk n59 0 none)=some (.bool l[i].1):=h61.cell (k:=0) rfl
  have c1:w61.cell? ((Addr.mk n59 0 none).add 1)=some (J l[i].2):=by rw [add_lit']; exact h61.cell (k:=0) rfl
  refine ⟨l[i].1,c0,?_⟩
  cases hv:l[i].1 with
  | true=>
   rw [hv,if_pos rfl] at hreg
   simp only [BIf_true]
   refine ⟨_,c1,?_⟩
   cases hn:decide (l[i].2≥6) with
   | true=>
    simp only [BIf_true]
    exact bad (by rw [hreg]; have:=of_decide_eq_true hn; simp; omega)
   | false=>
    simp only [BIf_false]
    have hok:regOk l[i]=true:=by rw [hreg]; have:=of_decide_eq_false hn; simp; omega
    refine ⟨true,by rw [← hv]; exact c0,?_⟩
    simp only [Bool.not_true,BIf_false]
    exact good hok ⟨l.length - (i+1),by omega,i+1,by omega,rfl,rfl,h62,next hok⟩
  | false=>
   rw [hv,if_neg (by simp)] at hreg
   simp only [BIf_false]
   refine ⟨false,by rw [← hv]; exact c0,?_⟩
   simp only [Bool.not_false,BIf_true]
   refine ⟨_,c1,?_⟩
   cases hn:decide (l[i].2≥12) with
   | true=>exact bad (by rw [hreg]; have:=of_decide_eq_true hn; simp; omega)
   | false=>
    have hok:regOk l[i]=true:=by rw [hreg]; have:=of_decide_eq_false hn; simp; omega
    exact good hok ⟨l.length - (i+1),by omega,i+1,by omega,rfl,rfl,h62,next hok⟩
 ·have:i=l.length:=by have:=of_decide_eq_false hge; omega
  subst this
  rw [List.take_length] at hall
  rw [f170_s11_eq]
  have hK:=hK w' hs
  rw [if_pos hall] at hK
  exact hK
theorem check_ok (h:St w0 w H) {gcs:List Value} {gt:TypeId} (hg:(0,Cs gcs gt)∈H) (ht:Table gcs) {x:HI} (hK:∀ w',St w0 w' H→K (J (if check x=true then 0 else 170)) w'):CallL P 170 [.agg (HIcs x).toArray] w K:=by
 refine f170_ok _ _ _ ?_
 obtain ⟨z,hz,hzl⟩:=z238
 rw [f170_eq,f170_s0_eq]
 refine h.newC fun n2 w3 hn2 h3=>?_
 have h3:St w0 w3 ((n2,Cs (HIcs x) 119)::H):=h3
 rw [f170_s1_eq]
 refine h3.ldA (k:=0) (i:=0) rfl (by simp [HIcs]) (valid_ok (x:=x) h3 (.tail _ hg) ht fun w9 h9=>⟨_,rfl,?_⟩)
 rw [BIf_iff]
 refine ⟨fun hb=>?_,fun hb=>?_⟩
 ·have hb:valid x=false:=by simpa using hb
  have hK:=hK w9 (h9.tail hn2)
  unfold check at hK
  rw [hb] at hK
  exact hK
 have hv:valid x=true:=by simpa using hb
 rw [f170_s2_eq]
 refine h9.ldA (k:=0) (i:=0) rfl (by simp [HIcs]) (uses_ok (x:=x) h9 (.tail _ hg) ht hv fun w15 ua uc UL h15 hUN hUS=>⟨_,_,_,rfl,?_⟩)
 rw [f170_s3_eq,hz]
 have h16:St w0 w15 ((n2,Cs (HIcs x) 119)::(UL++H)):=h15.perm List.perm_middle
 refine h16.ldA (k:=0) (i:=0) rfl (by simp [HIcs]) (def_ok (x:=x) h16 (.tail _ (List.mem_append_right _ hg)) ht fun w24 h24=>⟨_,_,rfl,h24.newC fun n27 w28 hn27 h28=>?_⟩)
 refine h28.stA (k:=0) rfl rfl (by simp [hzl]) (by simp [Value.oneCell']) fun w29 h29=>?_
 have h29:St w0 w29 ((n27,Cs (splice z 0 (Gcs (defV x))) 238)::(n2,Cs (HIcs x) 119)::(UL++H)):=h29
 rw [splice_all _ _ (by rw [hzl]; rfl)] at h29
 have hck:check x=((usesV x++if hasDef x=true then [defV x] else []).all regOk):=by unfold check; rw [hv]; rfl
 rw [BIf_iff]
 refine ⟨fun hb=>?_,fun hb=>?_⟩
 ·refine h29.ldA (k:=0) (i:=0) rfl (by simp [Gcs]) ⟨⟨rfl,trivial⟩,h29.newC fun n34 w32 hn34 h32=>?_⟩
  have h32:St w0 w32 ((n34,Cs (Gcs (defV x)) 238)::(n27,Cs (Gcs (defV x)) 238)::(n2,Cs (HIcs x) 119)::(UL++H)):=h32
  have h33:St w0 w32 ((n34,Cs (Gcs (defV x)) 238)::(UL++((n27,Cs (Gcs (defV x)) 238)::(n2,Cs (HIcs x) 119)::H))):=h32.perm (perm_by fun c=>by simp only [List.map_append,List.map_cons,List.sum_append,List.sum_cons]; omega)
  have hul:=usesV_len x
  obtain ⟨a',c',w36,L',hr,hS',hs',hN'⟩:=app_reg (r:=defV x) h33 hn34 hUS hUN (by omega)
  refine ⟨_,_,_,w36,hr,regs_ok hs' hS' (by simp; omega) fun w' h'=>?_⟩
  have hK:=hK w' (((h'.sub hN').tail hn27).tail hn2)
  rw [hck,hb] at hK
  exact hK
 ·have hul:=usesV_len x
  have h33:St w0 w29 (UL++((n27,Cs (Gcs (defV x)) 238)::(n2,Cs (HIcs x) 119)::H)):=h29.perm (perm_by fun c=>by simp only [List.map_append,List.map_cons,List.sum_append,List.sum_cons]; omega)
  refine regs_ok h33 hUS (by omega) fun w' h'=>?_
  have hK:=hK w' (((h'.sub hUN).tail hn27).tail hn2)
  rw [hck,hb] at hK
  simp only [Bool.false_eq_true,if_false,List.append_nil] at hK
  exact hK
end Go.Fx.Tryz
namespace Go.Fx.Ch
abbrev Rd:=Nat × Bool
def rd (bs:List Int) (s:Rd) (n:Nat):Int × Rd:=if s.1+n > bs.length then (0,(s.1,true)) else (le ((bs.drop s.1).take n),(s.1+n,s.2))
def setF (x:HI) (i:Nat) (v:Int):HI:=match i with
 | 0=>{ x with sub:=v }
 | 1=>{ x with frm:=v }
 | 2=>{ x with ty:=v }
 | 3=>{ x with d:=v }
 | 4=>{ x with a:=v }
 | 5=>{ x with b:=v }
 | 6=>{ x with c:=v }
 | _=>{ x with k:=v }
def bitF (i:Nat):Nat:=[1,2,4,8,16,32,64,128].getD i 0
def decS (fs:Nat) (bs:List Int) (i:Nat) (s:HI × Rd):HI × Rd:=if has fs (bitF i)=true then (setF s.1 i (rd bs s.2 (if i=7 then 2 else 1)).1,(rd bs s.2 (if i=7 then 2 else 1)).2) else s
def decI (fs:Nat) (bs:List Int):Nat→HI × Rd→HI × Rd
 | 0,s=>s
 | i+1,s=>decS fs bs i (decI fs bs i s)
def decA (fs:Nat) (bs:List Int) (s:HI × Rd):HI × Rd:=if has fs 256=true then ({ s.1 with i:=(rd bs s.2 4).1 },(rd bs s.2 4).2) else s
def decC (fs:Nat) (bs:List Int) (s:HI × Rd):HI × Rd:=if has fs 512=true then ({ s.1 with chain:=(rd bs s.2 4).1 },(rd bs s.2 4).2) else s
def setV (x:HI) (i:Nat) (v:Int):HI:=match i with
 | 0=>{ x with v0:=v }
 | 1=>{ x with v1:=v }
 | 2=>{ x with v2:=v }
 | _=>{ x with v3:=v }
def decV1 (bs:List Int):Nat→HI × Rd→HI × Rd
 | 0,s=>s
 | i+1,s=>(setV (decV1 bs i s).1 i (rd bs (decV1 bs i s).2 4).1,(rd bs (decV1 bs i s).2 4).2)
def decV (fs:Nat) (bs:List Int) (s:HI × Rd):HI × Rd:=if has fs 1024=true then decV1 bs 4 s else s
def decode (bs:List Int):Option (HI × Nat):=
 let o:=rd bs (0,false) 1
 if ¬ (1≤o.1∧o.1 < 46)∨o.2.2=true then none else
 let fs:=(formN o.1).1
 let s:=decV fs bs (decC fs bs (decA fs bs (decI fs bs 8 ({ op:=o.1 },o.2))))
 if s.2.2=true∨check s.1=false then none else some (s.1,s.2.1)
theorem rd_at {bs:List Int} {s:Rd} {n:Nat} (h:s.1≤bs.length):(rd bs s n).2.1≤bs.length:=by
 unfold rd
 split
 ·exact h
 ·show s.1+n≤bs.length; omega
theorem decI_at {fs:Nat} {bs:List Int} {s:HI × Rd} (h:s.2.1≤bs.length):∀ i,(decI fs bs i s).2.1≤bs.length
 | 0=>h
 | i+1=>by
  show (decS fs bs i (decI fs bs i s)).2.1≤bs.length
  unfold decS
  split
  ·exact rd_at (decI_at h i)
  ·exact decI_at h i
theorem decA_at {fs:Nat} {bs:List Int} {s:HI × Rd} (h:s.2.1≤bs.length):(decA fs bs s).2.1≤bs.length:=by
 unfold decA; split
 ·exact rd_at h
 ·exact h
theorem decC_at {fs:Nat} {bs:List Int} {s:HI × Rd} (h:s.2.1≤bs.length):(decC fs bs s).2.1≤bs.length:=by
 unfold decC; split
 ·exact rd_at h
 ·exact h
theorem decV1_at {bs:List Int} {s:HI × Rd} (h:s.2.1≤bs.length):∀ i,(decV1 bs i s).2.1≤bs.length
 | 0=>h
 | i+1=>rd_at (decV1_at h i)
theorem rd_up {bs:List Int} {s:Rd} {n:Nat}:s.1≤(rd bs s n).2.1:=by
 unfold rd
 split
 ·exact Nat.le_refl _
 ·show s.1≤s.1+n; omega
theorem decI_up {fs:Nat} {bs:List Int} {s:HI × Rd}:∀ i,s.2.1≤(decI fs bs i s).2.1
 | 0=>Nat.le_refl _
 | i+1=>by
  show s.2.1≤(decS fs bs i (decI fs bs i s)).2.1
  have:=decI_up (fs:=fs) (bs:=bs) (s:=s) i
  unfold decS
  split
  ·exact Nat.le_trans this rd_up
  ·exact this
theorem decV1_up {bs:List Int} {s:HI × Rd}:∀ i,s.2.1≤(decV1 bs i s).2.1
 | 0=>Nat.le_refl _
 | i+1=>Nat.le_trans (decV1_up (bs:=bs) (s:=s) i) rd_up
theorem decV_up {fs:Nat} {bs:List Int} {s:HI × Rd}:s.2.1≤(decV fs bs s).2.1:=by
 unfold decV
 split
 ·exact decV1_up 4
 ·exact Nat.le_refl _
theorem decC_up {fs:Nat} {bs:List Int} {s:HI × Rd}:s.2.1≤(decC fs bs s).2.1:=by
 unfold decC
 split
 ·exact rd_up
 ·exact Nat.le_refl _
theorem decA_up {fs:Nat} {bs:List Int} {s:HI × Rd}:s.2.1≤(decA fs bs s).2.1:=by
 unfold decA
 split
 ·exact rd_up
 ·exact Nat.le_refl _
theorem decV_at {fs:Nat} {bs:List Int} {s:HI × Rd} (h:s.2.1≤bs.length):(decV fs bs s).2.1≤bs.length:=by
 unfold decV
 split
 ·exact decV1_at h 4
 ·exact h
theorem decode_len {bs:List Int} {x:HI} {n:Nat} (h:decode bs=some (x,n)):1≤n∧n≤bs.length:=by
 unfold decode at h
 dsimp only at h
 split at h
 ·cases h
 ·rename_i hno
  split at h
  ·cases h
  ·simp only [Option.some.injEq,Prod.mk.injEq] at h
   obtain ⟨_,rfl⟩:=h
   have h1:(rd bs (0,false) 1).2.1=1:=by
    unfold rd at hno ⊢
    split
    ·rename_i hgt; rw [if_pos hgt] at hno; simp at hno
    ·rfl
   have h2:(rd bs (0,false) 1).2.1≤bs.length:=rd_at (Nat.zero_le _)
   refine ⟨?_,decV_at (decC_at (decA_at (decI_at h2 8)))⟩
   refine Nat.le_trans (Nat.le_of_eq h1.symm) (Nat.le_trans (decI_up (fs:=(formN (rd bs (0,false) 1).1).1) (bs:=bs) (s:=({ op:=(rd bs (0,false) 1).1 },(rd bs (0,false) 1).2)) 8) (Nat.le_trans decA_up (Nat.le_trans decC_up decV_up)))
def endsI (x:HI):Bool:=x.op == 40 || x.op == 41
def lastEnds (out:List (HI × Nat)):Bool:=match out.getLast? with
 | some p=>endsI p.1
 | none=>false
def allL (bs:List Int):Nat→Nat→List (HI × Nat)→Option (List (HI × Nat))
 | 0,_,_=>none
 | f+1,at_,out=>if at_ < bs.length then match decode (bs.drop at_) with
   | none=>none
   | some (x,n)=>if lastEnds out=true then none else allL bs f (at_+n) (out++[(x,at_)])
  else if lastEnds out=true then some out else none
def allF (bs:List Int):Option (List (HI × Nat)):=if bs.length > 65536 then none else allL bs (bs.length+1) 0 []
end Go.Fx.Ch
namespace Go.Fx.Tryz
open Go Go.Fx Go.Fx.Ch
open Go.Proofs
set_option linter.all false
set_option maxRecDepth 20000
variable {w0 w:World} {H:HBL} {K:KT}
structure Bytes (w0:World) (H:HBL) (ov:Value) (bs:List Int):Prop where
 row:∀ w',St w0 w' H→Row w' 1 ov bs.length (bs.map B)
 byte:∀ b∈bs,0≤b∧b < 256
 len:bs.length < 1000000
 cap:∀ a n c,ov=.slice a n c→n≤c
theorem rd_range {bs:List Int} (hb:∀ b∈bs,0≤b∧b < 256) (s:Rd) {n:Nat} (hn:n≤4):0≤(rd bs s n).1∧(rd bs s n).1 < 4294967296:=by
 unfold rd
 split
 ·exact ⟨Int.le_refl 0,by show (0:Int) < 4294967296; decide⟩
 ·have h1:=le_range ((bs.drop s.1).take n) fun b hb'=>hb b (List.mem_of_mem_drop (List.mem_of_mem_take hb'))
  have h2:((bs.drop s.1).take n).length≤4:=by simp; omega
  have h3:(256:Int) ^ ((bs.drop s.1).take n).length≤4294967296:=by
   generalize ((bs.drop s.1).take n).length=m at h2
   have:m=0∨m=1∨m=2∨m=3∨m=4:=by omega
   rcases this with rfl | rfl | rfl | rfl | rfl <;> decide
  exact ⟨h1.1,Int.lt_of_lt_of_le h1.2 h3⟩
def Rdc (ov:Value) (s:Rd):List Value:=[ov,J (s.1:Nat),.bool s.2]
theorem rd_ok {A:HBL} {ov:Value} {bs:List Int} (hB:Bytes w0 H ov bs) {k r:Nat} {s:Rd} {n:Nat} (h:St w0 w (A++H)) (hA:∀ x∈A,w0.heap.size≤x.1) (hk:A[k]?=some (r,Cs (Rdc ov s) 211)) (hs:s.1≤bs.length) (hn:n≤4)
  (hK:∀ w',St w0 w' (A.set k (r,Cs (Rdc ov (rd bs s n).2) 211)++H)→K (U (rd bs s n).1) w'):CallL P 166 [.pointer (some (Addr.mk r 0 none)),J n] w K:=by
 have hkl:k < A.length:=(List.getElem?_eq_some_iff.1 hk).1
 have hk':(A++H)[k]?=some (r,Cs (Rdc ov s) 211):=by rw [List.getElem?_append_left hkl]; exact hk
 have hset:∀ y,(A++H).set k y=A.set k y++H:=fun y=>List.set_append_left _ _ hkl
 have hr:w0.heap.size≤r:=hA _ (List.mem_of_getElem? hk)
 refine next_ok (bs:=bs) h hk' (fun w' cs h'=>?_) hB.byte hB.len (by have:=hB.len; omega) hn fun w' v a' s' h' hv=>?_
 ·rw [hset] at h'
  refine hB.row w' (h'.sub fun x hx=>?_)
  obtain ⟨j,hj⟩:=List.mem_iff_getElem?.1 hx
  rw [List.getElem?_set] at hj
  by_cases hkj:k=j
  ·subst hkj; simp [hkl] at hj; rw [← hj]; exact hr
  ·simp [hkj] at hj; exact hA _ (List.mem_of_getElem? hj)
 ·have e:rd bs s n=(v,(a',s')):=by
   unfold rd
   split
   ·rename_i hgt; rw [if_pos hgt] at hv; obtain ⟨rfl,rfl,rfl⟩:=hv; rfl
   ·rename_i hgt; rw [if_neg hgt] at hv; obtain ⟨rfl,rfl,rfl⟩:=hv; rfl
  rw [hset] at h'
  have hK:=hK w'
  rw [e] at hK
  exact hK h'
theorem breader (p:Option Addr) (l c:Nat) (wq:World):(Instr.build 211 [(0,.slice p l c)].toArray).run P wq=.ok (.agg (Rdc (.slice p l c) (0,false)).toArray) wq:=by kernel_rfl
theorem z209:∃ z:List Value,zcells P 209=z.toArray∧z.length=1:=⟨[.pointer none],by kernel_rfl,rfl⟩
theorem bzero (wq:World):(Instr.build 119 [].toArray).run P wq=.ok (.agg (HIcs {}).toArray) wq:=by kernel_rfl
theorem leave_138a (a:Addr) (v87 v86 v86' v5 v6:Value) (x3 x4:Int) (d0:List Deferred) (w:World) (K:KT) :
  LeaveS P rs138 (Env.mk 93 [(4,J x4),(3,J x3),(87,v87),(86,v86),(86,v86'),(2,.pointer (some a)),(5,v5),(6,v6)] d0) K [] w=LdA 15 a w (fun cs=>K (.tuple [.agg cs,J x3,J x4].toArray) w):=by kernel_rfl
theorem leave_138b (a:Addr) (x3 x4:Int) (d0:List Deferred) (w:World) (K:KT) :
  LeaveS P rs138 (Env.mk 93 [(2,.pointer (some a)),(3,J x3),(4,J x4)] d0) K [] w=LdA 15 a w (fun cs=>K (.tuple [.agg cs,J x3,J x4].toArray) w):=by kernel_rfl
def Dbl (ov:Value) (n22 n14 n6 n4 n1:Nat) (fc:List Value) (s:HI × Rd) (zz:List Value):List (Nat × Obj):=
 [(n22,Cs fc 214),(n14,Cs (HIcs s.1) 119),(n6,Cs [.pointer (some (Addr.mk n4 0 none))] 209),(n4,Cs (Rdc ov s.2) 211),(n1,Cs zz 119)]
theorem setF_cs (x:HI) (i:Nat) (hi:i < 8) (v:Int):(HIcs x).set (flds.getD i (0,0)).2 (J v)=HIcs (setF x i v):=by
 have:i=0∨i=1∨i=2∨i=3∨i=4∨i=5∨i=6∨i=7:=by omega
 rcases this with rfl | rfl | rfl | rfl | rfl | rfl | rfl | rfl <;> rfl
theorem setV_cs (x:HI) (i:Nat) (hi:i < 4) (v:Int):(HIcs x).set (11+i) (U v)=HIcs (setV x i v):=by
 have:i=0∨i=1∨i=2∨i=3:=by omega
 rcases this with rfl | rfl | rfl | rfl <;> rfl
theorem bitF_is (i:Nat) (hi:i < 8):(flds.getD i (0,0)).1=bitF i:=by
 have key:∀ i,i < 8→(flds.getD i (0,0)).1=bitF i:=by decide
 exact key i hi
theorem bitF_128 (i:Nat) (hi:i < 8):((bitF i:Nat):Int)=128↔i=7:=by
 have:i=0∨i=1∨i=2∨i=3∨i=4∨i=5∨i=6∨i=7:=by omega
 rcases this with rfl | rfl | rfl | rfl | rfl | rfl | rfl | rfl <;> simp [bitF]
def decR (bs:List Int):HI × Int × Int:=match Ch.decode bs with
 | some (x,n)=>(x,n,0)
 | none=>({},0,170)
section dec
variable {ov:Value} {bs:List Int} {n22 n14 n6 n4 n1:Nat}
theorem dec_end {gcs:List Value} {gt:TypeId} (hB:Bytes w0 H ov bs) (hg:(0,Cs gcs gt)∈H) (ht:Table gcs) (h22:w0.heap.size≤n22) (h14:w0.heap.size≤n14) (h6:w0.heap.size≤n6) (h4:w0.heap.size≤n4) (h1:w0.heap.size≤n1) {l':Nat} (hl':w0.heap.size≤l')
  {fc zz:List Value} {s:HI × Rd} (hz:zz.length=15) (hs:s.2.1≤bs.length) (h:St w0 w ((l',.deferred (some []))::(Dbl ov n22 n14 n6 n4 n1 fc s zz++H)))
  (hK:∀ w',St w0 w' H→K (.tuple [.agg (HIcs (if s.2.2=true∨check s.1=false then {} else s.1)).toArray,J (if s.2.2=true∨check s.1=false then 0 else (s.2.1:Nat)),J (if s.2.2=true∨check s.1=false then 170 else 0)].toArray) w') :
  f138_s10 (Addr.mk n1 0 none) (Addr.mk n6 0 none) (Addr.mk n14 0 none) [mk l'] w K:=by
 have hd:∀ {w':World} {o:Obj} {zz':List Value},St w0 w' ((l',o)::(Dbl ov n22 n14 n6 n4 n1 fc s zz'++H))→St w0 w' H:=fun h'=>(h'.tail hl').sub (fun x hx=>by
  simp only [Dbl,List.mem_cons,List.not_mem_nil,or_false] at hx
  rcases hx with rfl | rfl | rfl | rfl | rfl <;> assumption)
 rw [f138_s10_eq]
 refine ⟨some (Addr.mk n4 0 none),h.cell (k:=3) rfl,s.2.2,by rw [add_lit']; exact h.cell (k:=4) rfl,?_⟩
 have err:∀ {w':World},(s.2.2=true∨check s.1=false)→St w0 w' ((l',.deferred (some []))::(Dbl ov n22 n14 n6 n4 n1 fc s zz++H))→f138_s11 true (Addr.mk n1 0 none) (Addr.mk n6 0 none) (Addr.mk n14 0 none) [mk l'] w' K:=fun {w'} hc h'=>by
  rw [f138_s11_eq]
  simp only [BIf_true]
  refine ⟨_,bzero,h'.stA (k:=5) rfl rfl (by simp [hz]) (by simpa using one_HI _) fun w151 h151=>?_⟩
  have h151:St w0 w151 ((l',.deferred (some []))::(Dbl ov n22 n14 n6 n4 n1 fc s (splice zz 0 (HIcs {}))++H)):=h151
  rw [splice_all _ _ (by rw [hz]; rfl)] at h151
  show w151.heap[l']?=some (.deferred (some []))∧LeaveS P rs138 _ K [] (w151.putObj l' (.deferred none))
  refine ⟨h151.get (k:=0) rfl,?_⟩
  rw [leave_138a]
  have h152:=h151.put (k:=0) rfl (.deferred none)
  refine h152.ldA (k:=5) (i:=0) rfl (by simp [HIcs]) ?_
  have hK:=hK _ (hd h152)
  rw [if_pos hc,if_pos hc,if_pos hc] at hK
  exact hK
 cases hsh:s.2.2 with
 | true=>simp only [BIf_true]; exact err (.inl hsh) h
 | false=>
  simp only [BIf_false]
  refine h.ldA (k:=2) (i:=0) rfl (by simp [HIcs]) (check_ok (x:=s.1) h (.tail _ (List.mem_append_right _ hg)) ht fun w165 h165=>⟨_,rfl,?_⟩)
  cases hck:check s.1 with
  | false=>exact err (.inr hck) h165
  | true=>
   rw [f138_s11_eq]
   simp only [show ((if (true:Bool)=true then (0:Int) else 170) != 0)=false from rfl,BIf_false]
   rw [f138_s12_eq]
   have h166:=h165.drew
   refine h166.ldA (k:=2) (i:=0) rfl (by simp [HIcs]) ⟨some (Addr.mk n4 0 none),h166.cell (k:=3) rfl,(s.2.1:Nat),by rw [add_lit']; exact h166.cell (k:=4) rfl,?_⟩
   refine h166.stA (k:=5) rfl rfl (by simp [hz]) (fun v hv=>one_HI s.1 v (List.mem_of_mem_take (by simpa using hv))) fun w159 h159=>?_
   have h159:St w0 w159 ((l',.deferred (some []))::(Dbl ov n22 n14 n6 n4 n1 fc s (splice zz 0 (HIcs s.1))++H)):=h159
   rw [splice_all _ _ (by rw [hz]; rfl)] at h159
   refine ⟨by rw [add_lit']; exact h159.cell (k:=4) rfl,h159.cell (k:=3) rfl,?_⟩
   rw [f138_s13_eq]
   show w159.heap[l']?=some (.deferred (some []))∧LeaveS P rs138 _ K [] (w159.putObj l' (.deferred none))
   refine ⟨h159.get (k:=0) rfl,?_⟩
   rw [leave_138b]
   have h160:=h159.put (k:=0) rfl (.deferred none)
   refine h160.ldA (k:=5) (i:=0) rfl (by simp [HIcs]) ?_
   have hno:¬ (s.2.2=true∨check s.1=false):=by rw [hsh,hck]; simp
   have hK:=hK _ (hd h160)
   rw [if_neg hno,if_neg hno,if_neg hno] at hK
   exact hK
end dec
end Go.Fx.Tryz
namespace Go.Fx.Tryz
open Go Go.Fx Go.Fx.Ch
open Go.Proofs
set_option linter.all false
set_option maxRecDepth 20000
variable {w0 w:World} {H:HBL} {K:KT} {ov:Value} {bs:List Int} {n22 n14 n6 n4 n1:Nat}
def Told (K:KT) (w0:World) (H:HBL) (s:HI × Rd):Prop:=∀ w',St w0 w' H→K (.tuple [.agg (HIcs (if s.2.2=true∨check s.1=false then {} else s.1)).toArray,J (if s.2.2=true∨check s.1=false then 0 else (s.2.1:Nat)),J (if s.2.2=true∨check s.1=false then 170 else 0)].toArray) w'
theorem dbl_new {fc zz:List Value} {s:HI × Rd} (h22:w0.heap.size≤n22) (h14:w0.heap.size≤n14) (h6:w0.heap.size≤n6) (h4:w0.heap.size≤n4) (h1:w0.heap.size≤n1):∀ x∈Dbl ov n22 n14 n6 n4 n1 fc s zz,w0.heap.size≤x.1:=by
 intro x hx
 simp only [Dbl,List.mem_cons,List.not_mem_nil,or_false] at hx
 rcases hx with rfl | rfl | rfl | rfl | rfl <;> assumption
section
variable {gcs:List Value} {gt:TypeId} (hB:Bytes w0 H ov bs) (hg:(0,Cs gcs gt)∈H) (ht:Table gcs) (h22:w0.heap.size≤n22) (h14:w0.heap.size≤n14) (h6:w0.heap.size≤n6) (h4:w0.heap.size≤n4) (h1:w0.heap.size≤n1) {l':Nat} (hl':w0.heap.size≤l')
include hB hg ht h22 h14 h6 h4 h1 hl'
theorem dec_rd {zz fc:List Value} {s:HI × Rd} {n:Nat} (hs:s.2.1≤bs.length) (hn:n≤4) (h:St w0 w ((l',.deferred (some []))::(Dbl ov n22 n14 n6 n4 n1 fc s zz++H)))
  (hK:∀ w',St w0 w' ((l',.deferred (some []))::(Dbl ov n22 n14 n6 n4 n1 fc (s.1,(rd bs s.2 n).2) zz++H))→K (U (rd bs s.2 n).1) w'):CallL P 166 [.pointer (some (Addr.mk n4 0 none)),J n] w K:=by
 refine rd_ok (A:=(l',.deferred (some []))::Dbl ov n22 n14 n6 n4 n1 fc s zz) (k:=4) hB h (fun x hx=>?_) rfl hs hn fun w' h'=>hK w' h'
 rcases List.mem_cons.1 hx with rfl | hx
 ·exact hl'
 ·exact dbl_new h22 h14 h6 h4 h1 x hx
theorem dec_s6 {str:ByteArray} {fs rl:Nat} {zz:List Value} {s:HI × Rd} (hfs:fs < 32768) (hz:zz.length=15) (hs:s.2.1≤bs.length) (h:St w0 w ((l',.deferred (some []))::(Dbl ov n22 n14 n6 n4 n1 (Fcs str fs rl) s zz++H)))
  (hK:Told K w0 H (decV fs bs s)):f138_s6 (Addr.mk n14 0 none) (Addr.mk n6 0 none) (Addr.mk n1 0 none) 0 0 (Addr.mk n22 0 none) [mk l'] w K:=by
 rw [f138_s6_eq]
 refine h.ldA (k:=1) (i:=0) rfl (by simp [Fcs]) (has_ok (bit:=1024) h hfs (by omega) fun w115 h115=>⟨_,rfl,?_⟩)
 unfold decV at hK
 cases hb:has fs 1024 with
 | false=>
  rw [hb] at hK
  simp only [BIf_false]
  exact dec_end hB hg ht h22 h14 h6 h4 h1 hl' hz hs h115 hK
 | true=>
  rw [hb] at hK
  simp only [BIf_true]
  refine ⟨fun m e w'=>∃ i:Nat,i≤4∧m=4 - i∧e=Env.mk 93 [(69,J i),(6,.pointer (some (Addr.mk n14 0 none))),(5,.pointer (some (Addr.mk n6 0 none))),(2,.pointer (some (Addr.mk n1 0 none))),(3,J 0),(4,J 0)] [mk l']∧
   St w0 w' ((l',.deferred (some []))::(Dbl ov n22 n14 n6 n4 n1 (Fcs str fs rl) (decV1 bs i s) zz++H)),⟨4,0,by omega,rfl,rfl,h115⟩,?_⟩
  rintro m e w' ⟨i,hi,rfl,rfl,h'⟩
  show f138_lb7 ..
  rw [f138_lb7_eq,BIf_iff]
  refine ⟨fun hlt=>?_,fun hge=>?_⟩
  ·have hlt:i < 4:=by have:=of_decide_eq_true hlt; omega
   rw [f138_s8_eq]
   refine ⟨some (Addr.mk n4 0 none),h'.cell (k:=3) rfl,dec_rd hB hg ht h22 h14 h6 h4 h1 hl' (n:=4) (decV1_at hs i) (by omega) h' fun w131 h131=>⟨_,rfl,by omega,by omega,?_⟩⟩
   rw [add_lit',add_lit',Int.toNat_natCast,Nat.mul_one,Nat.zero_add]
   refine h131.st1 (k:=2) rfl (by simp [HIcs]; omega) rfl fun w133 h133=>?_
   have h133:St w0 w133 ((l',.deferred (some []))::(n22,Cs (Fcs str fs rl) 214)::(n14,Cs ((HIcs (decV1 bs i s).1).set (11+i) (U (rd bs (decV1 bs i s).2 4).1)) 119)::(n6,Cs [.pointer (some (Addr.mk n4 0 none))] 209)::(n4,Cs (Rdc ov (rd bs (decV1 bs i s).2 4).2) 211)::(n1,Cs zz 119)::H):=h133
   rw [setV_cs _ i hlt] at h133
   rw [f138_s9_eq]
   exact ⟨4 - (i+1),by omega,i+1,by omega,rfl,by rw [wrap_i64 (by omega) (by omega)]; rfl,h133⟩
  ·have:i=4:=by have:=of_decide_eq_false hge; omega
   subst this
   exact dec_end hB hg ht h22 h14 h6 h4 h1 hl' hz (decV1_at hs 4) h' hK
theorem dec_s5 {str:ByteArray} {fs rl:Nat} {zz:List Value} {s:HI × Rd} (hfs:fs < 32768) (hz:zz.length=15) (hs:s.2.1≤bs.length) (h:St w0 w ((l',.deferred (some []))::(Dbl ov n22 n14 n6 n4 n1 (Fcs str fs rl) s zz++H)))
  (hK:Told K w0 H (decV fs bs (decC fs bs s))):f138_s5 (Addr.mk n14 0 none) (Addr.mk n6 0 none) (Addr.mk n1 0 none) 0 0 (Addr.mk n22 0 none) [mk l'] w K:=by
 rw [f138_s5_eq]
 refine h.ldA (k:=1) (i:=0) rfl (by simp [Fcs]) (has_ok (bit:=512) h hfs (by omega) fun w115 h115=>⟨_,rfl,?_⟩)
 have hd:=decC_at (fs:=fs) hs
 unfold decC at hK hd
 cases hb:has fs 512 with
 | false=>
  rw [hb] at hK
  simp only [BIf_false]
  exact dec_s6 hB hg ht h22 h14 h6 h4 h1 hl' hfs hz hs h115 hK
 | true=>
  rw [hb] at hK hd
  simp only [BIf_true]
  refine ⟨some (Addr.mk n4 0 none),h115.cell (k:=3) rfl,dec_rd hB hg ht h22 h14 h6 h4 h1 hl' (n:=4) hs (by omega) h115 fun w131 h131=>⟨_,rfl,?_⟩⟩
  rw [add_lit']
  refine h131.st1 (k:=2) rfl (by simp [HIcs]) rfl fun w133 h133=>?_
  exact dec_s6 hB hg ht h22 h14 h6 h4 h1 hl' hfs hz hd h133 hK
theorem dec_s4 {str:ByteArray} {fs rl:Nat} {zz:List Value} {s:HI × Rd} (hfs:fs < 32768) (hz:zz.length=15) (hs:s.2.1≤bs.length) (h:St w0 w ((l',.deferred (some []))::(Dbl ov n22 n14 n6 n4 n1 (Fcs str fs rl) s zz++H)))
  (hK:Told K w0 H (decV fs bs (decC fs bs (decA fs bs s)))):f138_s4 (Addr.mk n14 0 none) (Addr.mk n6 0 none) (Addr.mk n1 0 none) 0 0 (Addr.mk n22 0 none) [mk l'] w K:=by
 rw [f138_s4_eq]
 refine h.ldA (k:=1) (i:=0) rfl (by simp [Fcs]) (has_ok (bit:=256) h hfs (by omega) fun w115 h115=>⟨_,rfl,?_⟩)
 have hd:=decA_at (fs:=fs) hs
 unfold decA at hK hd
 cases hb:has fs 256 with
 | false=>
  rw [hb] at hK
  simp only [BIf_false]
  exact dec_s5 hB hg ht h22 h14 h6 h4 h1 hl' hfs hz hs h115 hK
 | true=>
  rw [hb] at hK hd
  simp only [BIf_true]
  refine ⟨some (Addr.mk n4 0 none),h115.cell (k:=3) rfl,dec_rd hB hg ht h22 h14 h6 h4 h1 hl' (n:=4) hs (by omega) h115 fun w131 h131=>⟨_,rfl,?_⟩⟩
  rw [add_lit']
  refine h131.st1 (k:=2) rfl (by simp [HIcs]) rfl fun w133 h133=>?_
  exact dec_s5 hB hg ht h22 h14 h6 h4 h1 hl' hfs hz hd h133 hK
end
theorem dec_s1 {gcs:List Value} {gt:TypeId} (hB:Bytes w0 H ov bs) (hg:(0,Cs gcs gt)∈H) (ht:Table gcs) (h22:w0.heap.size≤n22) (h14:w0.heap.size≤n14) (h6:w0.heap.size≤n6) (h4:w0.heap.size≤n4) (h1:w0.heap.size≤n1)
  {str:ByteArray} {fs rl:Nat} {zz:List Value} {s:HI × Rd} (hfs:fs < 32768) (hz:zz.length=15) (hs:s.2.1≤bs.length) (h:St w0 w (Dbl ov n22 n14 n6 n4 n1 (Fcs str fs rl) s zz++H))
  (hK:Told K w0 H (decV fs bs (decC fs bs (decA fs bs (decI fs bs 8 s))))):f138_s1 (Addr.mk n6 0 none) (Addr.mk n22 0 none) (Addr.mk n14 0 none) (Addr.mk n1 0 none) 0 0 w K:=by
 rw [f138_s1_eq]
 refine fieldsOf_ok h fun w42 b1 b2 hb1 hb2 h42=>⟨_,rfl,?_⟩
 refine range_fields (n:=n14) (m:=n14) h42 (.tail _ (.head _)) (.head _)
  (fun i X=>X=(b2,Cs [.pointer (some (Addr.mk n14 0 none))] 219)::(b1,Cs [.pointer (some (Addr.mk n14 0 none))] 219)::(Dbl ov n22 n14 n6 n4 n1 (Fcs str fs rl) (decI fs bs i s) zz++H)) rfl ?_ ?_
 ·rintro l l' q o R post i W X hi rfl hs' hl hl' hq hpost
  have hat:=decI_at (fs:=fs) hs i
  generalize hy:decI fs bs i s=y at *
  rw [f138_rd2_eq]
  refine ⟨rfl,?_⟩
  rw [f138_ra2_eq]
  obtain ⟨z3,hz3,hz3l⟩:=z222
  rw [hz3]
  refine hs'.newC fun n51 w52 hn51 h52=>?_
  refine h52.stA (k:=0) rfl rfl (by simp [hz3l]) (by simp [Pcs,Value.oneCell']) fun w53 h53=>?_
  have h53:St w0 w53 ((n51,Cs (splice z3 0 (Pcs n14 n14 (flds.getD i (0,0)))) 222)::(l,.loop (R .ready none))::(l',.deferred (some []))::(q,o)::(b2,Cs [.pointer (some (Addr.mk n14 0 none))] 219)::(b1,Cs [.pointer (some (Addr.mk n14 0 none))] 219)::(Dbl ov n22 n14 n6 n4 n1 (Fcs str fs rl) y zz++H)):=h53
  rw [splice_all _ _ (by rw [hz3l]; rfl)] at h53
  refine ⟨h53.get (k:=1) rfl,?_⟩
  have h54:=h53.put (k:=1) rfl (.loop (R .busy none))
  rw [f138_s3_eq]
  refine h54.ldA (k:=6) (i:=0) rfl (by simp [Fcs]) ?_
  refine ⟨(flds.getD i (0,0)).1,h54.cell (k:=0) rfl,has_ok h54 hfs (flds_bit i hi).1 fun w60 h60=>⟨_,rfl,?_⟩⟩
  have hdec:decI fs bs (i+1) s=decS fs bs i y:=by rw [← hy]; rfl
  have ebit:=bitF_is i hi
  rw [BIf_iff]
  refine ⟨fun hb=>?_,fun hb=>?_⟩
  ·have hb:has fs (bitF i)=false:=by rw [← ebit]; simpa using hb
   refine ⟨h60.get (k:=1) rfl,?_⟩
   have h61:=h60.put (k:=1) rfl (.loop (R .ready none))
   refine hpost _ _ ?_ (h61.tail hn51)
   rw [hdec]
   unfold decS
   rw [hb]
   rfl
  ·have hb:has fs (bitF i)=true:=by rw [← ebit]; simpa using hb
   refine ⟨(flds.getD i (0,0)).1,h60.cell (k:=0) rfl,?_⟩
   have h61:=h60.drew
   have hA:∀ x∈((n51,Cs (Pcs n14 n14 (flds.getD i (0,0))) 222)::(l,.loop (R .busy none))::(l',.deferred (some []))::(q,o)::(b2,Cs [.pointer (some (Addr.mk n14 0 none))] 219)::(b1,Cs [.pointer (some (Addr.mk n14 0 none))] 219)::Dbl ov n22 n14 n6 n4 n1 (Fcs str fs rl) y zz),w0.heap.size≤x.1:=fun x hx=>by
    simp only [List.mem_cons] at hx
    rcases hx with rfl | rfl | rfl | rfl | rfl | rfl | hx
    all_goals first | assumption | skip
    exact dbl_new h22 h14 h6 h4 h1 x hx
   have go:∀ m:Nat,m=(if i=7 then 2 else 1)→∃ p63:Option Addr,w60.drew.cell? ((Addr.mk n51 0 none).add 1)=some (Value.pointer p63)∧∃ p64:Option Addr,w60.drew.cell? (Addr.mk n6 0 none)=some (Value.pointer p64)∧CallL P 166 [(Value.pointer p64),J m] w60.drew (fun r65 w66=>∃ x67:Int,r65=(Value.int .u32 x67)∧w66.cell? ((Addr.mk n51 0 none).add 1)=some (Value.pointer p63)∧
     optS p63 (fun a68=>St1 a68 (Value.int .i64 (IntKind.wrap .i64 x67)) w66 (fun w69=>w69.heap[l]?=some (.loop (R .busy none))∧post none (w69.putObj l (.loop (R .ready none)))))):=by
    intro m hm
    refine ⟨some (Addr.mk n14 (flds.getD i (0,0)).2 none),by rw [add_lit']; exact h61.cell (k:=0) rfl,some (Addr.mk n4 0 none),h61.cell (k:=8) rfl,?_⟩
    refine rd_ok (k:=9) hB h61 hA rfl hat (by rw [hm]; split <;> omega) fun w66 h66=>⟨_,rfl,by rw [add_lit']; exact h66.cell (k:=0) rfl,?_⟩
    have hr:=rd_range hB.byte y.2 (n:=m) (by rw [hm]; split <;> omega)
    rw [wrap_i64 (by omega) (by omega)]
    refine h66.st1 (k:=7) rfl (by rw [HIcs_len]; exact (flds_bit i hi).2) rfl fun w69 h69=>?_
    refine ⟨h69.get (k:=1) rfl,?_⟩
    have h70:=h69.put (k:=1) rfl (.loop (R .ready none))
    refine hpost _ _ rfl ?_
    have h71:=h70.tail hn51
    have e:decI fs bs (i+1) s=(setF y.1 i (rd bs y.2 m).1,(rd bs y.2 m).2):=by
     rw [hdec]
     unfold decS
     rw [if_pos hb,hm]
    rw [e]
    show St w0 _ ((l,.loop (R .ready none))::(l',.deferred (some []))::(q,o)::(b2,Cs [.pointer (some (Addr.mk n14 0 none))] 219)::(b1,Cs [.pointer (some (Addr.mk n14 0 none))] 219)::(n22,Cs (Fcs str fs rl) 214)::(n14,Cs (HIcs (setF y.1 i (rd bs y.2 m).1)) 119)::_)
    rw [← setF_cs _ i hi]
    exact h71
   rw [BIf_iff]
   refine ⟨fun hc=>go 2 ?_,fun hc=>go 1 ?_⟩
   ·have hc:(((flds.getD i (0,0)).1:Nat):Int)=128:=by simpa using hc
    rw [ebit,bitF_128 i hi] at hc
    rw [if_pos hc]
   ·have hc:¬ (((flds.getD i (0,0)).1:Nat):Int)=128:=by simpa using hc
    rw [ebit,bitF_128 i hi] at hc
    rw [if_neg hc]
 ·rintro W X l' hl' rfl hs'
  show f138_rn2 ..
  rw [f138_rn2_eq]
  have hs2:St w0 W ((l',.deferred (some []))::(Dbl ov n22 n14 n6 n4 n1 (Fcs str fs rl) (decI fs bs 8 s) zz++H)):=by
   have h1:St w0 W ((b2,Cs [.pointer (some (Addr.mk n14 0 none))] 219)::(b1,Cs [.pointer (some (Addr.mk n14 0 none))] 219)::(l',.deferred (some []))::(Dbl ov n22 n14 n6 n4 n1 (Fcs str fs rl) (decI fs bs 8 s) zz++H)):=hs'.perm (perm_by fun c=>by simp only [List.map_append,List.map_cons,List.sum_append,List.sum_cons]; omega)
   exact (h1.tail hb2).tail hb1
  exact dec_s4 hB hg ht h22 h14 h6 h4 h1 hl' hfs hz (decI_at hs 8) hs2 hK
theorem decode_ok {gcs:List Value} {gt:TypeId} (h:St w0 w H) (hB:Bytes w0 H ov bs) (hg:(0,Cs gcs gt)∈H) (ht:Table gcs)
  (hK:∀ w',St w0 w' H→K (.tuple [.agg (HIcs (decR bs).1).toArray,J (decR bs).2.1,J (decR bs).2.2].toArray) w'):CallL P 138 [ov] w K:=by
 obtain ⟨sa,sc,rfl⟩:=(hB.row w h).form
 refine f138_ok _ _ _ _ _ ?_
 obtain ⟨z,hz,hzl⟩:=z119
 obtain ⟨y,hy,hyl⟩:=z209
 obtain ⟨f,hf,hfl⟩:=z214
 rw [f138_eq,hz,hy,hf]
 refine h.newC fun n1 w2 hn1 h2=>⟨_,breader _ _ _,h2.newC fun n4 w5 hn4 h5=>h5.newC fun n6 w7 hn6 h7=>?_⟩
 refine h7.st1 (k:=0) rfl (by simp [hyl]) rfl fun w8 h8=>?_
 have hy1:∀ v,y.set 0 v=[v]:=fun v=>by
  cases y with
  | nil=>simp at hyl
  | cons a r=>simp at hyl; subst hyl; rfl
 have h8:St w0 w8 ((n6,Cs (y.set 0 (.pointer (some (Addr.mk n4 0 none)))) 209)::(n4,Cs (Rdc (.slice sa bs.length sc) (0,false)) 211)::(n1,Cs z 119)::H):=h8
 rw [hy1] at h8
 refine ⟨some (Addr.mk n4 0 none),h8.cell (k:=0) rfl,?_⟩
 refine rd_ok (A:=[(n6,Cs [.pointer (some (Addr.mk n4 0 none))] 209),(n4,Cs (Rdc (.slice sa bs.length sc) (0,false)) 211),(n1,Cs z 119)]) (k:=1) (n:=1) hB h8 (fun x hx=>?_) rfl (Nat.zero_le _) (by omega) fun w11 h11=>⟨_,rfl,?_⟩
 ·simp only [List.mem_cons,List.not_mem_nil,or_false] at hx
  rcases hx with rfl | rfl | rfl <;> assumption
 have hr:=rd_range hB.byte (0,false) (n:=1) (by omega)
 generalize ho:rd bs (0,false) 1=o at *
 rw [wrap_i64 (by omega) (by omega)]
 refine ⟨_,bop _,h11.newC fun n14 w15 hn14 h15=>?_⟩
 refine h15.stA (k:=0) rfl rfl (by simp [hzl]) (by simpa using one_HI _) fun w16 h16=>?_
 have h16:St w0 w16 ((n14,Cs (splice z 0 (HIcs { op:=o.1 })) 119)::(n6,Cs [.pointer (some (Addr.mk n4 0 none))] 209)::(n4,Cs (Rdc (.slice sa bs.length sc) o.2) 211)::(n1,Cs z 119)::H):=h16
 rw [splice_all _ _ (by rw [hzl]; rfl)] at h16
 refine ⟨o.1,h16.cell (k:=0) rfl,formOf_ok h16 (.tail _ (.tail _ (.tail _ (.tail _ hg)))) ht fun w19 str h19=>⟨_,_,rfl,h19.newC fun n22 w23 hn22 h23=>?_⟩⟩
 refine h23.stA (k:=0) rfl rfl (by simp [hfl]) (by simp [Fcs,Value.oneCell']) fun w24 h24=>?_
 generalize hop:(if 1≤o.1∧o.1 < 46 then o.1 else 0)=op at *
 have h24:St w0 w24 ((n22,Cs (splice f 0 (Fcs str (formN op).1 (formN op).2)) 214)::(n14,Cs (HIcs { op:=o.1 }) 119)::(n6,Cs [.pointer (some (Addr.mk n4 0 none))] 209)::(n4,Cs (Rdc (.slice sa bs.length sc) o.2) 211)::(n1,Cs z 119)::H):=h24
 rw [splice_all _ _ (by rw [hfl]; rfl)] at h24
 have h24:St w0 w24 (Dbl (.slice sa bs.length sc) n22 n14 n6 n4 n1 (Fcs str (formN op).1 (formN op).2) ({ op:=o.1 },o.2) z++H):=h24
 have err:(¬ (1≤o.1∧o.1 < 46)∨o.2.2=true)→f138_s0 true (Addr.mk n1 0 none) (Addr.mk n6 0 none) (Addr.mk n22 0 none) (Addr.mk n14 0 none) 0 0 w24 K:=fun hc=>by
  rw [f138_s0_eq]
  simp only [BIf_true]
  refine ⟨_,bzero,h24.stA (k:=4) rfl rfl (by simp [hzl]) (by simpa using one_HI _) fun w33 h33=>?_⟩
  have h33:St w0 w33 (Dbl (.slice sa bs.length sc) n22 n14 n6 n4 n1 (Fcs str (formN op).1 (formN op).2) ({ op:=o.1 },o.2) (splice z 0 (HIcs {}))++H):=h33
  rw [splice_all _ _ (by rw [hzl]; rfl)] at h33
  refine h33.ldA (k:=4) (i:=0) rfl (by simp [HIcs]) ?_
  have hK:=hK w33 (h33.sub (dbl_new hn22 hn14 hn6 hn4 hn1))
  have e:decR bs=({},0,170):=by
   unfold decR Ch.decode
   rw [ho]
   simp only
   rw [if_pos hc]
  rw [e] at hK
  exact hK
 rw [BIf_iff]
 refine ⟨fun hb=>err (.inl (by simp at hb; omega)),fun hb=>?_⟩
 have hin:1≤o.1∧o.1 < 46:=by simpa using hb
 rw [if_pos hin] at hop
 subst hop
 refine ⟨some (Addr.mk n4 0 none),h24.cell (k:=2) rfl,o.2.2,by rw [add_lit']; exact h24.cell (k:=3) rfl,?_⟩
 cases hsh:o.2.2 with
 | true=>exact err (.inr hsh)
 | false=>
  rw [f138_s0_eq]
  simp only [BIf_false]
  have hat:o.2.1≤bs.length:=by rw [← ho]; exact rd_at (Nat.zero_le _)
  refine dec_s1 hB hg ht hn22 hn14 hn6 hn4 hn1 (forms_small _).1 hzl hat h24 fun w' h'=>?_
  have hK:=hK w' h'
  unfold decR Ch.decode at hK
  rw [ho] at hK
  simp only at hK
  rw [if_neg (by rw [hsh]; simp; exact hin)] at hK
  split at hK
  ·rename_i x n hx
   split at hx
   ·cases hx
   ·rename_i hno
    simp only [Option.some.injEq,Prod.mk.injEq] at hx
    obtain ⟨rfl,rfl⟩:=hx
    rw [if_neg hno,if_neg hno,if_neg hno]
    exact hK
  ·rename_i hx
   split at hx
   ·rename_i hyes
    rw [if_pos hyes,if_pos hyes,if_pos hyes]
    exact hK
   ·cases hx
end Go.Fx.Tryz
namespace Go.Fx.Tryz
open Go Go.Fx Go.Fx.Ch
open Go.Proofs
set_option linter.all false
set_option maxRecDepth 20000
variable {w0 w:World} {H:HBL} {K:KT} {ov:Value} {bs:List Int}
theorem ends_ok (h:St w0 w H) {x:HI} (hK:∀ w',St w0 w' H→K (.bool (endsI x)) w'):CallL P 139 [.agg (HIcs x).toArray] w K:=by
 refine f139_ok _ _ _ ?_
 rw [f139_eq]
 refine h.newC fun n1 w2 hn1 h2=>⟨x.op,h2.cell (k:=0) rfl,?_⟩
 have hK:=hK w2 (h2.tail hn1)
 unfold endsI at hK
 cases h40:(x.op == 40) <;> rw [h40] at hK <;> simp only [BIf_true,BIf_false,f139_s0_eq]
 ·exact ⟨x.op,h2.cell (k:=0) rfl,hK⟩
 ·exact hK
theorem slice38 {a:Addr} {n c k:Nat} (hk:k < n) (hc:n≤c) (wq:World):(Instr.sliceAt 38 (Value.slice (some a) n c) (some (Value.int .i64 (k:Int))) none none).run P wq=.ok (.slice (some (a.add k)) (n - k) (c - k)) wq:=by
 rw [run_sliceAt_slice _ 38 _ _ _ _ (by kernel_rfl),run_slice_l _ 38 (some a) n c (by kernel_rfl) .i64 (k:Int) (by omega) (by omega)]
 have:(sizeOf (P.elem 38)).run P wq=.ok 1 wq:=by kernel_rfl
 rw [this]
 have hne:¬ c=k:=by omega
 simp [Result.andThen,sliced,hne]
theorem Bytes.drop {a:Addr} {c k:Nat} (hB:Bytes w0 H (.slice (some a) bs.length c) bs) (hk:k < bs.length):Bytes w0 H (.slice (some (a.add k)) (bs.length - k) (c - k)) (bs.drop k):=by
 refine ⟨fun w' h'=>?_,fun b hb=>hB.byte b (List.mem_of_mem_drop hb),by rw [List.length_drop]; have:=hB.len; omega,fun a' n' c' he=>?_⟩
 ·have hr:=hB.row w' h'
  rcases hr.2 with ⟨h1,_⟩ | ⟨ad,cp,h1,h2⟩
  ·cases h1
  ·injection h1 with h1 h3 h4
   injection h1 with h1
   subst h1
   refine ⟨by simp,.inr ⟨_,_,by rw [List.length_drop],fun i hi=>?_⟩⟩
   have hi:i < bs.length - k:=by simpa using hi
   rw [add_add',h2 _ (by omega),List.map_drop,List.getElem?_drop]
 ·injection he with _ h3 h4
  have:=hB.cap _ _ _ rfl
  omega
def Pl (p:HI × Nat):List Value:=HIcs p.1++[J p.2]
theorem Pl_len (p:HI × Nat):(Pl p).length=16:=rfl
theorem bplaced (x:HI) (n:Int) (wq:World):(Instr.build 151 [(0,.agg (HIcs x).toArray),(1,J n)].toArray).run P wq=.ok (.agg (HIcs x++[J n]).toArray) wq:=by kernel_rfl
theorem Row.ldPart {size m:Nat} {n:Nat} {xs:List Value} {a:Addr} {c:Nat} (h:Row w size (.slice (some a) n c) n xs) {i:Nat} (hi:i < n) (hm:m≤size) {K:Array Value→Prop} (hK:K ((xs.drop (i * size)).take m).toArray):LdA m (a.add (i * size)) w K:=by
 rcases h.2 with ⟨h0,_⟩ | ⟨ad,cp,h1,h2⟩
 ·cases h0
 ·injection h1 with h1 _ _
  injection h1 with h1
  subst h1
  have hle:i * size+size≤n * size:=by rw [← Nat.succ_mul]; exact Nat.mul_le_mul_right _ hi
  refine ⟨_,by simp [h.1]; omega,fun j hj=>?_,hK⟩
  rw [add_add',h2 _ (by omega)]
  simp [hj]
theorem Pl_at (out:List (HI × Nat)) {i:Nat} (hi:i < out.length):(((out.map Pl).flatten.drop (i * 16)).take 15)=HIcs out[i].1:=by
 have h:=flat_at Pl 16 Pl_len out hi
 have:(((out.map Pl).flatten.drop (i * 16)).take 15)=(((out.map Pl).flatten.drop (i * 16)).take 16).take 15:=by rw [List.take_take]; rfl
 rw [this,h]
 rfl
theorem lastEnds_at {out:List (HI × Nat)} (h:0 < out.length):lastEnds out=endsI (out[out.length - 1]'(by omega)).1:=by
 unfold lastEnds
 rw [List.getLast?_eq_getElem?,List.getElem?_eq_getElem (by omega)]
theorem one_Pl (p:HI × Nat):∀ v∈Pl p,v.oneCell'=true:=by simp [Pl,HIcs,Value.oneCell']
theorem all_ok {gcs:List Value} {gt:TypeId} (h:St w0 w H) (hB:Bytes w0 H ov bs) (hg:(0,Cs gcs gt)∈H) (ht:Table gcs)
  (hF:∀ w' z,St w0 w' H→allF bs=none→K (.tuple [.slice none 0 0,J z,.bool false].toArray) w')
  (hK:∀ w' a c L out,allF bs=some out→out.length≤bs.length→St w0 w' (L++H)→New w0 L→SlO 16 151 (.slice a out.length c) out.length (out.map Pl).flatten L→K (.tuple [.slice a out.length c,J 0,.bool true].toArray) w'):CallL P 98 [ov] w K:=by
 obtain ⟨sa,sc,rfl⟩:=(hB.row w h).form
 refine f98_ok _ _ _ _ _ ?_
 obtain ⟨z,hz,hzl⟩:=z119
 rw [f98_eq,f98_s0_eq,f98_s1_eq,BIf_iff]
 refine ⟨fun hgt=>hF w 0 h (by unfold allF; rw [if_pos (by have:=of_decide_eq_true hgt; omega)]),fun hle=>?_⟩
 have hle:bs.length≤65536:=by have:=of_decide_eq_false hle; omega
 have hall:allF bs=allL bs (bs.length+1) 0 []:=by unfold allF; rw [if_neg (by omega)]
 rw [f98_s2_eq,f98_s3_eq,f98_s4_eq]
 refine ⟨fun m e w'=>∃ (at_ f:Nat) (out:List (HI × Nat)) (oa:Option Addr) (oc:Nat) (L:HBL),at_≤bs.length∧m=bs.length - at_∧bs.length - at_ < f∧allF bs=allL bs f at_ out∧out.length≤at_∧
   e=Env.mk 69 [(0,.slice sa bs.length sc),(5,.slice oa out.length oc),(6,J at_),(2,.slice none 0 0),(3,J 0),(4,.bool false)] []∧St w0 w' (L++H)∧New w0 L∧SlO 16 151 (.slice oa out.length oc) out.length (out.map Pl).flatten L,
  ⟨bs.length,0,bs.length+1,[],none,0,[],by omega,rfl,by omega,hall,by simp,rfl,h,New.nil w0,SlO.nil 16 151⟩,?_⟩
 rintro m e w' ⟨at_,f,out,oa,oc,L,hat,rfl,hf,hal,hol,rfl,hs,hN,hS⟩
 show f98_lb5 ..
 rw [f98_lb5_eq,BIf_iff]
 obtain ⟨f,rfl⟩:∃ g,f=g+1:=⟨f - 1,by omega⟩
 have last:∀ {w2:World} {X:HBL} {Q:KT},0 < out.length→St w0 w2 X→(∀ x∈L,x∈X)→(∀ w3,St w0 w3 X→Q (.bool (lastEnds out)) w3)→
   ∃ a,oa=some a∧LdA 15 (a.add ((out.length - 1) * 16)) w2 (fun cs=>CallL P 139 [.agg cs] w2 Q):=by
  intro w2 X Q hpos h2 hX hQ
  have hrow:Row w2 16 (.slice oa out.length oc) out.length (out.map Pl).flatten:=hS.row fun u hu=>h2.has _ _ (hX u hu)
  obtain ⟨a,c,hac,_⟩:=hrow.ldA (i:=out.length - 1) (by omega)
  injection hac with hac _ _
  subst hac
  refine ⟨a,rfl,Row.ldPart hrow (i:=out.length - 1) (by omega) (by omega) ?_⟩
  rw [Pl_at out (by omega)]
  refine ends_ok h2 fun w3 h3=>?_
  rw [← lastEnds_at hpos]
  exact hQ w3 h3
 refine ⟨fun hlt=>?_,fun hge=>?_⟩
 ·have hlt:at_ < bs.length:=by have:=of_decide_eq_true hlt; omega
  rw [f98_s6_eq,hz]
  obtain ⟨a0,rfl⟩:∃ a,sa=some a:=by
   rcases (hB.row w h).2 with ⟨h0,h1⟩ | ⟨ad,cp,h1,_⟩
   ·omega
   ·injection h1 with h1 _ _; exact ⟨ad,h1⟩
  have hcap:=hB.cap _ _ _ rfl
  refine ⟨_,_,_,fun wq=>slice38 hlt hcap wq,?_⟩
  have hBd:Bytes w0 (L++H) (.slice (some (a0.add at_)) (bs.length - at_) (sc - at_)) (bs.drop at_):=by
   have hb:=hB.drop hlt
   exact ⟨fun w2 h2=>hb.row w2 (h2.sub hN),hb.byte,hb.len,hb.cap⟩
  refine decode_ok hs hBd (List.mem_append_right _ hg) ht fun w34 h34=>⟨_,_,_,rfl,h34.newC fun n38 w39 hn38 h39=>?_⟩
  refine h39.stA (k:=0) rfl rfl (by simp [hzl]) (by simpa using one_HI _) fun w40 h40=>?_
  have h40:St w0 w40 ((n38,Cs (splice z 0 (HIcs (decR (bs.drop at_)).1)) 119)::(L++H)):=h40
  rw [splice_all _ _ (by rw [hzl]; rfl)] at h40
  have hdone:∀ {w2:World},St w0 w2 ((n38,Cs (HIcs (decR (bs.drop at_)).1) 119)::(L++H))→St w0 w2 H:=fun h2=>(h2.tail hn38).sub hN
  cases hd:Ch.decode (bs.drop at_) with
  | none=>
   have he:decR (bs.drop at_)=({},0,170):=by unfold decR; rw [hd]
   rw [he] at h40 hdone ⊢
   simp only [show ((170:Int) != 0)=true from rfl,BIf_true]
   rw [f98_s7_eq]
   simp only [BIf_true]
   refine hF _ _ (hdone h40) ?_
   rw [hal]
   simp only [allL,if_pos hlt,hd]
  | some p=>
   obtain ⟨x,n⟩:=p
   have he:decR (bs.drop at_)=(x,(n:Int),0):=by unfold decR; rw [hd]
   have hnl:=decode_len hd
   rw [List.length_drop] at hnl
   rw [he] at h40 hdone ⊢
   simp only [show ((0:Int) != 0)=false from rfl,BIf_false]
   have bad:lastEnds out=true→∀ {w2:World} {Y:YT},St w0 w2 ((n38,Cs (HIcs x) 119)::(L++H))→f98_s7 true (some a0) bs.length sc oa out.length oc at_ none 0 0 0 false n (Addr.mk n38 0 none) w2 K Y:=fun hl {w2 Y} h2=>by
    rw [f98_s7_eq]
    simp only [BIf_true]
    refine hF _ _ (hdone h2) ?_
    rw [hal]
    simp only [allL,if_pos hlt,hd,if_pos hl]
   have good:lastEnds out=false→∀ {w2:World},St w0 w2 ((n38,Cs (HIcs x) 119)::(L++H))→f98_s7 false (some a0) bs.length sc oa out.length oc at_ none 0 0 0 false n (Addr.mk n38 0 none) w2 K (fun e' w'=>∃ m,m < bs.length - at_∧∃ (at_ f:Nat) (out:List (HI × Nat)) (oa:Option Addr) (oc:Nat) (L:HBL),at_≤bs.length∧m=bs.length - at_∧bs.length - at_ < f∧allF bs=allL bs f at_ out∧out.length≤at_∧
     e'=Env.mk 69 [(0,.slice (some a0) bs.length sc),(5,.slice oa out.length oc),(6,J at_),(2,.slice none 0 0),(3,J 0),(4,.bool false)] []∧St w0 w' (L++H)∧New w0 L∧SlO 16 151 (.slice oa out.length oc) out.length (out.map Pl).flatten L):=fun hl {w2} h2=>by
    rw [f98_s7_eq]
    simp only [BIf_false]
    rw [f98_s8_eq]
    refine h2.ldA (k:=0) (i:=0) rfl (by simp [HIcs]) ⟨_,bplaced x _,⟨rfl,trivial⟩,h2.newC fun n63 w61 hn63 h61=>?_⟩
    have h61:St w0 w61 ((n63,Cs (Pl (x,at_)) 151)::(n38,Cs (HIcs x) 119)::(L++H)):=h61
    have h62:St w0 w61 ([(n63,Cs (Pl (x,at_)) 151)]++(L++H)):=(h61.perm (List.Perm.swap _ _ _)).tail hn38
    obtain ⟨g,cap,w65,L',hr,hS',hs',hN'⟩:=St.append (P:=P) 147 147 151 Tryz.t151 (.agg (Pl ({},0)).toArray) 16 104 Tryz.underlying147 (by kernel_rfl) rfl rfl rfl rfl (by omega) h62 hS hN (j:=0) rfl (Pl_len _) (one_Pl _) (by simp [maxLen]; omega) (by omega)
    refine ⟨_,_,_,w65,hr,?_⟩
    have hs2:St w0 w65 (L'++H):=(hs':St w0 w65 ((n63,Cs (Pl (x,at_)) 151)::(L'++H))).tail hn63
    refine ⟨bs.length - (at_+n),by omega,at_+n,f,out++[(x,at_)],some ⟨g,0,none⟩,cap,L',by omega,rfl,by omega,?_,by simp; omega,?_,hs2,hN',?_⟩
    ·rw [hal]
     simp only [allL,if_pos hlt,hd,hl,Bool.false_eq_true,if_false]
    ·rw [wrap_i64 (by omega) (by omega)]; simp
    ·simpa using hS'
   rw [BIf_iff]
   refine ⟨fun hpos=>?_,fun hzero=>good ?_ h40⟩
   ·have hpos:0 < out.length:=by have:=of_decide_eq_true hpos; omega
    obtain ⟨a,rfl,hld⟩:=last (Q:=fun r68 w69=>∃ b70:Bool,r68=.bool b70∧f98_s7 b70 (some a0) bs.length sc oa out.length oc at_ none 0 0 0 false n (Addr.mk n38 0 none) w69 K (fun e' w'=>∃ m,m < bs.length - at_∧∃ (at_ f:Nat) (out:List (HI × Nat)) (oa:Option Addr) (oc:Nat) (L:HBL),at_≤bs.length∧m=bs.length - at_∧bs.length - at_ < f∧allF bs=allL bs f at_ out∧out.length≤at_∧
     e'=Env.mk 69 [(0,.slice (some a0) bs.length sc),(5,.slice oa out.length oc),(6,J at_),(2,.slice none 0 0),(3,J 0),(4,.bool false)] []∧St w0 w' (L++H)∧New w0 L∧SlO 16 151 (.slice oa out.length oc) out.length (out.map Pl).flatten L)) hpos h40 (fun u hu=>.tail _ (List.mem_append_left _ hu)) (fun w69 h69=>⟨_,rfl,by
      cases hl:lastEnds out with
      | true=>exact bad hl h69
      | false=>exact good hl h69⟩)
    rw [wrap_i64 (by omega) (by omega)]
    refine ⟨by omega,by omega,?_⟩
    rw [show Int.toNat ((out.length:Int) - 1)=out.length - 1 by omega]
    exact hld
   ·have:out=[]:=by
     have:=of_decide_eq_false hzero
     exact List.eq_nil_of_length_eq_zero (by omega)
    subst this; rfl
 ·have:at_=bs.length:=by have:=of_decide_eq_false hge; omega
  subst this
  rw [f98_s9_eq,BIf_iff]
  have fail:lastEnds out=false→∀ {w2:World},St w0 w2 (L++H)→f98_s10 true sa bs.length sc oa out.length oc w2 K:=fun hl {w2} h2=>by
   rw [f98_s10_eq]
   simp only [BIf_true]
   refine hF _ _ (h2.sub hN) ?_
   rw [hal]
   simp [allL,hl]
  refine ⟨fun hz0=>fail ?_ hs,fun hpos=>?_⟩
  ·have:out=[]:=List.eq_nil_of_length_eq_zero (by simpa using hz0)
   subst this; rfl
  ·have hpos:0 < out.length:=by have:¬ out.length=0:=by simpa using hpos
                                omega
   obtain ⟨a,rfl,hld⟩:=last (Q:=fun r79 w80=>∃ b81:Bool,r79=.bool b81∧f98_s10 (!b81) sa bs.length sc oa out.length oc w80 K) hpos hs (fun u hu=>List.mem_append_left _ hu) (fun w80 h80=>⟨_,rfl,by
    cases hl:lastEnds out with
    | false=>exact fail hl h80
    | true=>
     rw [Bool.not_true,f98_s10_eq]
     simp only [BIf_false]
     rw [f98_s11_eq]
     exact hK w80 oa oc L out (by rw [hal]; simp [allL,hl]) hol h80 hN hS⟩)
   rw [wrap_i64 (by omega) (by omega)]
   refine ⟨by omega,by omega,?_⟩
   rw [show Int.toNat ((out.length:Int) - 1)=out.length - 1 by omega]
   exact hld
end Go.Fx.Tryz
namespace Go.Fx.Ch
structure EX where
 at_:Int
 slot:Int
 to:Int
 jump:Int
 chain:Int
 deriving DecidableEq
def endAt (n:Nat) (l:List (HI × Nat)) (i:Nat):Int:=match l[i+1]? with
 | some q=>(q.2:Int)
 | none=>n
def exitAt (n:Nat) (l:List (HI × Nat)) (i:Nat):Option EX:=match l[i]? with
 | none=>none
 | some p=>if (p.1.op != 39 && p.1.op != 40)=true then none else some ⟨p.2,endAt n l i - 4,p.1.i,p.1.k,p.1.chain⟩
def exitsL (n:Nat) (l:List (HI × Nat)):List EX:=(List.range l.length).filterMap (exitAt n l)
def exitsF (bs:List Int):Option (List EX):=(allF bs).map (exitsL bs.length)
theorem allL_at {bs:List Int}:∀ (f at_:Nat) (out l:List (HI × Nat)),allL bs f at_ out=some l→(∀ p∈out,p.2≤bs.length)→∀ p∈l,p.2≤bs.length
 | 0,_,_,_,h,_=>by cases h
 | f+1,at_,out,l,h,ho=>by
  unfold allL at h
  split at h
  ·rename_i hlt
   split at h
   ·cases h
   ·split at h
    ·cases h
    ·refine allL_at f _ _ l h fun p hp=>?_
     rcases List.mem_append.1 hp with hp | hp
     ·exact ho p hp
     ·rw [List.mem_singleton.1 hp]; exact Nat.le_of_lt hlt
  ·split at h
   ·cases h; exact ho
   ·cases h
theorem allF_at {bs:List Int} {l:List (HI × Nat)} (h:allF bs=some l):∀ p∈l,p.2≤bs.length:=by
 unfold allF at h
 split at h
 ·cases h
 ·exact allL_at _ _ _ l h (by simp)
theorem allF_small {bs:List Int} {l:List (HI × Nat)} (h:allF bs=some l):bs.length≤65536:=by
 unfold allF at h
 split at h
 ·cases h
 ·omega
end Go.Fx.Ch
namespace Go.Fx.Ch
def le4 (c:Int):List Int:=[c % 256,c / 256 % 256,c / 65536 % 256,c / 16777216 % 256]
def patchB (bs:List Int) (slot:Nat) (c:Int):List Int:=bs.take slot++le4 c++bs.drop (slot+4)
end Go.Fx.Ch
namespace Go.Fx.Tryz
open Go Go.Fx Go.Fx.Ch
open Go.Proofs
set_option linter.all false
set_option maxRecDepth 20000
variable {w0 w:World} {H:HBL} {K:KT} {ov:Value} {bs:List Int}
def Xc (e:EX):List Value:=[J e.at_,J e.slot,U e.to,J e.jump,U e.chain]
theorem Xc_len (e:EX):(Xc e).length=5:=rfl
theorem bexit (a s j:Int) (t c:Int) (wq:World):(Instr.build 62 [(0,J a),(1,J s),(2,U t),(3,J j),(4,U c)].toArray).run P wq=.ok (.agg #[J a,J s,U t,J j,U c]) wq:=by kernel_rfl
theorem z151:∃ z:List Value,zcells P 151=z.toArray∧z.length=16:=⟨Pl ({},0),by kernel_rfl,rfl⟩
theorem filterMap_succ (g:Nat→Option EX) (i:Nat):(List.range (i+1)).filterMap g=(List.range i).filterMap g++(match g i with
  | some e=>[e]
  | none=>[]):=by
 rw [List.range_succ,List.filterMap_append]
 congr 1
 cases h:g i <;> simp [h]
theorem exits_ok {gcs:List Value} {gt:TypeId} (h:St w0 w H) (hB:Bytes w0 H ov bs) (hg:(0,Cs gcs gt)∈H) (ht:Table gcs)
  (hF:∀ w',St w0 w' H→exitsF bs=none→K (.tuple [.slice none 0 0,J 170].toArray) w')
  (hK:∀ w' a c L l,exitsF bs=some l→l.length≤bs.length→St w0 w' (L++H)→New w0 L→SlO 5 62 (.slice a l.length c) l.length (l.map Xc).flatten L→K (.tuple [.slice a l.length c,J 0].toArray) w'):CallL P 54 [ov] w K:=by
 obtain ⟨sa,sc,rfl⟩:=(hB.row w h).form
 refine f54_ok _ _ _ _ _ ?_
 obtain ⟨z,hz,hzl⟩:=z151
 rw [f54_eq]
 refine all_ok h hB hg ht (fun w2 v h2 hn=>⟨_,_,_,_,_,rfl,?_⟩) fun w2 la lc L l hl hll h2 hN hS=>⟨_,_,_,_,_,rfl,?_⟩
 ·simp only [Bool.not_false,BIf_true]
  exact hF w2 h2 (by unfold exitsF; rw [hn]; rfl)
 simp only [Bool.not_true,BIf_false]
 rw [f54_s0_eq]
 have hex:exitsF bs=some (exitsL bs.length l):=by unfold exitsF; rw [hl]; rfl
 have hsm:=allF_small hl
 have hat:=allF_at hl
 refine ⟨fun m e w'=>∃ (i:Nat) (out:List EX) (oa:Option Addr) (oc:Nat) (M:HBL),i≤l.length∧m=l.length - i∧out=(List.range i).filterMap (exitAt bs.length l)∧out.length≤i∧
   e=Env.mk 68 [(2,.slice none 0 0),(3,J 0),(7,.slice oa out.length oc),(21,J i),(4,.slice la l.length lc),(0,.slice sa bs.length sc),(19,.slice la l.length lc),(20,J l.length)] []∧St w0 w' (M++(L++H))∧New w0 M∧SlO 5 62 (.slice oa out.length oc) out.length (out.map Xc).flatten M,
  ⟨l.length,0,[],none,0,[],by omega,rfl,rfl,by simp,rfl,h2,New.nil w0,SlO.nil 5 62⟩,?_⟩
 rintro m e w' ⟨i,out,oa,oc,M,hi,rfl,hout,hol,rfl,hs,hM,hMS⟩
 show f54_lb1 ..
 rw [f54_lb1_eq,BIf_iff]
 refine ⟨fun hlt=>?_,fun hge=>?_⟩
 ·have hlt:i < l.length:=by have:=of_decide_eq_true hlt; omega
  rw [f54_s2_eq,hz]
  have hrow:∀ {w3:World} {X:HBL},St w0 w3 (X++(M++(L++H)))→Row w3 16 (.slice la l.length lc) l.length (l.map Pl).flatten:=fun h3=>hS.row fun u hu=>h3.has _ _ (List.mem_append_right _ (List.mem_append_right _ (List.mem_append_left _ hu)))
  obtain ⟨ad,cp,hac,hld⟩:=(hrow (X:=[]) hs).ldA hlt
  injection hac with hac _ _
  subst hac
  refine ⟨by omega,by omega,?_⟩
  rw [Int.toNat_natCast]
  refine hld _ ?_
  rw [flat_at Pl 16 Pl_len l hlt]
  refine hs.newC fun n28 w29 hn28 h29=>?_
  refine h29.stA (k:=0) rfl rfl (by simp [hzl]) (by simpa using one_Pl _) fun w30 h30=>?_
  have h30:St w0 w30 ((n28,Cs (splice z 0 (Pl l[i])) 151)::(M++(L++H))):=h30
  rw [splice_all _ _ (by rw [hzl]; rfl)] at h30
  have c:∀ j,w30.cell? (Addr.mk n28 j none)=(Pl l[i])[j]?:=fun j=>h30.cell (k:=0) rfl
  have hli:l[i]?=some l[i]:=List.getElem?_eq_getElem hlt
  have skip:(l[i].1.op != 39 && l[i].1.op != 40)=true→f54_s3 true none 0 0 0 oa out.length oc (some ad) l.length lc sa bs.length sc (some ad) l.length lc l.length i (Addr.mk n28 0 none) i w30 K (fun e' w'=>∃ m,m < l.length - i∧∃ (i:Nat) (out:List EX) (oa:Option Addr) (oc:Nat) (M:HBL),i≤l.length∧m=l.length - i∧out=(List.range i).filterMap (exitAt bs.length l)∧out.length≤i∧
   e'=Env.mk 68 [(2,.slice none 0 0),(3,J 0),(7,.slice oa out.length oc),(21,J i),(4,.slice (some ad) l.length lc),(0,.slice sa bs.length sc),(19,.slice (some ad) l.length lc),(20,J l.length)] []∧St w0 w' (M++(L++H))∧New w0 M∧SlO 5 62 (.slice oa out.length oc) out.length (out.map Xc).flatten M):=fun hsk=>by
   rw [f54_s3_eq]
   simp only [BIf_true]
   rw [f54_s4_eq]
   refine ⟨l.length - (i+1),by omega,i+1,out,oa,oc,M,by omega,rfl,?_,by omega,by rw [wrap_i64 (by omega) (by omega)]; rfl,h30.tail hn28,hM,hMS⟩
   rw [filterMap_succ,← hout]
   have:exitAt bs.length l i=none:=by unfold exitAt; rw [hli]; simp only [if_pos hsk]
   rw [this]
   simp
  have take:(l[i].1.op != 39 && l[i].1.op != 40)=false→f54_s3 false none 0 0 0 oa out.length oc (some ad) l.length lc sa bs.length sc (some ad) l.length lc l.length i (Addr.mk n28 0 none) i w30 K (fun e' w'=>∃ m,m < l.length - i∧∃ (i:Nat) (out:List EX) (oa:Option Addr) (oc:Nat) (M:HBL),i≤l.length∧m=l.length - i∧out=(List.range i).filterMap (exitAt bs.length l)∧out.length≤i∧
   e'=Env.mk 68 [(2,.slice none 0 0),(3,J 0),(7,.slice oa out.length oc),(21,J i),(4,.slice (some ad) l.length lc),(0,.slice sa bs.length sc),(19,.slice (some ad) l.length lc),(20,J l.length)] []∧St w0 w' (M++(L++H))∧New w0 M∧SlO 5 62 (.slice oa out.length oc) out.length (out.map Xc).flatten M):=fun htk=>by
   rw [f54_s3_eq]
   simp only [BIf_false]
   rw [f54_s5_eq]
   have s6:∀ en:Nat,en≤bs.length→endAt bs.length l i=(en:Int)→f54_s6 none 0 0 0 (some ad) l.length lc sa bs.length sc (some ad) l.length lc l.length i (Addr.mk n28 0 none) en oa out.length oc w30 K (fun e' w'=>∃ m,m < l.length - i∧∃ (i:Nat) (out:List EX) (oa:Option Addr) (oc:Nat) (M:HBL),i≤l.length∧m=l.length - i∧out=(List.range i).filterMap (exitAt bs.length l)∧out.length≤i∧
   e'=Env.mk 68 [(2,.slice none 0 0),(3,J 0),(7,.slice oa out.length oc),(21,J i),(4,.slice (some ad) l.length lc),(0,.slice sa bs.length sc),(19,.slice (some ad) l.length lc),(20,J l.length)] []∧St w0 w' (M++(L++H))∧New w0 M∧SlO 5 62 (.slice oa out.length oc) out.length (out.map Xc).flatten M):=fun en hen hee=>by
    rw [f54_s6_eq]
    simp only [add_lit',Nat.zero_add]
    rw [wrap_i64 (by omega) (by omega)]
    refine ⟨_,c 15,_,c 9,_,c 8,_,c 10,_,bexit _ _ _ _ _,⟨rfl,trivial⟩,h30.newC fun n82 w80 hn82 h80=>?_⟩
    have h80:St w0 w80 ((n82,Cs (Xc ⟨l[i].2,(en:Int) - 4,l[i].1.i,l[i].1.k,l[i].1.chain⟩) 62)::(n28,Cs (Pl l[i]) 151)::(M++(L++H))):=h80
    have h81:St w0 w80 ([(n82,Cs (Xc ⟨l[i].2,(en:Int) - 4,l[i].1.i,l[i].1.k,l[i].1.chain⟩) 62)]++(M++(L++H))):=(h80.perm (List.Perm.swap _ _ _)).tail hn28
    obtain ⟨g,cap,w84,M',hr,hS',hs',hN'⟩:=St.append (P:=P) 58 58 62 Tryz.t62 (.agg #[J 0,J 0,U 0,J 0,U 0]) 5 40 Tryz.underlying58 (by kernel_rfl) rfl rfl rfl rfl (by omega) h81 hMS hM (j:=0) rfl rfl (by simp [Xc,Value.oneCell']) (by simp [maxLen]; omega) (by omega)
    refine ⟨_,_,_,w84,hr,?_⟩
    have hs2:St w0 w84 (M'++(L++H)):=(hs':St w0 w84 ((n82,_)::(M'++(L++H)))).tail hn82
    rw [f54_s4_eq]
    have hea:exitAt bs.length l i=some ⟨l[i].2,(en:Int) - 4,l[i].1.i,l[i].1.k,l[i].1.chain⟩:=by
     unfold exitAt
     rw [hli]
     simp only [htk,Bool.false_eq_true,if_false]
     rw [hee]
    have hnew:(List.range (i+1)).filterMap (exitAt bs.length l)=out++[⟨l[i].2,(en:Int) - 4,l[i].1.i,l[i].1.k,l[i].1.chain⟩]:=by rw [filterMap_succ,← hout,hea]
    refine ⟨l.length - (i+1),by omega,i+1,_,some ⟨g,0,none⟩,cap,M',by omega,rfl,hnew.symm,by simp; omega,?_,hs2,hN',?_⟩
    ·rw [wrap_i64 (by omega) (by omega)]; simp
    ·simpa using hS'
   rw [wrap_i64 (by omega) (by omega),BIf_iff]
   refine ⟨fun hn=>?_,fun hn=>?_⟩
   ·have hn:i+1 < l.length:=by have:=of_decide_eq_true hn; omega
    refine ⟨by omega,by omega,l[i+1].2,?_,s6 _ (hat _ (List.getElem_mem hn)) (by unfold endAt; rw [List.getElem?_eq_getElem hn])⟩
    rw [show Int.toNat ((i:Int)+1)=i+1 by omega,add_add']
    rcases (hrow (X:=[(n28,Cs (Pl l[i]) 151)]) h30).2 with ⟨h0,_⟩ | ⟨ad',cp',e1,e2⟩
    ·cases h0
    ·injection e1 with e1 _ _
     injection e1 with e1
     subst e1
     have hx:=e2 ((i+1) * 16+15) (by omega)
     rw [hx]
     have hf:=flat_at Pl 16 Pl_len l hn
     have h15:=congrArg (·[15]?) hf
     simp only [List.getElem?_take,List.getElem?_drop] at h15
     rw [if_pos (by omega)] at h15
     rw [h15]; rfl
   ·have hn:¬ i+1 < l.length:=by have:=of_decide_eq_false hn; omega
    exact s6 _ (Nat.le_refl _) (by unfold endAt; rw [List.getElem?_eq_none (by omega)])
  refine ⟨l[i].1.op,c 0,?_⟩
  rw [BIf_iff]
  refine ⟨fun h39=>⟨l[i].1.op,c 0,?_⟩,fun h39=>take (by rw [h39]; rfl)⟩
  cases h40:(l[i].1.op != 40) with
  | true=>exact skip (by rw [h39,h40]; rfl)
  | false=>exact take (by rw [h40]; simp)
 ·have:i=l.length:=by have:=of_decide_eq_false hge; omega
  subst this
  rw [f54_s7_eq]
  have h3:St w0 w' (M++H):=by
   have h4:St w0 w' (L++(M++H)):=hs.perm (perm_by fun c=>by simp only [List.map_append,List.map_cons,List.sum_append,List.sum_cons]; omega)
   exact h4.sub hN
  exact hK w' oa oc M out (by rw [hex,hout]; rfl) (by omega) h3 hM hMS
def idxF {α:Type} (p:α→Bool) (l:List α):Int:=match l.findIdx? p with
 | some i=>(i:Int)
 | none=>-1
theorem idxF_any {α:Type} (p:α→Bool) (l:List α):decide (idxF p l≥0)=l.any p:=by
 unfold idxF
 cases h:l.findIdx? p with
 | none=>
  have h1:=List.findIdx?_eq_none_iff.1 h
  have h2:l.any p=false:=by
   rw [← Bool.not_eq_true,List.any_eq_true]
   rintro ⟨x,hx,hp⟩
   rw [h1 x hx] at hp; cases hp
  rw [h2]; rfl
 | some i=>
  obtain ⟨hi,hp,_⟩:=List.findIdx?_eq_some_iff_getElem.1 h
  have h2:l.any p=true:=List.any_eq_true.2 ⟨l[i],List.getElem_mem hi,hp⟩
  rw [h2]
  simp
def AsksX (w0:World) (H:HBL) (v:Value) (p:EX→Bool):Prop:=∀ (e:EX) (w':World) (Q:KT),St w0 w' H→(∀ w'',St w0 w'' H→Q (.bool (p e)) w'')→CallF P v [.agg (Xc e).toArray] w' Q
theorem index100_ok {l:List EX} {v:Value} {p:EX→Bool} (h:St w0 w H) (hrow:∀ w',St w0 w' H→Row w' 5 ov l.length (l.map Xc).flatten) (hl:l.length < 1000000000) (hv:AsksX w0 H v p)
  (hK:∀ w',St w0 w' H→K (J (idxF p l)) w'):CallL P 100 [ov,v] w K:=by
 obtain ⟨a,c,rfl⟩:=(hrow w h).form
 refine f100_ok _ _ _ _ _ _ ?_
 rw [f100_eq]
 refine ⟨fun m e w'=>∃ i:Nat,i≤l.length∧m=l.length - i∧St w0 w' H∧(∀ x∈l.take i,p x=false)∧e=Env.mk 19 [(8,J i),(0,.slice a l.length c),(1,v),(4,J 0),(7,J l.length)] [],⟨_,0,by omega,rfl,h,by simp,rfl⟩,?_⟩
 rintro m e w' ⟨i,hi,rfl,hs,hx,rfl⟩
 show f100_lb0 ..
 rw [f100_lb0_eq,BIf_iff]
 refine ⟨fun hlt=>?_,fun hge=>?_⟩
 ·have hlt:i < l.length:=by have:=of_decide_eq_true hlt; omega
  rw [f100_s1_eq]
  obtain ⟨ad,cp,hac,hld⟩:=(hrow w' hs).ldA hlt
  injection hac with hac _ _
  subst hac
  refine ⟨by omega,by omega,?_⟩
  rw [Int.toNat_natCast]
  refine hld _ ?_
  rw [flat_at Xc 5 Xc_len l hlt]
  refine hv _ _ _ hs fun w15 h15=>⟨_,rfl,?_⟩
  rw [BIf_iff]
  refine ⟨fun hb=>?_,fun hb=>?_⟩
  ·have hf:l.findIdx? p=some i:=by
    refine List.findIdx?_eq_some_iff_getElem.2 ⟨hlt,hb,fun j hj=>?_⟩
    have:=hx (l[j]'(by omega)) (by rw [List.mem_take_iff_getElem]; exact ⟨j,by omega,rfl⟩)
    rw [this]; simp
   have hK:=hK w15 h15
   unfold idxF at hK
   rw [hf] at hK
   exact hK
  ·rw [f100_s2_eq]
   refine ⟨l.length - (i+1),by omega,i+1,by omega,rfl,h15,?_,by rw [wrap_i64 (by omega) (by omega)]; rfl⟩
   intro x hx'
   rw [take_succ' l hlt,List.mem_append] at hx'
   rcases hx' with h | h
   ·exact hx x h
   ·rw [List.mem_singleton.1 h]; exact hb
 ·have:i=l.length:=by have:=of_decide_eq_false hge; omega
  subst this
  rw [List.take_length] at hx
  rw [f100_s3_eq]
  have hf:l.findIdx? p=none:=List.findIdx?_eq_none_iff.2 hx
  have hK:=hK w' hs
  unfold idxF at hK
  rw [hf] at hK
  exact hK
theorem contains56_ok {l:List EX} {v:Value} {p:EX→Bool} (h:St w0 w H) (hrow:∀ w',St w0 w' H→Row w' 5 ov l.length (l.map Xc).flatten) (hl:l.length < 1000000000) (hv:AsksX w0 H v p)
  (hK:∀ w',St w0 w' H→K (.bool (l.any p)) w'):CallL P 56 [ov,v] w K:=by
 obtain ⟨a,c,rfl⟩:=(hrow w h).form
 refine f56_ok _ _ _ _ _ _ ?_
 rw [f56_eq]
 refine index100_ok h hrow hl hv fun w' h'=>⟨_,rfl,?_⟩
 rw [idxF_any]
 exact hK w' h'
theorem asks57:AsksX w0 H (.func (.func 57) #[] #[]) (fun e=>e.chain != 0):=fun e w' Q h hQ=>by
 refine callF_fn (by kernel_rfl) (f57_ok _ _ _ ?_)
 rw [f57_eq]
 exact h.newC fun n1 w2 hn1 h2=>⟨e.chain,by rw [add_lit']; exact h2.cell (k:=0) rfl,hQ _ (h2.tail hn1)⟩
theorem asks158 {b:Nat} {slot:Int} {t:TypeId} (hb:(b,Cs [J slot] t)∈H):AsksX w0 H (.func (.func 158) #[] #[.pointer (some (Addr.mk b 0 none))]) (fun e=>e.slot == slot):=fun e w' Q h hQ=>by
 refine callF_fn (by kernel_rfl) (f158_ok _ _ _ _ ?_)
 rw [f158_eq]
 exact h.newC fun n1 w2 hn1 h2=>⟨e.slot,by rw [add_lit']; exact h2.cell (k:=0) rfl,slot,cell_of (h2.has _ _ (.tail _ hb)),hQ _ (h2.tail hn1)⟩
theorem asks122 {b:Nat} {slot:Int} {t:TypeId} (hb:(b,Cs [J slot] t)∈H):AsksX w0 H (.func (.func 122) #[] #[.pointer (some (Addr.mk b 0 none))]) (fun e=>e.slot == slot):=fun e w' Q h hQ=>by
 refine callF_fn (by kernel_rfl) (f122_ok _ _ _ _ ?_)
 rw [f122_eq]
 exact h.newC fun n1 w2 hn1 h2=>⟨e.slot,by rw [add_lit']; exact h2.cell (k:=0) rfl,slot,cell_of (h2.has _ _ (.tail _ hb)),hQ _ (h2.tail hn1)⟩
end Go.Fx.Tryz
namespace Go.Fx.Tryz
set_option maxRecDepth 100000
open Go Go.Fx Go.Proofs
noncomputable def c82:Code:=bodyOf Tryz.f82
noncomputable def rs82:List ResultVar:=Tryz.f82.results.toList
abbrev f82_kb (K:KT):Exit→YT:=bodyK P rs82 K
def f82 (a:OA) (b:Array Value) (c:Int) (w:World) (K:KT):Prop:=CS P c82 none [] [] (f82_kb K) (env0 26 [(VP a),(Value.agg b),(Value.int .u32 c)]) w
def f82_s0 (a:Int) (b:OA) (w:World) (K:KT):Prop:=SG P (cA c82 7) none [] [] (f82_kb K) (Env.mk 26 [(2,(Value.int .u32 a)),(0,(VP b))] []) w
theorem f82_s0_eq (a:Int) (b:OA) (w:World) (K:KT):f82_s0 a b w K=(optS b (fun h=>∃ c:Option Nat,w.cell? (h.add 6)=some (.map c)∧∃ d:Option Nat,(∀ wq,Ext w wq→(Instr.lookup 107 (Value.map c) (Value.int .u32 a) false).run P wq=.ok (.map d) wq)∧∃ e:Int,(∀ wq,Ext w wq→(Builtin.len_ #[124] 3 [(Value.map d)].toArray).run P wq=.ok (.int .i64 e) wq)∧BIf ((e:Int) == 0) (optS b (fun i=>∃ f:Option Nat,w.cell? (i.add 6)=some (.map f)∧∃ g:World,(Builtin.delete_ #[107,24] 0 [(Value.map f),(Value.int .u32 a)].toArray).run P w=.ok (.tuple [].toArray) g∧K (Value.tuple [].toArray) g)) (K (Value.tuple [].toArray) w))):=by kernel_rfl
theorem f82_eq (b:OA) (d:Array Value) (c:Int) (w:World) (K:KT):f82 b d c w K=(NewC d 142 w (fun h a=>optS b (fun i=>∃ e:Option Nat,a.drew.cell? (i.add 6)=some (.map e)∧∃ f:Option Nat,(∀ wq,Ext a.drew wq→(Instr.lookup 107 (Value.map e) (Value.int .u32 c) false).run P wq=.ok (.map f) wq)∧LdA 2 (Addr.mk h 0 none) a.drew (fun j=>∃ g:World,(Builtin.delete_ #[124,142] 0 [(Value.map f),(Value.agg j)].toArray).run P a.drew=.ok (.tuple [].toArray) g∧f82_s0 c b g K)))):=by kernel_rfl
theorem f82_ok (a:OA) (b:Array Value) (c:Int) (w:World) (K:KT) (h:f82 a b c w K):CallL P 82 [(Value.pointer a),(Value.agg b),(Value.int .u32 c)] w K:=okCS c82 Tryz.func82 (by kernel_rfl) (by kernel_rfl) h
noncomputable def c102:Code:=bodyOf Tryz.f102
noncomputable def rs102:List ResultVar:=Tryz.f102.results.toList
abbrev f102_kb (K:KT):Exit→YT:=bodyK P rs102 K
def f102 (a:OA) (b:Int) (w:World) (K:KT):Prop:=CS P c102 none [4] [4] (f102_kb K) (env0 19 [(VP a),(Value.int .u32 b)]) w
theorem f102_eq (a:OA) (b:Int) (w:World) (K:KT):f102 a b w K=(optS a (fun k=>∃ c:Option Nat,w.cell? (k.add 3)=some (.map c)∧∃ d:Array Value,(∀ wq,Ext w wq→(Instr.lookup 105 (Value.map c) (Value.int .u32 b) false).run P wq=.ok (.agg d) wq)∧∃ (e:OA) (f g:Nat),d[2]?=some (.slice e f g)∧CallL P 54 [(Value.slice e f g)] w (fun l m=>∃ (h:OA) (i j:Nat),∃ n:Int,l=(.tuple [(Value.slice h i j),(Value.int .i64 n)].toArray)∧K (Value.slice h i j) m))):=by kernel_rfl
theorem f102_ok (a:OA) (b:Int) (w:World) (K:KT) (h:f102 a b w K):CallL P 102 [(Value.pointer a),(Value.int .u32 b)] w K:=okCS c102 Tryz.func102 (by kernel_rfl) (by kernel_rfl) h
noncomputable def c103:Code:=bodyOf Tryz.f103
noncomputable def rs103:List ResultVar:=Tryz.f103.results.toList
abbrev f103_kb (K:KT):Exit→YT:=bodyK P rs103 K
def f103 (a:OA) (b:Int) (w:World) (K:KT):Prop:=CS P c103 none [] [] (f103_kb K) (env0 105 [(VP a),(Value.int .u32 b)]) w
def f103_s0 (a:OA) (b:Int) (w:World) (K:KT):Prop:=CS P (cA c103 1) none [] [] (f103_kb K) (Env.mk 105 [(0,(VP a)),(1,(Value.int .u32 b))] []) w
abbrev f103_k0 (K:KT):Exit→YT:=kseq P (cA c103 2) (cA c103 3) none [] [] (f103_kb K)
def f103_s1 (a b:Addr) (c:OA) (d:Int) (w:World) (K:KT):Prop:=CS P (cA c103 3) none [] [] (f103_kb K) (Env.mk 105 [(3,(VP (some a))),(2,(VP (some b))),(0,(VP c)),(1,(Value.int .u32 d))] []) w
abbrev f103_k1 (K:KT):Exit→YT:=kscope (f103_kb K)
abbrev f103_k2 (K:KT):Exit→YT:=kseq P (cA c103 12) (cA c103 13) none [] [] (f103_k1 K)
def f103_s2 (a b c:Addr) (d:OA) (e:Int) (w:World) (K:KT):Prop:=CS P (cA c103 13) none [] [] (f103_k1 K) (Env.mk 105 [(4,(VP (some a))),(3,(VP (some b))),(2,(VP (some c))),(0,(VP d)),(1,(Value.int .u32 e))] []) w
abbrev f103_k3 (K:KT):Exit→YT:=kseq P (cA c103 26) (cA c103 27) none [] [] (f103_k1 K)
def f103_s3 (a b c:Addr) (d:OA) (e:Int) (w:World) (K:KT):Prop:=CS P (cA c103 27) none [] [] (f103_k1 K) (Env.mk 105 [(4,(VP (some a))),(3,(VP (some b))),(2,(VP (some c))),(0,(VP d)),(1,(Value.int .u32 e))] []) w
abbrev f103_k4 (K:KT):Exit→YT:=kseq P (cA c103 54) (cA c103 55) none [] [] (f103_k1 K)
def f103_s4 (a:Value) (b c d:Addr) (w:World) (K:KT):Prop:=SG P (cA c103 55) none [] [] (f103_k1 K) (Env.mk 105 [(18,a),(4,(VP (some b))),(2,(VP (some c))),(3,(VP (some d)))] []) w
abbrev f103_k5 (K:KT):Exit→YT:=kblock 0 (f103_k1 K)
def f103_rd5 (a b c:Addr) (l:Nat) (R:LoopState→Option Code→Loop) (post:Option Code→World→Prop) (args:List Value) (W:World):Prop:=args.length=1∧CS P (cA c103 220) (some l) [4,5,2,3] [] (kround P (cA c103 221) l R post) { putParams (Env.mk 105 [(4,(VP (some a))),(2,(VP (some b))),(3,(VP (some c)))] []) [19] args with d:=[] } W
abbrev f103_ka5 (l:Nat) (R:LoopState→Option Code→Loop) (post:Option Code→World→Prop):Exit→YT:=kround P (cA c103 221) l R post
def f103_ra5 (a b c:Addr) (d:Int) (w:World) (l:Nat) (R:LoopState→Option Code→Loop) (post:Option Code→World→Prop):Prop:=CS P (cA c103 220) (some l) [4,5,2,3] [] (f103_ka5 l R post) (Env.mk 105 [(19,(VI d)),(4,(VP (some a))),(2,(VP (some b))),(3,(VP (some c)))] []) w
def f103_s6 (a:Addr) (b:Int) (c d:Addr) (w:World) (l:Nat) (R:LoopState→Option Code→Loop) (post:Option Code→World→Prop):Prop:=SG P (cA c103 221) (some l) [] [] (endS l R post) (Env.mk 105 [(4,(VP (some a))),(5,(VI b)),(2,(VP (some c))),(3,(VP (some d)))] []) w
abbrev f103_k6 (l:Nat) (R:LoopState→Option Code→Loop) (post:Option Code→World→Prop):Exit→YT:=kblock 1 (endS l R post)
abbrev f103_k7 (l:Nat) (R:LoopState→Option Code→Loop) (post:Option Code→World→Prop):Exit→YT:=kseq P (cA c103 884) (cA c103 885) (some l) [] [] (f103_k6 l R post)
abbrev f103_k8 (l:Nat) (R:LoopState→Option Code→Loop) (post:Option Code→World→Prop):Exit→YT:=kblock 2 (f103_k7 l R post)
abbrev f103_k9 (l:Nat) (R:LoopState→Option Code→Loop) (post:Option Code→World→Prop):Exit→YT:=kseq P (cA c103 3536) (cA c103 3537) (some l) [4,5,2] [4,5,2] (f103_k8 l R post)
def f103_s7 (a:Addr) (b:Int) (c:Addr) (w:World) (l:Nat) (R:LoopState→Option Code→Loop) (post:Option Code→World→Prop):Prop:=SG P (cA c103 14149) (some l) [4,5,2] [4,5,2] (f103_k8 l R post) (Env.mk 105 [(4,(VP (some a))),(5,(VI b)),(2,(VP (some c)))] []) w
theorem f103_s7_eq (a:Addr) (c:Int) (d:Addr) (w:World) (l:Nat) (R:LoopState→Option Code→Loop) (post:Option Code→World→Prop):f103_s7 a c d w l R post=(w.heap[l]?=some (.loop (R .busy none))∧post none (w.putObj l (.loop (R .ready none)))):=Eq.trans SGe (by kernel_rfl)
def f103_s8 (a:Addr) (b:Int) (c:Addr) (w:World) (l:Nat) (R:LoopState→Option Code→Loop) (post:Option Code→World→Prop):Prop:=SG P (cA c103 885) (some l) [] [] (f103_k6 l R post) (Env.mk 105 [(4,(VP (some a))),(5,(VI b)),(2,(VP (some c)))] []) w
abbrev f103_k13 (l:Nat) (R:LoopState→Option Code→Loop) (post:Option Code→World→Prop):Exit→YT:=kseq P (cA c103 1770) (cA c103 1771) (some l) [] [] (f103_k6 l R post)
abbrev f103_k14 (l:Nat) (R:LoopState→Option Code→Loop) (post:Option Code→World→Prop):Exit→YT:=kseq P (cA c103 3542) (cA c103 3543) (some l) [] [] (f103_k6 l R post)
def f103_s9 (a:Addr) (b:Int) (c:Addr) (d f:Int) (w:World) (l:Nat) (R:LoopState→Option Code→Loop) (post:Option Code→World→Prop):Prop:=SG P (cA c103 7085) (some l) [4,5,2] [] (f103_k14 l R post) (Env.mk 105 [(4,(VP (some a))),(5,(VI b)),(2,(VP (some c))),(6,(VI d)),(7,(VI f))] []) w
abbrev f103_k16 (l:Nat) (R:LoopState→Option Code→Loop) (post:Option Code→World→Prop):Exit→YT:=kseq P (cA c103 14170) (cA c103 14171) (some l) [4,5,2] [] (f103_k14 l R post)
def f103_s10 (a:Addr) (b:Int) (c:Addr) (w:World) (l:Nat) (R:LoopState→Option Code→Loop) (post:Option Code→World→Prop):Prop:=SG P (cA c103 3543) (some l) [] [] (f103_k6 l R post) (Env.mk 105 [(4,(VP (some a))),(5,(VI b)),(2,(VP (some c)))] []) w
theorem f103_s10_eq (d:Addr) (a:Int) (c:Addr) (w:World) (l:Nat) (R:LoopState→Option Code→Loop) (post:Option Code→World→Prop):f103_s10 d a c w l R post=(∃ f:Option Addr,w.drew.cell? c=some (.pointer f)∧optS f (fun r=>∃ (g:OA) (h s:Nat),w.drew.cell? (r.add 5)=some (.slice g h s)∧∃ e:Int,w.drew.cell? d=some (.int .i64 e)∧∃ i:Option Addr,w.drew.cell? c=some (.pointer i)∧optS i (fun t=>∃ (j:OA) (k u:Nat),w.drew.cell? (t.add 5)=some (.slice j k u)∧∃ m:Option Addr,w.drew.cell? c=some (.pointer m)∧optS m (fun v=>∃ (n:OA) (o x:Nat),w.drew.cell? (v.add 5)=some (.slice n o x)∧optS n (fun y=>0≤(a:Int)∧(a:Int) < (o:Nat)∧∃ p:Int,w.drew.cell? (y.add (Int.toNat a * 1))=some (.int .u32 p)∧optS g (fun z=>0≤(e:Int)∧(e:Int) < (h:Nat)∧St1 (z.add (Int.toNat e * 1)) (Value.int .u32 p) w.drew (fun a0=>optS j (fun b0=>0≤(a:Int)∧(a:Int) < (k:Nat)∧St1 (b0.add (Int.toNat a * 1)) (Value.int .u32 0) a0 (fun c0=>St1 d (Value.int .i64 a) c0 (fun q=>q.heap[l]?=some (.loop (R .busy none))∧post none (q.putObj l (.loop (R .ready none))))))))))))):=Eq.trans SGe (by kernel_rfl)
theorem f103_s9_eq (c:Addr) (d:Int) (e:Addr) (f g:Int) (w:World) (l:Nat) (R:LoopState→Option Code→Loop) (post:Option Code→World→Prop):f103_s9 c d e f g w l R post=(BIf (decide ((g:Int) < f)) (w.heap[l]?=some (.loop (R .busy none))∧post none (w.putObj l (.loop (R .ready none)))) (f103_s10 c d e w l R post)):=Eq.trans SGe (Eq.trans (CSs [84,4,5,2] (f103_k16 l R post) (by kernel_rfl)) (by kernel_rfl))
theorem f103_s8_eq (e:Addr) (d:Int) (c:Addr) (w:World) (l:Nat) (R:LoopState→Option Code→Loop) (post:Option Code→World→Prop):f103_s8 e d c w l R post=(∃ i:Int,w.drew.cell? e=some (.int .i64 i)∧∃ j:Option Addr,w.drew.cell? c=some (.pointer j)∧optS j (fun y=>∃ k:Int,w.drew.cell? (y.add 2)=some (.int .i64 k)∧∃ m:Option Addr,w.drew.drew.cell? c=some (.pointer m)∧∃ n:Option Addr,w.drew.drew.cell? c=some (.pointer n)∧optS n (fun z=>∃ o:Option Nat,w.drew.drew.cell? (z.add 3)=some (.map o)∧∃ p:Option Addr,w.drew.drew.cell? c=some (.pointer p)∧optS p (fun a0=>∃ (q:OA) (r b0:Nat),w.drew.drew.cell? (a0.add 5)=some (.slice q r b0)∧optS q (fun c0=>0≤(d:Int)∧(d:Int) < (r:Nat)∧∃ s:Int,w.drew.drew.cell? (c0.add (Int.toNat d * 1))=some (.int .u32 s)∧∃ t:Array Value,(∀ wq,Ext w.drew.drew wq→(Instr.lookup 105 (Value.map o) (Value.int .u32 s) false).run P wq=.ok (.agg t) wq)∧∃ u:Int,t[0]?=some (.int .u32 u)∧∃ f:Option Addr,w.drew.drew.cell? c=some (.pointer f)∧optS f (fun v=>∃ g:Int,w.drew.drew.cell? (v.add 2)=some (.int .i64 g)∧CallL P 111 [(Value.pointer m),(Value.int .u32 u)] w.drew.drew (fun d0 h=>∃ x:Int,d0=(.int .i64 x)∧h.cell? (v.add 2)=some (.int .i64 g)∧h.cell? c=some (.pointer f)∧f103_s9 e d c (IntKind.wrap .i64 ((BitVec.ofInt (IntKind.bits .i64) ((IntKind.wrap .i64 ((d:Int) - i)):Int) &&& BitVec.ofInt (IntKind.bits .i64) (IntKind.wrap .i64 ((k:Int) - 1))).toNat:Int)) (IntKind.wrap .i64 ((BitVec.ofInt (IntKind.bits .i64) ((IntKind.wrap .i64 ((d:Int) - x)):Int) &&& BitVec.ofInt (IntKind.bits .i64) (IntKind.wrap .i64 ((g:Int) - 1))).toNat:Int)) h l R post))))))):=Eq.trans SGe (Eq.trans (CSs [4,5,2,6] (f103_k13 l R post) (by kernel_rfl)) (by kernel_rfl))
theorem f103_s6_eq (e:Addr) (c:Int) (d f:Addr) (w:World) (l:Nat) (R:LoopState→Option Code→Loop) (post:Option Code→World→Prop):f103_s6 e c d f w l R post=(∃ k:Int,w.cell? e=some (.int .i64 k)∧BIf (decide ((k:Int) < 0)) (∃ m:Option Addr,w.drew.cell? d=some (.pointer m)∧optS m (fun y=>∃ (n:OA) (o z:Nat),w.drew.cell? (y.add 5)=some (.slice n o z)∧optS n (fun a0=>0≤(c:Int)∧(c:Int) < (o:Nat)∧∃ p:Int,w.drew.cell? (a0.add (Int.toNat c * 1))=some (.int .u32 p)∧∃ q:Int,w.drew.cell? f=some (.int .u32 q)∧BIf ((p:Int) == q) (∃ g:Option Addr,w.drew.drew.cell? d=some (.pointer g)∧optS g (fun r=>∃ (h:OA) (i s:Nat),w.drew.drew.cell? (r.add 5)=some (.slice h i s)∧St1 e (Value.int .i64 c) w.drew.drew (fun j=>j.cell? (r.add 5)=some (.slice h i s)∧j.cell? d=some (.pointer g)∧optS h (fun b0=>0≤(c:Int)∧(c:Int) < (i:Nat)∧St1 (b0.add (Int.toNat c * 1)) (Value.int .u32 0) j (fun c0=>f103_s7 e c d c0 l R post))))) (f103_s7 e c d w.drew l R post)))) (∃ t:Option Addr,w.cell? d=some (.pointer t)∧optS t (fun d0=>∃ (u:OA) (v e0:Nat),w.cell? (d0.add 5)=some (.slice u v e0)∧optS u (fun f0=>0≤(c:Int)∧(c:Int) < (v:Nat)∧∃ x:Int,w.cell? (f0.add (Int.toNat c * 1))=some (.int .u32 x)∧BIf ((x:Int) == 0) (w.heap[l]?=some (.loop (R .busy none))∧post (some (.exit 0)) (w.putObj l (.loop (R .done (some (.exit 0)))))) (f103_s8 e c d w l R post))))):=Eq.trans SGe (Eq.trans (CSb 1 [] (f103_k6 l R post) (by kernel_rfl)) (Eq.trans (CSs [4,5,2] (f103_k7 l R post) (by kernel_rfl)) (Eq.trans (CSb 2 [4,5,2] (f103_k8 l R post) (by kernel_rfl)) (Eq.trans (CSs [20,4,5,2,3] (f103_k9 l R post) (by kernel_rfl)) (by kernel_rfl)))))
theorem f103_ra5_eq (a b c:Addr) (d:Int) (w:World) (l:Nat) (R:LoopState→Option Code→Loop) (post:Option Code→World→Prop):f103_ra5 a b c d w l R post=(w.heap[l]?=some (.loop (R .ready none))∧f103_s6 a d b c (w.putObj l (.loop (R .busy none))) l R post):=by kernel_rfl
theorem f103_rd5_eq (b c d:Addr) (a:Int) (w:World) (l:Nat) (R:LoopState→Option Code→Loop) (post:Option Code→World→Prop):f103_rd5 b c d l R post [(Value.int .i64 a)] w=([(Value.int .i64 a)].length=1∧f103_ra5 b c d a w l R post):=by kernel_rfl
def f103_rn5 (a b c:Addr) (d:List Deferred) (w:World) (K:KT):Prop:=(f103_k5 K) .normal (Env.mk 105 [(4,(VP (some a))),(2,(VP (some b))),(3,(VP (some c)))] d) w
theorem f103_rn5_eq (a b c:Addr) (d:List Deferred) (w:World) (K:KT):f103_rn5 a b c d w K=(LeaveS P rs103 (Env.mk 105 [(4,(Value.pointer (some a))),(2,(Value.pointer (some b))),(3,(Value.pointer (some c)))] d) K d w):=by kernel_rfl
theorem f103_s4_eq (e:Value) (a c d:Addr) (w:World) (K:KT):f103_s4 e a c d w K=(RangeC P (f103_k5 K) (Env.mk 105 [(4,(Value.pointer (some a))),(2,(Value.pointer (some c))),(3,(Value.pointer (some d)))] []) w e (f103_rd5 a c d)):=Eq.trans SGe (Eq.trans (CSb 0 [] (f103_k5 K) (by kernel_rfl)) (by kernel_rfl))
theorem f103_s3_eq (e d c:Addr) (f:OA) (g:Int) (w:World) (K:KT):f103_s3 e d c f g w K=(∃ h:Option Addr,w.drew.cell? c=some (.pointer h)∧∃ i:Option Addr,w.drew.cell? c=some (.pointer i)∧∃ j:Option Addr,w.drew.cell? c=some (.pointer j)∧optS j (fun r=>∃ k:Option Nat,w.drew.cell? (r.add 3)=some (.map k)∧∃ l:Int,w.drew.cell? d=some (.int .u32 l)∧∃ m:Array Value,(∀ wq,Ext w.drew wq→(Instr.lookup 105 (Value.map k) (Value.int .u32 l) false).run P wq=.ok (.agg m) wq)∧∃ n:Int,m[0]?=some (.int .u32 n)∧CallL P 111 [(Value.pointer i),(Value.int .u32 n)] w.drew (fun s o=>∃ p:Int,s=(.int .i64 p)∧o.cell? c=some (.pointer h)∧CallL P 110 [(Value.pointer h),(Value.int .i64 p)] o (fun t u=>∃ q:Value,t=q∧f103_s4 q e c d u K)))):=Eq.trans (b:=CS P (cA c103 27) none [] [] (f103_k1 K) (Env.mk 105 [(4,(VP (some e))),(3,(VP (some d))),(2,(VP (some c))),(0,(VP f)),(1,(Value.int .u32 g))] []) w) (by kernel_rfl) (Eq.trans (CSs [18,4,2,3] (f103_k4 K) (by kernel_rfl)) (by kernel_rfl))
theorem f103_s2_eq (c d e:Addr) (f:OA) (g:Int) (w:World) (K:KT):f103_s2 c d e f g w K=(f103_s3 c d e f g w K):=Eq.trans (b:=CS P (cA c103 13) none [] [] (f103_k1 K) (Env.mk 105 [(4,(VP (some c))),(3,(VP (some d))),(2,(VP (some e))),(0,(VP f)),(1,(Value.int .u32 g))] []) w) (by kernel_rfl) (Eq.trans (CSs [4,2,3] (f103_k3 K) (by kernel_rfl)) (by kernel_rfl))
theorem f103_s1_eq (c d:Addr) (e:OA) (f:Int) (w:World) (K:KT):f103_s1 c d e f w K=(NewC (zcells P 3) 3 w (fun g h=>St1 (Addr.mk g 0 none) (Value.int .i64 (-1)) h (fun i=>f103_s2 (Addr.mk g 0 none) c d e f i K))):=Eq.trans (b:=CS P (cA c103 3) none [] [] (f103_kb K) (Env.mk 105 [(3,(VP (some c))),(2,(VP (some d))),(0,(VP e)),(1,(Value.int .u32 f))] []) w) (by kernel_rfl) (Eq.trans (b:=(CS P (cA c103 6) none [] [] (f103_k1 K) (Env.mk 105 [(3,(VP (some c))),(2,(VP (some d))),(0,(VP e)),(1,(Value.int .u32 f))] []) w)) (CS_scope' (b:=(cA c103 6)) (by kernel_rfl)) (Eq.trans (CSs [4,2,3] (f103_k2 K) (by kernel_rfl)) (by kernel_rfl)))
theorem f103_s0_eq (c:OA) (d:Int) (w:World) (K:KT):f103_s0 c d w K=(NewC #[(Value.pointer c)] 28 w (fun e f=>NewC #[(Value.int .u32 d)] 24 f (fun g h=>f103_s1 (Addr.mk g 0 none) (Addr.mk e 0 none) c d h K))):=Eq.trans (b:=CS P (cA c103 1) none [] [] (f103_kb K) (Env.mk 105 [(0,(VP c)),(1,(Value.int .u32 d))] []) w) (by kernel_rfl) (Eq.trans (CSs [2,3] (f103_k0 K) (by kernel_rfl)) (by kernel_rfl))
theorem f103_eq (a:OA) (b:Int) (w:World) (K:KT):f103 a b w K=(f103_s0 a b w K):=by kernel_rfl
theorem f103_ok (a:OA) (b:Int) (w:World) (K:KT) (h:f103 a b w K):CallL P 103 [(Value.pointer a),(Value.int .u32 b)] w K:=okCS c103 Tryz.func103 (by kernel_rfl) (by kernel_rfl) h
noncomputable def c104:Code:=bodyOf Tryz.f104
noncomputable def rs104:List ResultVar:=Tryz.f104.results.toList
abbrev f104_kb (K:KT):Exit→YT:=bodyK P rs104 K
def f104 (a:OA) (b c:Nat) (d:Value) (w:World) (K:KT):Prop:=CS P c104 none [4] [4] (f104_kb K) (env0 42 [(VS a b c),d]) w
def f104_s0 (a:Int) (b:OA) (c d:Nat) (f:Value) (g:OA) (h i:Nat) (w:World) (K:KT):Prop:=SG P (cA c104 15) none [4] [4] (f104_kb K) (Env.mk 42 [(5,(VI a)),(0,(VS b c d)),(1,f),(4,(VS g h i))] []) w
abbrev f104_k5 (K:KT):Exit→YT:=kseq P (cA c104 30) (cA c104 31) none [4] [4] (f104_kb K)
abbrev f104_k7 (K:KT):Exit→YT:=kblock 0 (f104_k5 K)
def f104_lp1 (K:KT) (Y1:YT) (e:Env) (w:World):Prop:=Join (fun e w=>CS P (cA c104 244) none [6,5,0,1,4] [4,5,0] (kloop [6,5,0,1,4] Y1 (f104_k7 K)) e w) e w
abbrev f104_kl1 (K:KT) (Y1:YT):Exit→YT:=kloop [6,5,0,1,4] Y1 (f104_k7 K)
def f104_lb1 (a b:Int) (c:OA) (d f:Nat) (g:Value) (h:OA) (i j:Nat) (w:World) (K:KT) (Y1:YT):Prop:=SG P (cA c104 244) none [6,5,0,1,4] [4,5,0] (f104_kl1 K Y1) (Env.mk 42 [(6,(VI a)),(5,(VI b)),(0,(VS c d f)),(1,g),(4,(VS h i j))] []) w
def f104_s2 (a:OA) (b c:Nat) (d:Value) (f:OA) (g h:Nat) (i j:Int) (w:World) (K:KT) (Y1:YT):Prop:=SG P (cA c104 489) none [6,5,0,1,4] [4,5,0] (f104_kl1 K Y1) (Env.mk 42 [(0,(VS a b c)),(1,d),(4,(VS f g h)),(6,(VI i)),(5,(VI j))] []) w
def f104_s3 (a:Int) (b:OA) (c d:Nat) (f:Value) (g:OA) (h i:Nat) (j:Int) (w:World) (K:KT) (Y1:YT):Prop:=SG P (cA c104 979) none [6,5,0,1,4] [4,5,0] (f104_kl1 K Y1) (Env.mk 42 [(5,(VI a)),(0,(VS b c d)),(1,f),(4,(VS g h i)),(6,(VI j))] []) w
theorem f104_s3_eq (a:Int) (b:OA) (c d:Nat) (e:Value) (f:OA) (g h:Nat) (i:Int) (w:World) (K:KT) (Y1:YT):f104_s3 a b c d e f g h i w K Y1=(Y1 (Env.mk 42 [(6,(Value.int .i64 (IntKind.wrap .i64 ((i:Int)+1)))),(5,(Value.int .i64 a)),(0,(Value.slice b c d)),(1,e),(4,(Value.slice f g h))] []) w):=by kernel_rfl
theorem f104_s2_eq (c:OA) (d f:Nat) (e:Value) (g:OA) (h i:Nat) (a b:Int) (w:World) (K:KT) (Y1:YT):f104_s2 c d f e g h i a b w K Y1=(optS c (fun m=>0≤(a:Int)∧(a:Int) < (d:Nat)∧∃ j:Int,w.cell? (m.add (Int.toNat a * 1))=some (.int .u32 j)∧CallF P e [(Value.int .u32 j)] w (fun n k=>∃ l:Bool,n=(.bool l)∧BIf (!l) (optS c (fun o=>0≤(b:Int)∧(b:Int) < (d:Nat)∧St1 (o.add (Int.toNat b * 1)) (Value.int .u32 j) k (fun p=>f104_s3 (IntKind.wrap .i64 ((b:Int)+1)) c d f e g h i a p K Y1))) (f104_s3 b c d f e g h i a k K Y1)))):=by kernel_rfl
def f104_s4 (a:Int) (b:OA) (c d:Nat) (w:World) (K:KT):Prop:=SG P (cA c104 31) none [4] [4] (f104_kb K) (Env.mk 42 [(5,(VI a)),(0,(VS b c d))] []) w
theorem f104_s4_eq (a:Int) (b:OA) (c d:Nat) (w:World) (K:KT):f104_s4 a b c d w K=(∃ (e:OA) (f g:Nat),(∀ wq,(Instr.sliceAt 22 (Value.slice b c d) (some (.int .i64 a)) none none).run P wq=.ok (.slice e f g) wq)∧∃ h:World,(Builtin.clear_ #[22] 0 [(Value.slice e f g)].toArray).run P w=.ok (.tuple [].toArray) h∧∃ (i:OA) (j k:Nat),(∀ wq,(Instr.sliceAt 22 (Value.slice b c d) none (some (.int .i64 a)) none).run P wq=.ok (.slice i j k) wq)∧K (Value.slice i j k) h):=by kernel_rfl
theorem f104_lb1_eq (b c:Int) (d:OA) (a e:Nat) (f:Value) (g:OA) (h i:Nat) (w:World) (K:KT) (Y1:YT):f104_lb1 b c d a e f g h i w K Y1=(BIf (decide ((b:Int) < ((a:Nat):Int))) (f104_s2 d a e f g h i b c w K Y1) (f104_s4 c d a e w K)):=by kernel_rfl
theorem f104_s0_eq (a:Int) (b:OA) (c d:Nat) (e:Value) (f:OA) (g h:Nat) (w:World) (K:KT):f104_s0 a b c d e f g h w K=(LoopE (f104_lp1 K) (Env.mk 42 [(6,(Value.int .i64 (IntKind.wrap .i64 ((a:Int)+1)))),(5,(Value.int .i64 a)),(0,(Value.slice b c d)),(1,e),(4,(Value.slice f g h))] []) w):=by kernel_rfl
theorem f104_eq (a:OA) (b c:Nat) (d:Value) (w:World) (K:KT):f104 a b c d w K=(CallL P 141 [(Value.slice a b c),d] w (fun g f=>∃ e:Int,g=(.int .i64 e)∧BIf ((e:Int) == (-1)) (K (Value.slice a b c) f) (f104_s0 e a b c d none 0 0 f K))):=by kernel_rfl
theorem f104_ok (a:OA) (b c:Nat) (d:Value) (w:World) (K:KT) (h:f104 a b c d w K):CallL P 104 [(Value.slice a b c),d] w K:=okCS c104 Tryz.func104 (by kernel_rfl) (by kernel_rfl) h
noncomputable def c110:Code:=bodyOf Tryz.f110
noncomputable def rs110:List ResultVar:=Tryz.f110.results.toList
abbrev f110_kb (K:KT):Exit→YT:=bodyK P rs110 K
def f110 (a:OA) (b:Int) (w:World) (K:KT):Prop:=CS P c110 none [4] [4] (f110_kb K) (env0 6 [(VP a),(VI b)]) w
theorem f110_eq (a:OA) (b:Int) (w:World) (K:KT):f110 a b w K=(NewC #[(Value.pointer a)] 28 w (fun c d=>NewC #[(Value.int .i64 b)] 3 d (fun e f=>K (Value.func (.func 153) #[] #[(Value.pointer (some (Addr.mk c 0 none))),(Value.pointer (some (Addr.mk e 0 none)))]) f))):=by kernel_rfl
theorem f110_ok (a:OA) (b:Int) (w:World) (K:KT) (h:f110 a b w K):CallL P 110 [(Value.pointer a),(Value.int .i64 b)] w K:=okCS c110 Tryz.func110 (by kernel_rfl) (by kernel_rfl) h
noncomputable def c153:Code:=bodyOf Tryz.f153
noncomputable def rs153:List ResultVar:=Tryz.f153.results.toList
abbrev f153_kb (K:KT):Exit→YT:=bodyK P rs153 K
def f153 (a:Value) (b c:Addr) (w:World) (K:KT):Prop:=CS P c153 none [] [] (f153_kb K) (env0 27 [a,(VP (some b)),(VP (some c))]) w
abbrev f153_k1 (K:KT):Exit→YT:=kblock 0 (f153_kb K)
def f153_lp0 (K:KT) (Y0:YT) (e:Env) (w:World):Prop:=Join (fun e w=>CS P (cA c153 12) none [10,1,2,0,9] [] (kloop [10,1,2,0,9] Y0 (f153_k1 K)) e w) e w
abbrev f153_kl0 (K:KT) (Y0:YT):Exit→YT:=kloop [10,1,2,0,9] Y0 (f153_k1 K)
def f153_lb0 (a:Int) (b c:Addr) (d:Value) (f:Int) (w:World) (K:KT) (Y0:YT):Prop:=SG P (cA c153 12) none [10,1,2,0,9] [] (f153_kl0 K Y0) (Env.mk 27 [(10,(VI a)),(1,(VP (some b))),(2,(VP (some c))),(0,d),(9,(VI f))] []) w
def f153_s1 (a b:Addr) (c:Value) (d f:Int) (w:World) (K:KT) (Y0:YT):Prop:=SG P (cA c153 51) none [10,1,2,0,9] [] (f153_kl0 K Y0) (Env.mk 27 [(1,(VP (some a))),(2,(VP (some b))),(0,c),(9,(VI d)),(10,(VI f))] []) w
abbrev f153_k4 (K:KT) (Y0:YT):Exit→YT:=kseq P (cA c153 102) (cA c153 103) none [10,1,2,0,9] [] (f153_kl0 K Y0)
abbrev f153_k5 (K:KT) (Y0:YT):Exit→YT:=kblock 1 (f153_k4 K Y0)
def f153_s2 (a:Bool) (b c:Addr) (d:Value) (f g:Int) (w:World) (K:KT) (Y0:YT):Prop:=SG P (cA c153 819) none [1,2,0,9,10] [1,2,0,9,10] (f153_k5 K Y0) (Env.mk 27 [(25,(VB a)),(1,(VP (some b))),(2,(VP (some c))),(0,d),(9,(VI f)),(10,(VI g))] []) w
def f153_s3 (a b:Addr) (c:Value) (d f:Int) (w:World) (K:KT) (Y0:YT):Prop:=SG P (cA c153 103) none [10,1,2,0,9] [] (f153_kl0 K Y0) (Env.mk 27 [(1,(VP (some a))),(2,(VP (some b))),(0,c),(9,(VI d)),(10,(VI f))] []) w
theorem f153_s3_eq (a b:Addr) (c:Value) (d e:Int) (w:World) (K:KT) (Y0:YT):f153_s3 a b c d e w K Y0=(Y0 (Env.mk 27 [(10,(Value.int .i64 (IntKind.wrap .i64 ((e:Int)+1)))),(1,(Value.pointer (some a))),(2,(Value.pointer (some b))),(0,c),(9,(Value.int .i64 d))] []) w):=by kernel_rfl
theorem f153_s2_eq (a:Bool) (b c:Addr) (d:Value) (e f:Int) (w:World) (K:KT) (Y0:YT):f153_s2 a b c d e f w K Y0=(BIf a (K (Value.tuple [].toArray) w) (f153_s3 b c d e f w K Y0)):=by kernel_rfl
theorem f153_s1_eq (a b:Addr) (c:Value) (e d:Int) (w:World) (K:KT) (Y0:YT):f153_s1 a b c e d w K Y0=(∃ f:Int,w.drew.cell? b=some (.int .i64 f)∧∃ g:Option Addr,w.drew.cell? a=some (.pointer g)∧optS g (fun j=>∃ h:Int,w.drew.cell? (j.add 2)=some (.int .i64 h)∧CallF P c [(Value.int .i64 (IntKind.wrap .i64 ((BitVec.ofInt (IntKind.bits .i64) ((IntKind.wrap .i64 ((f:Int)+d)):Int) &&& BitVec.ofInt (IntKind.bits .i64) (IntKind.wrap .i64 ((h:Int) - 1))).toNat:Int)))] w.drew (fun k l=>∃ i:Bool,k=(.bool i)∧f153_s2 (!i) a b c e d l K Y0))):=by kernel_rfl
theorem f153_lb0_eq (a:Int) (c d:Addr) (e:Value) (b:Int) (w:World) (K:KT) (Y0:YT):f153_lb0 a c d e b w K Y0=(BIf (decide ((a:Int) < b)) (f153_s1 c d e b a w K Y0) (K (Value.tuple [].toArray) w)):=by kernel_rfl
theorem f153_eq (b:Value) (a c:Addr) (w:World) (K:KT):f153 b a c w K=(∃ d:Option Addr,w.cell? a=some (.pointer d)∧optS d (fun f=>∃ e:Int,w.cell? (f.add 2)=some (.int .i64 e)∧LoopE (f153_lp0 K) (Env.mk 27 [(10,(Value.int .i64 0)),(1,(Value.pointer (some a))),(2,(Value.pointer (some c))),(0,b),(9,(Value.int .i64 e))] []) w)):=by kernel_rfl
theorem f153_ok (a:Value) (b c:Addr) (w:World) (K:KT) (h:f153 a b c w K):CallL P 153 [a,(Value.pointer (some b)),(Value.pointer (some c))] w K:=okCS c153 Tryz.func153 (by kernel_rfl) (by kernel_rfl) h
noncomputable def c141:Code:=bodyOf Tryz.f141
noncomputable def rs141:List ResultVar:=Tryz.f141.results.toList
abbrev f141_kb (K:KT):Exit→YT:=bodyK P rs141 K
def f141 (a:OA) (b c:Nat) (d:Value) (w:World) (K:KT):Prop:=CS P c141 none [4] [4] (f141_kb K) (env0 19 [(VS a b c),d]) w
abbrev f141_k1 (K:KT):Exit→YT:=kseq P (cA c141 6) (cA c141 7) none [4] [4] (f141_kb K)
abbrev f141_k3 (K:KT):Exit→YT:=kblock 0 (f141_k1 K)
def f141_lp0 (K:KT) (Y0:YT) (e:Env) (w:World):Prop:=Join (fun e w=>CS P (cA c141 52) none [8,0,1,4,7] [4] (kloop [8,0,1,4,7] Y0 (f141_k3 K)) e w) e w
abbrev f141_kl0 (K:KT) (Y0:YT):Exit→YT:=kloop [8,0,1,4,7] Y0 (f141_k3 K)
def f141_lb0 (a:Int) (b:OA) (c d:Nat) (f:Value) (g h:Int) (w:World) (K:KT) (Y0:YT):Prop:=SG P (cA c141 52) none [8,0,1,4,7] [4] (f141_kl0 K Y0) (Env.mk 19 [(8,(VI a)),(0,(VS b c d)),(1,f),(4,(VI g)),(7,(VI h))] []) w
def f141_s1 (a:OA) (b c:Nat) (d:Value) (f g h:Int) (w:World) (K:KT) (Y0:YT):Prop:=SG P (cA c141 211) none [8,0,1,4,7] [4] (f141_kl0 K Y0) (Env.mk 19 [(0,(VS a b c)),(1,d),(7,(VI f)),(8,(VI g)),(4,(VI h))] []) w
def f141_s2 (a:OA) (b c:Nat) (d:Value) (f g h:Int) (w:World) (K:KT) (Y0:YT):Prop:=SG P (cA c141 423) none [8,0,1,4,7] [4] (f141_kl0 K Y0) (Env.mk 19 [(0,(VS a b c)),(1,d),(4,(VI f)),(7,(VI g)),(8,(VI h))] []) w
theorem f141_s2_eq (a:OA) (b c:Nat) (d:Value) (e f g:Int) (w:World) (K:KT) (Y0:YT):f141_s2 a b c d e f g w K Y0=(Y0 (Env.mk 19 [(8,(Value.int .i64 (IntKind.wrap .i64 ((g:Int)+1)))),(0,(Value.slice a b c)),(1,d),(4,(Value.int .i64 e)),(7,(Value.int .i64 f))] []) w):=by kernel_rfl
theorem f141_s1_eq (b:OA) (c e:Nat) (d:Value) (f a g:Int) (w:World) (K:KT) (Y0:YT):f141_s1 b c e d f a g w K Y0=(optS b (fun k=>0≤(a:Int)∧(a:Int) < (c:Nat)∧∃ h:Int,w.cell? (k.add (Int.toNat a * 1))=some (.int .u32 h)∧CallF P d [(Value.int .u32 h)] w (fun l i=>∃ j:Bool,l=(.bool j)∧BIf j (K (Value.int .i64 a) i) (f141_s2 b c e d g f a i K Y0)))):=by kernel_rfl
def f141_s3 (w:World) (K:KT):Prop:=SG P (cA c141 7) none [4] [4] (f141_kb K) (Env.mk 19 [] []) w
theorem f141_s3_eq (w:World) (K:KT):f141_s3 w K=(K (Value.int .i64 (-1)) w):=by kernel_rfl
theorem f141_lb0_eq (a:Int) (c:OA) (d e:Nat) (f:Value) (g b:Int) (w:World) (K:KT) (Y0:YT):f141_lb0 a c d e f g b w K Y0=(BIf (decide ((a:Int) < b)) (f141_s1 c d e f b a g w K Y0) (f141_s3 w K)):=by kernel_rfl
theorem f141_eq (b:OA) (a c:Nat) (d:Value) (w:World) (K:KT):f141 b a c d w K=(LoopE (f141_lp0 K) (Env.mk 19 [(8,(Value.int .i64 0)),(0,(Value.slice b a c)),(1,d),(4,(Value.int .i64 0)),(7,(Value.int .i64 ((a:Nat):Int)))] []) w):=by kernel_rfl
theorem f141_ok (a:OA) (b c:Nat) (d:Value) (w:World) (K:KT) (h:f141 a b c d w K):CallL P 141 [(Value.slice a b c),d] w K:=okCS c141 Tryz.func141 (by kernel_rfl) (by kernel_rfl) h
noncomputable def c123:Code:=bodyOf Tryz.f123
noncomputable def rs123:List ResultVar:=Tryz.f123.results.toList
abbrev f123_kb (K:KT):Exit→YT:=bodyK P rs123 K
def f123 (a:OA) (b c:Nat) (d e:Int) (w:World) (K:KT):Prop:=CS P c123 none [6,7] [6,7] (f123_kb K) (env0 32 [(VS a b c),(VI d),(Value.int .u32 e)]) w
def f123_s0 (a:Int) (b:Addr) (c:OA) (d f:Nat) (g:OA) (h i:Nat) (w:World) (K:KT):Prop:=SG P (cA c123 15) none [6,7] [6,7] (f123_kb K) (Env.mk 32 [(2,(Value.int .u32 a)),(4,(VP (some b))),(0,(VS c d f)),(8,(VS g h i))] []) w
def f123_s1 (a:Int) (b:Addr) (c:OA) (d f:Nat) (w:World) (K:KT):Prop:=SG P (cA c123 31) none [6,7] [6,7] (f123_kb K) (Env.mk 32 [(2,(Value.int .u32 a)),(4,(VP (some b))),(0,(VS c d f))] []) w
def f123_s2 (a:OA) (b c:Nat) (w:World) (K:KT):Prop:=SG P (cA c123 127) none [6,7] [6,7] (f123_kb K) (Env.mk 32 [(10,(VS a b c))] []) w
theorem f123_s2_eq (a:OA) (b c:Nat) (w:World) (K:KT):f123_s2 a b c w K=(K (Value.tuple [(Value.slice a b c),(Value.int .i64 0)].toArray) w):=by kernel_rfl
theorem f123_s1_eq (f:Int) (a:Addr) (g:OA) (h i:Nat) (w:World) (K:KT):f123_s1 f a g h i w K=(CallL P 109 [(Value.slice g h i)] w (fun s j=>∃ (b:OA) (c d:Nat),s=(.slice b c d)∧∃ e:Int,j.drew.cell? a=some (.int .i64 e)∧∃ (k:OA) (l m:Nat),(∀ wq,(Instr.sliceAt 38 (Value.slice b c d) (some (.int .i64 e)) none none).run P wq=.ok (.slice k l m) wq)∧CallL P 159 [(Value.slice none 0 0),(Value.int .u32 f)] j.drew (fun t n=>∃ (o:OA) (p q:Nat),t=(.slice o p q)∧n.cell? a=some (.int .i64 e)∧∃ u:Int,∃ r:World,(Builtin.copy_ #[38,38] 3 [(Value.slice k l m),(Value.slice o p q)].toArray).run P n=.ok (.int .i64 u) r∧f123_s2 b c d r K))):=by kernel_rfl
theorem f123_s0_eq (b:Int) (a:Addr) (c:OA) (d e:Nat) (f:OA) (g h:Nat) (w:World) (K:KT):f123_s0 b a c d e f g h w K=(CallL P 56 [(Value.slice f g h),(Value.func (.func 158) #[] #[(Value.pointer (some a))])] w (fun k i=>∃ j:Bool,k=(.bool j)∧BIf (!j) (K (Value.tuple [(Value.slice none 0 0),(Value.int .i64 1)].toArray) i) (f123_s1 b a c d e i K))):=by kernel_rfl
theorem f123_eq (a:OA) (b c:Nat) (e f:Int) (w:World) (K:KT):f123 a b c e f w K=(NewC #[(Value.int .i64 e)] 3 w (fun k l=>CallL P 54 [(Value.slice a b c)] l (fun m g=>∃ (h:OA) (i j:Nat),∃ d:Int,m=(.tuple [(Value.slice h i j),(Value.int .i64 d)].toArray)∧BIf ((d:Int) != 0) (K (Value.tuple [(Value.slice none 0 0),(Value.int .i64 d)].toArray) g) (f123_s0 f (Addr.mk k 0 none) a b c h i j g K)))):=by kernel_rfl
theorem f123_ok (a:OA) (b c:Nat) (d e:Int) (w:World) (K:KT) (h:f123 a b c d e w K):CallL P 123 [(Value.slice a b c),(Value.int .i64 d),(Value.int .u32 e)] w K:=okCS c123 Tryz.func123 (by kernel_rfl) (by kernel_rfl) h
noncomputable def c159:Code:=bodyOf Tryz.f159
noncomputable def rs159:List ResultVar:=Tryz.f159.results.toList
abbrev f159_kb (K:KT):Exit→YT:=bodyK P rs159 K
def f159 (a:OA) (b c:Nat) (d:Int) (w:World) (K:KT):Prop:=CS P c159 none [4] [4] (f159_kb K) (env0 19 [(VS a b c),(Value.int .u32 d)]) w
theorem f159_eq (b:OA) (c d:Nat) (a:Int) (w:World) (K:KT):f159 b c d a w K=(0≤(8:Int)∧0≤(16:Int)∧0≤(24:Int)∧sizesAre 1 [(Value.int .u8 (IntKind.wrap .u8 a)),(Value.int .u8 (IntKind.wrap .u8 ((a:Int).fdiv (2 ^ (min (Int.toNat 8) (IntKind.bits .u32)))))),(Value.int .u8 (IntKind.wrap .u8 ((a:Int).fdiv (2 ^ (min (Int.toNat 16) (IntKind.bits .u32)))))),(Value.int .u8 (IntKind.wrap .u8 ((a:Int).fdiv (2 ^ (min (Int.toNat 24) (IntKind.bits .u32))))))]∧NewC (([(Value.int .u8 (IntKind.wrap .u8 a)),(Value.int .u8 (IntKind.wrap .u8 ((a:Int).fdiv (2 ^ (min (Int.toNat 8) (IntKind.bits .u32)))))),(Value.int .u8 (IntKind.wrap .u8 ((a:Int).fdiv (2 ^ (min (Int.toNat 16) (IntKind.bits .u32)))))),(Value.int .u8 (IntKind.wrap .u8 ((a:Int).fdiv (2 ^ (min (Int.toNat 24) (IntKind.bits .u32))))))].map fun (v:Value)=>v.cells.toList).flatten.toArray) 5 w (fun i j=>∃ (e:OA) (f g:Nat),∃ h:World,(Builtin.append_ #[38,38] 38 [(Value.slice b c d),(Value.slice (some (Addr.mk i 0 none)) 4 4)].toArray).run P j=.ok (.slice e f g) h∧K (Value.slice e f g) h)):=by kernel_rfl
theorem f159_ok (a:OA) (b c:Nat) (d:Int) (w:World) (K:KT) (h:f159 a b c d w K):CallL P 159 [(Value.slice a b c),(Value.int .u32 d)] w K:=okCS c159 Tryz.func159 (by kernel_rfl) (by kernel_rfl) h
end Go.Fx.Tryz
namespace Go.Fx.Tryz
open Go Go.Fx Go.Fx.Ch
open Go.Proofs
set_option linter.all false
set_option maxRecDepth 20000
variable {w0 w:World} {H:HBL} {K:KT} {ov:Value} {bs:List Int}
theorem bs38 (w:World):(Instr.buildSlice 38 0 ([]:List (Nat × Value)).toArray).run P w=.ok (.slice (some ⟨w.heap.size,0,none⟩) 0 0) (w.alloc (.cells #[] 5 (0,0))):=by kernel_rfl
theorem one_B (l:List Int):∀ v∈l.map B,v.oneCell'=true:=by
 intro v hv
 obtain ⟨x,_,rfl⟩:=List.mem_map.1 hv
 rfl
theorem clone109_ok (h:St w0 w H) (hB:Bytes w0 H ov bs) (hK:∀ w' ov' L,SlO 1 5 ov' bs.length (bs.map B) L→New w0 L→St w0 w' (L++H)→K ov' w'):CallL P 109 [ov] w K:=by
 obtain ⟨sa,sc,rfl⟩:=(hB.row w h).form
 refine f109_ok _ _ _ _ _ ?_
 rw [f109_eq]
 cases sa with
 | none=>
  simp only [Option.isNone_none,BIf_true]
  have h0:bs.length=0:=by
   rcases (hB.row w h).2 with ⟨_,h0⟩ | ⟨ad,cp,h1,_⟩
   ·exact h0
   ·cases h1
  have hb:bs=[]:=List.eq_nil_of_length_eq_zero h0
  subst hb
  exact hK w _ [] (SlO.nil 1 5) (New.nil w0) h
 | some a=>
  simp only [Option.isNone_some,BIf_false]
  rw [f109_s0_eq]
  have h1:St w0 (w.alloc (.cells #[] 5 (0,0))) ([(w.heap.size,Cs [] 5)]++H):=h.alloc _
  have hS:SlO 1 5 (.slice (some ⟨w.heap.size,0,none⟩) 0 0) 0 [] [(w.heap.size,Cs [] 5)]:=⟨rfl,.inr ⟨w.heap.size,0,[],rfl,rfl,Nat.le_refl _,Nat.zero_le _,rfl,rfl⟩⟩
  have hN:New w0 [(w.heap.size,Cs [] 5)]:=fun x hx=>by rw [List.mem_singleton.1 hx]; exact h.le
  have hlen:=hB.len
  have hr:=hB.row _ (h1.sub hN)
  obtain ⟨v',w',L',hrun,hS',hs',hN'⟩:=St.appendS (P:=P) 38 38 5 Tryz.t5 (B 0) 1 1 Tryz.underlying38 (by kernel_rfl) rfl rfl rfl rfl (by omega) (A:=[]) (H:=H) h1 hS hN (ad:=a) (m:=bs.length) (c:=sc) (news:=bs.map B) (by simp) (fun j u hu=>by
   rcases hr.2 with ⟨h0,_⟩ | ⟨ad,cp,e1,e2⟩
   ·cases h0
   ·injection e1 with e1 _ _
    injection e1 with e1
    subst e1
    have hj:j < bs.length:=by
     have:=(List.getElem?_eq_some_iff.1 hu).1
     simpa using this
    rw [e2 j (by omega)]; exact hu) (one_B bs) (by simp [maxLen]; omega) (by omega)
  obtain ⟨va,vc,rfl⟩:=hS'.form
  refine ⟨_,_,_,_,bs38 w,_,_,_,w',hrun,?_⟩
  refine hK w' _ L' ?_ hN' hs'
  simpa using hS'
theorem word32_ok (h:St w0 w H) {c:Int} (h0:0≤c) (h1:c < 4294967296) (hK:∀ w' ov' L,SlO 1 5 ov' 4 ((le4 c).map B) L→New w0 L→St w0 w' (L++H)→K ov' w'):CallL P 159 [.slice none 0 0,U c] w K:=by
 refine f159_ok _ _ _ _ _ _ ?_
 rw [f159_eq]
 refine ⟨by omega,by omega,by omega,⟨rfl,rfl,rfl,rfl,trivial⟩,h.newC fun n5 w3 hn5 h3=>?_⟩
 have w8:∀ x:Int,IntKind.wrap .u8 x=x % 256:=fun x=>by simp [IntKind.wrap,IntKind.bits,IntKind.signed]
 have p8:(2:Int) ^ (min (Int.toNat 8) (IntKind.bits .u32))=256:=by decide
 have p16:(2:Int) ^ (min (Int.toNat 16) (IntKind.bits .u32))=65536:=by decide
 have p24:(2:Int) ^ (min (Int.toNat 24) (IntKind.bits .u32))=16777216:=by decide
 simp only [w8,p8,p16,p24,Int.fdiv_eq_ediv_of_nonneg c (show (0:Int)≤256 by decide),Int.fdiv_eq_ediv_of_nonneg c (show (0:Int)≤65536 by decide),Int.fdiv_eq_ediv_of_nonneg c (show (0:Int)≤16777216 by decide)] at h3
 have e:c / 16777216 % 256=c / 16777216 % 256:=rfl
 have h3:St w0 w3 ([(n5,Cs ((le4 c).map B) 5)]++([]++H)):=h3
 obtain ⟨v',w',L',hrun,hS',hs',hN'⟩:=St.appendS (P:=P) 38 38 5 Tryz.t5 (B 0) 1 1 Tryz.underlying38 (by kernel_rfl) rfl rfl rfl rfl (by omega) (A:=[(n5,Cs ((le4 c).map B) 5)]) (H:=H) h3 (SlO.nil 1 5) (New.nil w0) (ad:=Addr.mk n5 0 none) (m:=4) (c:=4) (news:=(le4 c).map B) (by simp [le4]) (fun j u hu=>by
  rw [add_lit',Nat.zero_add,cell_of (h3.has n5 _ (.head _))]; exact hu) (one_B _) (by simp [maxLen]) (by omega)
 obtain ⟨va,vc,rfl⟩:=hS'.form
 refine ⟨_,_,_,w',hrun,?_⟩
 exact hK w' _ L' (by simpa using hS') hN' ((hs':St w0 w' ((n5,_)::(L'++H))).tail hn5)
abbrev SP:=Int × Int
def Scs (s:SP):List Value:=[U s.1,J s.2]
theorem Scs_len (s:SP):(Scs s).length=2:=rfl
structure Spans (w0:World) (H:HBL) (ov:Value) (l:List SP):Prop where
 row:∀ w',St w0 w' H→Row w' 2 ov l.length (l.map Scs).flatten
 len:l.length < 1000000
def AsksS (w0:World) (H:HBL) (v:Value) (p:SP→Bool):Prop:=∀ (e:SP) (w':World) (Q:KT),St w0 w' H→(∀ w'',St w0 w'' H→Q (.bool (p e)) w'')→CallF P v [.agg (Scs e).toArray] w' Q
theorem index113_ok {l:List SP} {v:Value} {p:SP→Bool} (h:St w0 w H) (hS:Spans w0 H ov l) (hv:AsksS w0 H v p)
  (hK:∀ w',St w0 w' H→K (J (idxF p l)) w'):CallL P 113 [ov,v] w K:=by
 obtain ⟨a,c,rfl⟩:=(hS.row w h).form
 have hl:=hS.len
 refine f113_ok _ _ _ _ _ _ ?_
 rw [f113_eq]
 refine ⟨fun m e w'=>∃ i:Nat,i≤l.length∧m=l.length - i∧St w0 w' H∧(∀ x∈l.take i,p x=false)∧e=Env.mk 19 [(8,J i),(0,.slice a l.length c),(1,v),(4,J 0),(7,J l.length)] [],⟨_,0,by omega,rfl,h,by simp,rfl⟩,?_⟩
 rintro m e w' ⟨i,hi,rfl,hs,hx,rfl⟩
 show f113_lb0 ..
 rw [f113_lb0_eq,BIf_iff]
 refine ⟨fun hlt=>?_,fun hge=>?_⟩
 ·have hlt:i < l.length:=by have:=of_decide_eq_true hlt; omega
  rw [f113_s1_eq]
  obtain ⟨ad,cp,hac,hld⟩:=(hS.row w' hs).ldA hlt
  injection hac with hac _ _
  subst hac
  refine ⟨by omega,by omega,?_⟩
  rw [Int.toNat_natCast]
  refine hld _ ?_
  rw [flat_at Scs 2 Scs_len l hlt]
  refine hv _ _ _ hs fun w15 h15=>⟨_,rfl,?_⟩
  rw [BIf_iff]
  refine ⟨fun hb=>?_,fun hb=>?_⟩
  ·have hf:l.findIdx? p=some i:=by
    refine List.findIdx?_eq_some_iff_getElem.2 ⟨hlt,hb,fun j hj=>?_⟩
    have:=hx (l[j]'(by omega)) (by rw [List.mem_take_iff_getElem]; exact ⟨j,by omega,rfl⟩)
    rw [this]; simp
   have hK:=hK w15 h15
   unfold idxF at hK
   rw [hf] at hK
   exact hK
  ·rw [f113_s2_eq]
   refine ⟨l.length - (i+1),by omega,i+1,by omega,rfl,h15,?_,by rw [wrap_i64 (by omega) (by omega)]; rfl⟩
   intro x hx'
   rw [take_succ' l hlt,List.mem_append] at hx'
   rcases hx' with h | h
   ·exact hx x h
   ·rw [List.mem_singleton.1 h]; exact hb
 ·have:i=l.length:=by have:=of_decide_eq_false hge; omega
  subst this
  rw [List.take_length] at hx
  rw [f113_s3_eq]
  have hf:l.findIdx? p=none:=List.findIdx?_eq_none_iff.2 hx
  have hK:=hK w' hs
  unfold idxF at hK
  rw [hf] at hK
  exact hK
theorem contains65_ok {l:List SP} {v:Value} {p:SP→Bool} (h:St w0 w H) (hS:Spans w0 H ov l) (hv:AsksS w0 H v p) (hK:∀ w',St w0 w' H→K (.bool (l.any p)) w'):CallL P 65 [ov,v] w K:=by
 obtain ⟨a,c,rfl⟩:=(hS.row w h).form
 refine f65_ok _ _ _ _ _ _ ?_
 rw [f65_eq]
 refine index113_ok h hS hv fun w' h'=>⟨_,rfl,?_⟩
 rw [idxF_any]
 exact hK w' h'
def badS (s:SP):Bool:=decide (s.2 < 1) || decide (s.2 > 65536)
def areSpansF (l:List SP):Bool:=decide (l.length≤100) && !l.any badS
theorem asks99:AsksS w0 H (.func (.func 99) #[] #[]) badS:=fun e w' Q h hQ=>by
 refine callF_fn (by kernel_rfl) (f99_ok _ _ _ ?_)
 rw [f99_eq]
 refine h.newC fun n1 w2 hn1 h2=>⟨e.2,by rw [add_lit']; exact h2.cell (k:=0) rfl,?_⟩
 have hQ:=hQ _ (h2.tail hn1)
 unfold badS at hQ
 cases hb:decide (e.2 < 1) <;> rw [hb] at hQ <;> simp only [BIf_true,BIf_false,f99_s0_eq]
 ·exact ⟨e.2,by rw [add_lit']; exact h2.cell (k:=0) rfl,hQ⟩
 ·exact hQ
theorem areSpans_ok {l:List SP} (h:St w0 w H) (hS:Spans w0 H ov l) (hK:∀ w',St w0 w' H→K (.bool (areSpansF l)) w'):CallL P 55 [ov] w K:=by
 obtain ⟨a,c,rfl⟩:=(hS.row w h).form
 refine f55_ok _ _ _ _ _ ?_
 rw [f55_eq,BIf_iff]
 refine ⟨fun hb=>?_,fun hb=>?_⟩
 ·have hb:l.length≤100:=by have:=of_decide_eq_true hb; omega
  refine contains65_ok h hS asks99 fun w' h'=>⟨_,rfl,?_⟩
  rw [f55_s0_eq]
  have hK:=hK w' h'
  unfold areSpansF at hK
  rw [show decide (l.length≤100)=true by simpa using hb] at hK
  exact hK
 ·have hb:¬ l.length≤100:=by have:=of_decide_eq_false hb; omega
  rw [f55_s0_eq]
  have hK:=hK w h
  unfold areSpansF at hK
  rw [show decide (l.length≤100)=false by simpa using hb] at hK
  exact hK
def chainedF (e:EX):Bool:=e.jump == 1 || e.jump == 2
theorem chained_ok (h:St w0 w H) {e:EX} (hK:∀ w',St w0 w' H→K (.bool (chainedF e)) w'):CallL P 79 [.agg (Xc e).toArray] w K:=by
 refine f79_ok _ _ _ ?_
 rw [f79_eq]
 refine h.newC fun n1 w2 hn1 h2=>⟨e.jump,by rw [add_lit']; exact h2.cell (k:=0) rfl,?_⟩
 have hK:=hK _ (h2.tail hn1)
 unfold chainedF at hK
 cases hb:(e.jump == 1) <;> rw [hb] at hK <;> simp only [BIf_true,BIf_false,f79_s0_eq]
 ·exact ⟨e.jump,by rw [add_lit']; exact h2.cell (k:=0) rfl,hK⟩
 ·exact hK
def meetsF (a b:SP):Bool:=!(decide (a.2 < 1)) && !(decide (b.2 < 1)) && (decide ((b.1 - a.1) % 4294967296 < a.2) || decide ((a.1 - b.1) % 4294967296 < b.2))
theorem meets_ok (h:St w0 w H) {a b:SP} (hK:∀ w',St w0 w' H→K (.bool (meetsF a b)) w'):CallL P 67 [.agg (Scs a).toArray,.agg (Scs b).toArray] w K:=by
 refine f67_ok _ _ _ _ ?_
 rw [f67_eq]
 refine h.newC fun n2 w3 hn2 h3=>h3.newC fun n4 w5 hn4 h5=>?_
 have h5:St w0 w5 ((n4,Cs (Scs b) 36)::(n2,Cs (Scs a) 36)::H):=h5
 have hK:=hK w5 ((h5.tail hn4).tail hn2)
 have a0:w5.cell? (Addr.mk n2 0 none)=some (U a.1):=h5.cell (k:=1) rfl
 have a1:w5.cell? (Addr.mk n2 1 none)=some (J a.2):=h5.cell (k:=1) rfl
 have b0:w5.cell? (Addr.mk n4 0 none)=some (U b.1):=h5.cell (k:=0) rfl
 have b1:w5.cell? (Addr.mk n4 1 none)=some (J b.2):=h5.cell (k:=0) rfl
 have wu:∀ x:Int,IntKind.wrap .i64 (IntKind.wrap .u32 x)=x % 4294967296:=fun x=>by
  have:IntKind.wrap .u32 x=x % 4294967296:=by simp [IntKind.wrap,IntKind.bits,IntKind.signed]
  rw [this,wrap_i64 (by omega) (by omega)]
 unfold meetsF at hK
 refine ⟨a.2,by rw [add_lit']; exact a1,?_⟩
 cases h1:decide (a.2 < 1) <;> rw [h1] at hK <;> simp only [BIf_true,BIf_false]
 ·refine ⟨b.2,by rw [add_lit']; exact b1,?_⟩
  cases h2:decide (b.2 < 1) <;> rw [h2] at hK <;> rw [f67_s0_eq] <;> simp only [BIf_true,BIf_false]
  ·rw [f67_s1_eq]
   refine ⟨b.1,b0,a.1,a0,a.2,by rw [add_lit']; exact a1,?_⟩
   rw [wu]
   cases h3:decide ((b.1 - a.1) % 4294967296 < a.2) <;> rw [h3] at hK <;> simp only [BIf_true,BIf_false]
   ·refine ⟨a.1,a0,b.1,b0,b.2,by rw [add_lit']; exact b1,?_⟩
    rw [f67_s2_eq,wu]
    exact hK
   ·rw [f67_s2_eq]; exact hK
  ·exact hK
 ·rw [f67_s0_eq]; simp only [BIf_true]; exact hK
end Go.Fx.Tryz
namespace Go.Fx.Ch
def homeF (k:Nat) (at_:Int):Int:=(at_ / 4 * 2654435761) % 4294967296 / 2 ^ (32 - k)
def isConfF (sec len slots:Int):Bool:=decide (1≤sec) && decide (sec≤16) && decide (256≤len) && decide (len≤1048576) && decide (16≤slots) && decide (slots≤65536) && decide (∃ k,k∈[4,5,6,7,8,9,10,11,12,13,14,15,16]∧slots=2 ^ k)
def tab64:List Int:=[0,1,56,2,57,49,28,3,61,58,42,50,38,29,17,4,62,47,59,36,45,43,51,22,53,39,33,30,24,18,12,5,63,55,48,27,60,41,37,16,46,35,44,21,52,32,23,11,54,26,40,15,34,20,31,10,25,14,19,9,13,8,7,6]
end Go.Fx.Ch
namespace Go.Fx.Tryz
open Go Go.Fx Go.Fx.Ch
open Go.Proofs
set_option linter.all false
set_option maxRecDepth 20000
variable {w0 w:World} {H:HBL} {K:KT}
theorem k_cases {k:Nat} (h4:4≤k) (h16:k≤16):k=4∨k=5∨k=6∨k=7∨k=8∨k=9∨k=10∨k=11∨k=12∨k=13∨k=14∨k=15∨k=16:=by omega
def tzI (x:Int):Int:=(IntKind.wrap .u64 ((IntKind.wrap .u64 ((BitVec.ofInt (IntKind.bits .u64) x &&& BitVec.ofInt (IntKind.bits .u64) (IntKind.wrap .u64 (0 - x))).toNat:Int)) * 285870213051353865)).fdiv (2 ^ (min (Int.toNat 58) (IntKind.bits .u64)))
theorem tzI_ok {k:Nat} (h4:4≤k) (h16:k≤16):0≤tzI (2 ^ k)∧tzI (2 ^ k) < 64∧tab64[(tzI (2 ^ k)).toNat]?=some (k:Int):=by
 rcases k_cases h4 h16 with rfl | rfl | rfl | rfl | rfl | rfl | rfl | rfl | rfl | rfl | rfl | rfl | rfl <;> decide
theorem tz_ok {k:Nat} (h4:4≤k) (h16:k≤16) {t:TypeId} (ht:(2,Cs (tab64.map fun x=>.int .u8 x) t)∈H) (h:St w0 w H) (hK:K (J k) w):CallL P 154 [.int .u64 (2 ^ k)] w K:=by
 refine f154_ok _ _ _ ?_
 rw [f154_eq,f154_s0_eq]
 refine f178_ok _ _ _ ?_
 obtain ⟨h1,h2,h3⟩:=tzI_ok h4 h16
 rw [f178_eq]
 have hne:(((2:Int) ^ k) == 0)=false:=by
  rcases k_cases h4 h16 with rfl | rfl | rfl | rfl | rfl | rfl | rfl | rfl | rfl | rfl | rfl | rfl | rfl <;> decide
 rw [hne]
 simp only [BIf_false]
 rw [f178_s0_eq]
 refine ⟨by omega,h1,h2,(k:Int),?_,(k:Int),?_⟩
 ·show w.cell? ((Addr.mk 2 0 none).add ((tzI (2 ^ k)).toNat * 1))=_
  rw [add_lit',Nat.mul_one,Nat.zero_add,cell_of (h.has _ _ ht),List.getElem?_map,h3]
  rfl
 ·rw [wrap_i64 (by omega) (by omega)]
  exact ⟨rfl,hK⟩
theorem none_ok {a:Option Addr} {slots:Int} (ha:∀ b,a=some b→w.cell? (b.add 2)=some (J slots)) (hK:K (.bool (match a with | none=>true | some _=>slots == 0)) w):CallL P 53 [.pointer a] w K:=by
 refine f53_ok _ _ _ ?_
 rw [f53_eq]
 cases a with
 | none=>simp only [Option.isNone_none,BIf_true]; rw [f53_s0_eq]; exact hK
 | some b=>
  simp only [Option.isNone_some,BIf_false]
  refine ⟨slots,ha b rfl,?_⟩
  rw [f53_s0_eq]; exact hK
theorem limit_ok {a:Addr} {slots:Int} (ha:w.cell? (a.add 2)=some (J slots)) (h0:0≤slots) (h1:slots≤65536) (hK:K (J (slots / 4 * 3)) w):CallL P 59 [.pointer (some a)] w K:=by
 refine f59_ok _ _ _ ?_
 rw [f59_eq]
 refine ⟨slots,ha,by omega,?_⟩
 have e:slots.tdiv 4=slots / 4:=Int.tdiv_eq_ediv_of_nonneg h0
 rw [e,wrap_i64 (x:=slots / 4) (by omega) (by omega),wrap_i64 (by omega) (by omega)]
 exact hK
theorem home_ok {a:Addr} {k:Nat} (h4:4≤k) (h16:k≤16) {t:TypeId} (ht:(2,Cs (tab64.map fun x=>.int .u8 x) t)∈H) (h:St w0 w H) (ha:w.cell? (a.add 2)=some (J (2 ^ k))) {at_:Int} (h0:0≤at_) (h1:at_ < 4294967296)
  (hK:K (J (homeF k at_)) w):CallL P 111 [.pointer (some a),U at_] w K:=by
 refine f111_ok _ _ _ _ ?_
 rw [f111_eq]
 refine ⟨by omega,2 ^ k,ha,?_⟩
 have hw:IntKind.wrap .u64 (2 ^ k)=2 ^ k:=by
  rcases k_cases h4 h16 with rfl | rfl | rfl | rfl | rfl | rfl | rfl | rfl | rfl | rfl | rfl | rfl | rfl <;> decide
 rw [hw]
 refine tz_ok h4 h16 ht h ⟨_,rfl,?_⟩
 rw [wrap_i64 (x:=(32:Int) - k) (by omega) (by omega)]
 refine ⟨by omega,?_⟩
 have e:at_.tdiv 4=at_ / 4:=Int.tdiv_eq_ediv_of_nonneg h0
 have wu:∀ x:Int,IntKind.wrap .u32 x=x % 4294967296:=fun x=>by simp [IntKind.wrap,IntKind.bits,IntKind.signed]
 have em:(at_ / 4) % 4294967296=at_ / 4:=by omega
 have e2:min (Int.toNat ((32:Int) - k)) (IntKind.bits .u32)=32 - k:=by show min (Int.toNat ((32:Int) - k)) 32=32 - k; omega
 rw [e,wu,wu,em,e2,Int.fdiv_eq_ediv_of_nonneg _ (Int.le_of_lt (Int.pow_pos (by decide)))]
 have hb:0≤homeF k at_∧homeF k at_ < 4294967296:=by
  unfold homeF
  have h1:0≤(at_ / 4 * 2654435761) % 4294967296:=Int.emod_nonneg _ (by decide)
  have h2:(at_ / 4 * 2654435761) % 4294967296 < 4294967296:=Int.emod_lt_of_pos _ (by decide)
  have hp:(0:Int) < 2 ^ (32 - k):=Int.pow_pos (by decide)
  exact ⟨Int.ediv_nonneg h1 (Int.le_of_lt hp),Int.lt_of_le_of_lt (Int.ediv_le_self _ h1) h2⟩
 have:(at_ / 4 * 2654435761) % 4294967296 / 2 ^ (32 - k)=homeF k at_:=rfl
 rw [this,wrap_i64 (by omega) (by omega)]
 exact hK
end Go.Fx.Tryz
namespace Go.Fx.Tryz
open Go Go.Fx Go.Fx.Ch
open Go.Proofs
set_option linter.all false
set_option maxRecDepth 20000
variable {w0 w:World} {H:HBL} {K:KT} {ov sv cv:Value} {bs:List Int} {l:List SP}
theorem bs37 (w:World):(Instr.buildSlice 37 0 ([]:List (Nat × Value)).toArray).run P w=.ok (.slice (some ⟨w.heap.size,0,none⟩) 0 0) (w.alloc (.cells #[] 36 (0,0))):=by kernel_rfl
theorem one_S (l:List SP):∀ v∈(l.map Scs).flatten,v.oneCell'=true:=by
 intro v hv
 obtain ⟨x,hx,hv⟩:=List.mem_flatten.1 hv
 obtain ⟨s,_,rfl⟩:=List.mem_map.1 hx
 simp [Scs] at hv
 rcases hv with rfl | rfl <;> rfl
theorem clone108_ok (h:St w0 w H) (hB:Spans w0 H ov l) (hK:∀ w' ov' L,SlO 2 36 ov' l.length (l.map Scs).flatten L→New w0 L→St w0 w' (L++H)→K ov' w'):CallL P 108 [ov] w K:=by
 obtain ⟨sa,sc,rfl⟩:=(hB.row w h).form
 refine f108_ok _ _ _ _ _ ?_
 rw [f108_eq]
 cases sa with
 | none=>
  simp only [Option.isNone_none,BIf_true]
  have h0:l.length=0:=by
   rcases (hB.row w h).2 with ⟨_,h0⟩ | ⟨ad,cp,h1,_⟩
   ·exact h0
   ·cases h1
  have hb:l=[]:=List.eq_nil_of_length_eq_zero h0
  subst hb
  exact hK w _ [] (SlO.nil 2 36) (New.nil w0) h
 | some a=>
  simp only [Option.isNone_some,BIf_false]
  rw [f108_s0_eq]
  have h1:St w0 (w.alloc (.cells #[] 36 (0,0))) ([(w.heap.size,Cs [] 36)]++H):=h.alloc _
  have hS:SlO 2 36 (.slice (some ⟨w.heap.size,0,none⟩) 0 0) 0 [] [(w.heap.size,Cs [] 36)]:=⟨rfl,.inr ⟨w.heap.size,0,[],rfl,rfl,Nat.le_refl _,Nat.zero_le _,rfl,rfl⟩⟩
  have hN:New w0 [(w.heap.size,Cs [] 36)]:=fun x hx=>by rw [List.mem_singleton.1 hx]; exact h.le
  have hlen:=hB.len
  have hr:=hB.row _ (h1.sub hN)
  have hfl:=flat_len Scs 2 Scs_len l
  obtain ⟨v',w',L',hrun,hS',hs',hN'⟩:=St.appendS (P:=P) 37 37 36 Tryz.t36 (.agg #[U 0,J 0]) 2 16 Tryz.underlying37 (by kernel_rfl) rfl rfl rfl rfl (by omega) (A:=[]) (H:=H) h1 hS hN (ad:=a) (m:=l.length) (c:=sc) (news:=(l.map Scs).flatten) hfl (fun j u hu=>by
   rcases hr.2 with ⟨h0,_⟩ | ⟨ad,cp,e1,e2⟩
   ·cases h0
   ·injection e1 with e1 _ _
    injection e1 with e1
    subst e1
    have hj:j < l.length * 2:=by
     have:=(List.getElem?_eq_some_iff.1 hu).1
     rw [hfl] at this; exact this
    rw [e2 j hj]; exact hu) (one_S l) (by simp [maxLen]; omega) (by omega)
  obtain ⟨va,vc,rfl⟩:=hS'.form
  refine ⟨_,_,_,_,bs37 w,_,_,_,w',hrun,?_⟩
  refine hK w' _ L' ?_ hN' hs'
  simpa using hS'
def Tcs (at_:Int) (sv cv:Value):List Value:=[U at_,sv,cv]
theorem z41:∃ z:List Value,zcells P 41=z.toArray∧z.length=3:=⟨[U 0,.slice none 0 0,.slice none 0 0],by kernel_rfl,rfl⟩
theorem copied_ok (h:St w0 w H) {at_:Int} (hS:Spans w0 H sv l) (hB:Bytes w0 H cv bs)
  (hK:∀ w' sv' cv' L M,SlO 2 36 sv' l.length (l.map Scs).flatten L→New w0 L→SlO 1 5 cv' bs.length (bs.map B) M→New w0 M→St w0 w' (M++(L++H))→K (.agg (Tcs at_ sv' cv').toArray) w') :
  CallL P 62 [.agg (Tcs at_ sv cv).toArray] w K:=by
 obtain ⟨sa,sc,rfl⟩:=(hS.row w h).form
 obtain ⟨ca,cc,rfl⟩:=(hB.row w h).form
 refine f62_ok _ _ _ ?_
 obtain ⟨z,hz,hzl⟩:=z41
 rw [f62_eq,hz]
 refine h.newC fun n1 w2 hn1 h2=>h2.newC fun n3 w4 hn3 h4=>?_
 have h4:St w0 w4 ([(n3,Cs z 41),(n1,Cs (Tcs at_ (.slice sa l.length sc) (.slice ca bs.length cc)) 41)]++H):=h4
 have h5:=h4.drew
 have hnew:New w0 [(n3,Cs z 41),(n1,Cs (Tcs at_ (.slice sa l.length sc) (.slice ca bs.length cc)) 41)]:=fun x hx=>by
  simp only [List.mem_cons,List.not_mem_nil,or_false] at hx
  rcases hx with rfl | rfl <;> assumption
 refine ⟨_,_,_,by rw [add_lit']; exact h5.cell (k:=1) rfl,_,_,_,by rw [add_lit']; exact h5.cell (k:=1) rfl,?_⟩
 refine clone108_ok (l:=l) h5 ⟨fun w' h'=>hS.row w' (h'.sub hnew),hS.len⟩ fun w8 sv' L hSL hNL h8=>?_
 obtain ⟨sa',sc',rfl⟩:=hSL.form
 have hi1:(n1,Cs (Tcs at_ (.slice sa l.length sc) (.slice ca bs.length cc)) 41)∈L++([(n3,Cs z 41),(n1,Cs (Tcs at_ (.slice sa l.length sc) (.slice ca bs.length cc)) 41)]++H):=List.mem_append_right _ (.tail _ (.head _))
 refine ⟨_,_,_,rfl,by rw [add_lit']; exact cell_of (h8.has _ _ hi1),?_⟩
 refine clone109_ok (bs:=bs) h8 ⟨fun w' h'=>hB.row w' ((h'.sub hNL).sub hnew),hB.byte,hB.len,hB.cap⟩ fun w11 cv' M hSM hNM h11=>?_
 obtain ⟨ca',cc',rfl⟩:=hSM.form
 refine ⟨_,_,_,rfl,?_⟩
 have h12:St w0 w11 ((n1,Cs (Tcs at_ (.slice sa l.length sc) (.slice ca bs.length cc)) 41)::(n3,Cs z 41)::(M++(L++H))):=h11.perm (perm_by fun c=>by simp only [List.map_append,List.map_cons,List.sum_append,List.sum_cons,List.map_nil,List.sum_nil]; omega)
 rw [add_lit',add_lit']
 refine h12.st1 (k:=0) rfl (by simp [Tcs]) rfl fun w13 h13=>?_
 refine h13.st1 (k:=0) rfl (by simp [Tcs]) rfl fun w14 h14=>?_
 have h14:St w0 w14 ((n1,Cs (Tcs at_ (.slice sa' l.length sc') (.slice ca' bs.length cc')) 41)::(n3,Cs z 41)::(M++(L++H))):=h14
 rw [f62_s0_eq]
 refine h14.ldA (k:=0) (i:=0) rfl (by simp [Tcs]) ?_
 refine h14.stA (k:=1) rfl rfl (by simp [hzl]) (by simp [Tcs,Value.oneCell']) fun w18 h18=>?_
 have h18:St w0 w18 ((n1,Cs (Tcs at_ (.slice sa' l.length sc') (.slice ca' bs.length cc')) 41)::(n3,Cs (splice z 0 (Tcs at_ (.slice sa' l.length sc') (.slice ca' bs.length cc'))) 41)::(M++(L++H))):=h18
 rw [splice_all _ _ (by rw [hzl]; rfl)] at h18
 refine h18.ldA (k:=1) (i:=0) rfl (by simp [Tcs]) ?_
 exact hK w18 _ _ L M hSL hNL hSM hNM ((h18.tail hn1).tail hn3)
theorem asks66 {b:Nat} {s:SP} {t:TypeId} (hb:(b,Cs (Scs s) t)∈H):AsksS w0 H (.func (.func 66) #[] #[.pointer (some (Addr.mk b 0 none))]) (fun e=>meetsF s e):=fun e w' Q h hQ=>by
 refine callF_fn (by kernel_rfl) (f66_ok _ _ _ _ ?_)
 rw [f66_eq]
 refine h.newC fun n2 w3 hn2 h3=>?_
 refine LdA_of (h3.has _ _ (.tail _ hb)) (by simp [Scs]) ?_
 refine h3.ldA (k:=0) (i:=0) rfl (by simp [Scs]) ?_
 exact meets_ok (a:=s) (b:=e) h3 fun w7 h7=>⟨_,rfl,hQ _ (h7.tail hn2)⟩
end Go.Fx.Tryz
namespace Go.Fx.Tryz
open Go Go.Fx Go.Fx.Ch
open Go.Proofs
set_option linter.all false
set_option maxRecDepth 20000
variable {w0 w:World} {H:HBL} {K:KT}
theorem pow_test {x:Int} (h0:16≤x) (h1:x≤65536) :
  ((IntKind.wrap .i64 ((BitVec.ofInt (IntKind.bits .i64) x &&& BitVec.ofInt (IntKind.bits .i64) (IntKind.wrap .i64 (x - 1))).toNat:Int)) == 0)=decide (∃ k,k∈[4,5,6,7,8,9,10,11,12,13,14,15,16]∧x=2 ^ k):=by
 obtain ⟨n,rfl⟩:=Int.eq_ofNat_of_zero_le (show (0:Int)≤x by omega)
 have e1:((n:Nat):Int) - 1=((n - 1:Nat):Int):=by omega
 rw [e1,wrap_i64 (x:=((n - 1:Nat):Int)) (by omega) (by omega)]
 have e:(BitVec.ofInt (IntKind.bits .i64) ((n:Nat):Int) &&& BitVec.ofInt (IntKind.bits .i64) ((n - 1:Nat):Int)).toNat=n &&& (n - 1):=by
  show (BitVec.ofInt 64 ((n:Nat):Int) &&& BitVec.ofInt 64 ((n - 1:Nat):Int)).toNat=_
  rw [BitVec.toNat_and,BitVec.ofInt_natCast,BitVec.ofInt_natCast,BitVec.toNat_ofNat,BitVec.toNat_ofNat,Nat.mod_eq_of_lt (by omega),Nat.mod_eq_of_lt (by omega)]
 have hle:n &&& (n - 1)≤n:=Nat.and_le_left
 rw [e,wrap_i64 (by omega) (by omega),Bool.eq_iff_iff]
 simp only [beq_iff_eq,decide_eq_true_eq]
 have hz:(((n &&& (n - 1):Nat):Int)=0)↔n &&& (n - 1)=0:=by omega
 rw [hz,Nat.and_sub_one_eq_zero_iff_isPowerOfTwo (by omega)]
 constructor
 ·rintro ⟨k,rfl⟩
  have hk4:4≤k:=by
   rcases Nat.lt_or_ge k 4 with h | h
   ·exfalso
    have:k=0∨k=1∨k=2∨k=3:=by omega
    rcases this with rfl | rfl | rfl | rfl <;> simp at h0
   ·exact h
  have hk16:k≤16:=by
   rcases Nat.lt_or_ge 16 k with h | h
   ·exfalso
    have:2 ^ 17≤2 ^ k:=Nat.pow_le_pow_right (by decide) h
    have:(131072:Nat)≤2 ^ k:=this
    omega
   ·exact h
  refine ⟨k,?_,by rw [Int.natCast_pow]; rfl⟩
  rcases k_cases hk4 hk16 with rfl | rfl | rfl | rfl | rfl | rfl | rfl | rfl | rfl | rfl | rfl | rfl | rfl <;> simp
 ·rintro ⟨k,_,hk⟩
  refine ⟨k,?_⟩
  have:((2 ^ k:Nat):Int)=2 ^ k:=by rw [Int.natCast_pow]; rfl
  omega
theorem isConf_ok (h:St w0 w H) {sec len slots:Int} (hK:∀ w',St w0 w' H→K (.bool (isConfF sec len slots)) w'):CallL P 51 [.agg #[J sec,J len,J slots]] w K:=by
 refine f51_ok _ _ _ ?_
 rw [f51_eq]
 refine h.newC fun n1 w2 hn1 h2=>?_
 have hK:=hK w2 (h2.tail hn1)
 have c0:w2.cell? (Addr.mk n1 0 none)=some (J sec):=h2.cell (k:=0) rfl
 have c1:w2.cell? (Addr.mk n1 1 none)=some (J len):=h2.cell (k:=0) rfl
 have c2:w2.cell? (Addr.mk n1 2 none)=some (J slots):=h2.cell (k:=0) rfl
 have fls:∀ {P:Prop},isConfF sec len slots=false→f51_s0 false w2 K:=fun hf=>by rw [f51_s0_eq,← hf]; exact hK
 simp only [add_lit',Nat.zero_add]
 refine ⟨sec,c0,?_⟩
 cases h1:decide (sec≥1) <;> simp only [BIf_true,BIf_false]
 ·exact fls (P:=True) (by have:=of_decide_eq_false h1; unfold isConfF; rw [show decide (1≤sec)=false by simp; omega]; rfl)
 refine ⟨sec,c0,?_⟩
 cases h2':decide (sec≤16) <;> simp only [BIf_true,BIf_false]
 ·exact fls (P:=True) (by unfold isConfF; rw [h2']; simp)
 refine ⟨len,c1,?_⟩
 cases h3:decide (len≥256) <;> simp only [BIf_true,BIf_false]
 ·exact fls (P:=True) (by have:=of_decide_eq_false h3; unfold isConfF; rw [show decide (256≤len)=false by simp; omega]; simp)
 refine ⟨len,c1,?_⟩
 cases h4:decide (len≤1048576) <;> simp only [BIf_true,BIf_false]
 ·exact fls (P:=True) (by unfold isConfF; rw [h4]; simp)
 refine ⟨slots,c2,?_⟩
 cases h5:decide (slots≥16) <;> simp only [BIf_true,BIf_false]
 ·exact fls (P:=True) (by have:=of_decide_eq_false h5; unfold isConfF; rw [show decide (16≤slots)=false by simp; omega]; simp)
 refine ⟨slots,c2,?_⟩
 cases h6:decide (slots≤65536) <;> simp only [BIf_true,BIf_false]
 ·exact fls (P:=True) (by unfold isConfF; rw [h6]; simp)
 refine ⟨slots,c2,slots,c2,?_⟩
 rw [f51_s0_eq,pow_test (of_decide_eq_true h5) (of_decide_eq_true h6)]
 have e:isConfF sec len slots=decide (∃ k,k∈[4,5,6,7,8,9,10,11,12,13,14,15,16]∧slots=2 ^ k):=by
  unfold isConfF
  rw [show decide (1≤sec)=true from h1,h2',show decide (256≤len)=true from h3,h4,show decide (16≤slots)=true from h5,h6]
  rfl
 rw [e] at hK
 exact hK
end Go.Fx.Tryz
namespace Go.Fx
open Go
set_option linter.unusedSectionVars false
variable {P:Program}
structure KeyT (P:Program) (kt:TypeId) {K:Type} (enc:K→Value):Prop where
 check:∀ w em k,(Instr.checkKey em 10000 kt (enc k)).run P w=.ok () w
 find:∀ w k (es:List MapEntry),(∀ e∈es,∃ x,e.key=enc x)→
  ((Instr.findKey kt (enc k) es).run P w=.ok none w∧∀ e∈es,e.key≠enc k)∨∃ j e,(Instr.findKey kt (enc k) es).run P w=.ok (some (j,e.val)) w∧es[j]?=some e∧e.key=enc k
 stays:∀ w k,(Instr.keyThatStays (enc k) (enc k)).run P w=.ok (enc k) w
 inj:∀ {a b},enc a=enc b→a=b
variable {K:Type} [DecidableEq K] {enc:K→Value} {kt:TypeId}
structure MapIs (enc:K→Value) (es:Array MapEntry) (clk:Nat) (m:List (K × Value)):Prop where
 st:MapKept.Stamped es clk
 perm:(es.toList.map fun e=>(e.key,e.val)).Perm (m.map fun p=>(enc p.1,p.2))
def lookM (m:List (K × Value)) (k:K):Option Value:=(m.find? fun p=>p.1 == k).map (·.2)
def putM (m:List (K × Value)) (k:K) (v:Value):List (K × Value):=match lookM m k with
 | some _=>m.map fun p=>if p.1=k then (p.1,v) else p
 | none=>m++[(k,v)]
theorem lookM_none {m:List (K × Value)} {k:K}:lookM m k=none↔∀ p∈m,p.1≠k:=by
 simp [lookM]
theorem lookM_some {m:List (K × Value)} {k:K} {v:Value} (hn:(m.map (·.1)).Nodup):lookM m k=some v↔(k,v)∈m:=by
 induction m with
 | nil=>simp [lookM]
 | cons p r ih=>
  simp only [List.map_cons,List.nodup_cons] at hn
  simp only [lookM,List.find?_cons]
  by_cases hp:p.1=k
  ·subst hp
   simp only [beq_self_eq_true,Option.map_some,Option.some.injEq,List.mem_cons]
   constructor
   ·rintro rfl; exact .inl rfl
   ·rintro (h | h)
    ·rw [← h]
    ·exact absurd (List.mem_map.2 ⟨_,h,rfl⟩) hn.1
  ·have:(p.1 == k)=false:=by simpa using hp
   rw [this]
   simp only [List.mem_cons]
   have ih:=ih hn.2
   unfold lookM at ih
   rw [ih]
   constructor
   ·exact .inr
   ·rintro (h | h)
    ·exact absurd (by rw [← h]) hp
    ·exact h
namespace MapIs
variable {es:Array MapEntry} {clk:Nat} {m:List (K × Value)}
theorem empty:MapIs enc #[] 0 ([]:List (K × Value)):=⟨MapKept.stamped_empty 0,by simp⟩
theorem keys (h:MapIs enc es clk m):∀ e∈es.toList,∃ x,e.key=enc x:=fun e he=>by
 have:(e.key,e.val)∈es.toList.map fun e=>(e.key,e.val):=List.mem_map.2 ⟨e,he,rfl⟩
 obtain ⟨p,_,hp⟩:=List.mem_map.1 (h.perm.mem_iff.1 this)
 exact ⟨p.1,(congrArg Prod.fst hp).symm⟩
theorem nodup (h:MapIs enc es clk m):(m.map (·.1)).Nodup:=by
 have h1:=h.st.2.2
 have h2:=h.perm.map Prod.fst
 rw [List.map_map,List.map_map] at h2
 have h3:(m.map (Prod.fst ∘ fun p=>(enc p.1,p.2))).Nodup:=h2.nodup_iff.1 h1
 have:m.map (Prod.fst ∘ fun p=>(enc p.1,p.2))=(m.map (·.1)).map enc:=by simp [Function.comp_def]
 rw [this] at h3
 exact List.Pairwise.of_map enc (fun a b hab e=>hab (by rw [e])) h3
theorem size (h:MapIs enc es clk m):es.size=m.length:=by
 have:=h.perm.length_eq
 simpa using this
theorem mem (h:MapIs enc es clk m) (kl:KeyT P kt enc) {e:MapEntry} (he:e∈es.toList) {k:K} (hk:e.key=enc k):(k,e.val)∈m:=by
 have:(e.key,e.val)∈es.toList.map fun e=>(e.key,e.val):=List.mem_map.2 ⟨e,he,rfl⟩
 obtain ⟨p,hp,hpe⟩:=List.mem_map.1 (h.perm.mem_iff.1 this)
 have h1:enc p.1=enc k:=(congrArg Prod.fst hpe).trans hk
 have h2:p.2=e.val:=congrArg Prod.snd hpe
 rw [← kl.inj h1,← h2]
 exact hp
theorem find (h:MapIs enc es clk m) (kl:KeyT P kt enc) (w:World) (k:K) :
  (lookM m k=none∧(Instr.findKey kt (enc k) es.toList).run P w=.ok none w∧∀ e∈es.toList,e.key≠enc k)∨
  ∃ v j e,lookM m k=some v∧(Instr.findKey kt (enc k) es.toList).run P w=.ok (some (j,v)) w∧es[j]?=some e∧e.key=enc k∧e.val=v:=by
 rcases kl.find w k es.toList h.keys with ⟨h1,h2⟩ | ⟨j,e,h1,h2,h3⟩
 ·refine .inl ⟨lookM_none.2 fun p hp e=>?_,h1,h2⟩
  have:(enc p.1,p.2)∈es.toList.map fun e=>(e.key,e.val):=h.perm.mem_iff.2 (List.mem_map.2 ⟨p,hp,rfl⟩)
  obtain ⟨x,hx,he⟩:=List.mem_map.1 this
  exact h2 x hx ((congrArg Prod.fst he).trans (by rw [e]))
 ·refine .inr ⟨e.val,j,e,(lookM_some h.nodup).2 (h.mem kl (List.mem_of_getElem? h2) h3),h1,by simpa using h2,h3,rfl⟩
theorem lookup (h:MapIs enc es clk m) (kl:KeyT P kt enc) {T et:TypeId} (hT:P.underlying T=some (.map kt et)) {z:Value} (hz:∀ w,(zeroValue et).run P w=.ok z w)
  {w:World} {b:Nat} (hb:w.heap[b]?=some (.map es clk)) (k:K) (ok:Bool) :
  (Instr.lookup T (.map (some b)) (enc k) ok).run P w=.ok (if ok then .tuple #[(lookM m k).getD z,.bool (lookM m k).isSome] else (lookM m k).getD z) w:=by
 unfold Instr.lookup
 simp only [Sem.run_bind,run_underlying hT,Result.andThen_ok,MapKept.run_getObj_map hb,Sem.run_pure,kl.check]
 rcases h.find kl w k with ⟨h1,h2,_⟩ | ⟨v,j,e,h1,h2,_⟩
 ·rw [h2,h1]
  simp only [Result.andThen_ok,Sem.run_bind,hz,Sem.run_pure]
  cases ok <;> simp
 ·rw [h2,h1]
  simp only [Result.andThen_ok,Sem.run_bind,Sem.run_pure]
  cases ok <;> simp
open Classical in
theorem update (h:MapIs enc es clk m) (kl:KeyT P kt enc) {T et:TypeId} (hT:P.underlying T=some (.map kt et)) {w:World} {b:Nat} (hb:w.heap[b]?=some (.map es clk)) (k:K) (v:Value) :
  ∃ es' clk',(Instr.mapUpdate T (.map (some b)) (enc k) v).run P w=.ok () (w.putObj b (.map es' clk'))∧MapIs enc es' clk' (putM m k v):=by
 unfold Instr.mapUpdate
 simp only [Sem.run_bind,run_underlying hT,Result.andThen_ok,MapKept.run_getObj_map hb,kl.check]
 rcases h.find kl w k with ⟨h1,h2,h3⟩ | ⟨v0,j,e,h1,h2,h3,h4,h5⟩
 ·refine ⟨es.push { key:=enc k,val:=v,born:=clk },clk+1,?_,MapKept.stamped_push h.st h3,?_⟩
  ·rw [h2]
   simp only [Result.andThen_ok,MapKept.run_setObj_map _ hb]
   rfl
  ·unfold putM
   rw [h1]
   simp only [Array.toList_push,List.map_append,List.map_cons,List.map_nil]
   exact h.perm.append_right _
 ·refine ⟨es.modify j fun e=>{ e with key:=enc k,val:=v },clk,?_,MapKept.stamped_modify h.st j _ (fun _ _=>rfl) (fun x _ hx=>?_),?_⟩
  ·rw [h2]
   simp only [Result.andThen_ok,Sem.run_bind,h3,Option.map_some,Option.getD_some,h4,kl.stays,MapKept.run_setObj_map _ hb]
   rfl
  ·rw [h3] at hx; cases hx; exact h4.symm
  ·unfold putM
   rw [h1]
   have e1:(es.modify j fun e=>{ e with key:=enc k,val:=v }).toList.map (fun e=>(e.key,e.val)) =
     (es.toList.map fun e=>(e.key,e.val)).map fun q=>if q.1=enc k then (q.1,v) else q:=by
    apply List.ext_getElem?
    intro i
    simp only [List.getElem?_map,Array.getElem?_toList,Array.getElem?_modify]
    by_cases hij:j=i
    ·subst hij
     simp [h3,h4]
    ·simp only [hij,if_false]
     cases hx:es[i]? with
     | none=>rfl
     | some x=>
      have hne:x.key≠enc k:=fun hk=>hij (nodup_idx h.st.2.2 (x:=enc k) (by simp [h3,h4]) (by simp [hx,hk]))
      simp [hne]
   have e2:(m.map fun p=>if p.1=k then (p.1,v) else p).map (fun p=>(enc p.1,p.2)) =
     (m.map fun p=>(enc p.1,p.2)).map fun q=>if q.1=enc k then (q.1,v) else q:=by
    rw [List.map_map,List.map_map]
    apply List.map_congr_left
    intro p _
    simp only [Function.comp_def]
    by_cases hp:p.1=k
    ·subst hp; simp
    ·have:enc p.1≠enc k:=fun e=>hp (kl.inj e)
     simp [hp,this]
   simp only [e1,e2]
   exact h.perm.map _
theorem len (h:MapIs enc es clk m) {w:World} {b:Nat} (hb:w.heap[b]?=some (.map es clk)) {T et:TypeId} (hT:P.underlying T=some (.map kt et)) (t:TypeId) :
  (Builtin.len_ #[T] t [Value.map (some b)].toArray).run P w=.ok (.int .i64 m.length) w:=by
 simp [Builtin.len_,MapKept.run_getObj_map hb,h.size,goInt,run_underlying hT]
end MapIs
theorem keyT_int {k:IntKind} (hkt:P.underlying kt=some (.int k)):KeyT P kt (fun x:Int=>Value.int k x) where
 check w em x:=MapKept.run_checkKey hkt (d:=.int k) (by simp [MapKept.IsKey]) em 9999
 find w x es hes:=by
  rcases MapKept.findNow_spec (d:=.int k) (k:=.int k x) (by simp [MapKept.IsKey]) es 0 (fun e he=>by obtain ⟨y,hy⟩:=hes e he; rw [hy]; simp [MapKept.IsKey]) with ⟨h1,h2⟩ | ⟨j,e,h1,h2,h3⟩
  ·exact .inl ⟨MapKept.run_findKey hkt h1,h2⟩
  ·exact .inr ⟨j,e,MapKept.run_findKey hkt (by rw [h1]; simp),h2,h3⟩
 stays w x:=by simp [Instr.keyThatStays,Instr.sameBits]
 inj h:=by simpa using h
end Go.Fx
namespace Go.Fx
open Go
variable {P:Program} {w:World}
theorem run_range {T kt et:TypeId} (hT:P.underlying T=some (.map kt et)) {m:Nat} {es:Array MapEntry} {clk:Nat} (hm:w.heap[m]?=some (.map es clk)) :
  (Instr.range T (.map (some m))).run P w=.ok (.pointer (some (Addr.mk w.heap.size 0 none))) (w.alloc (.mapIter (some m) clk #[] clk)):=by
 simp [Instr.range,run_underlying hT,MapKept.run_getObj_map hm]
theorem run_entry {it m:Nat} {es:Array MapEntry} {clk s stamp:Nat} {seen:Array Nat} {e:MapEntry} (hi:w.heap[it]?=some (.mapIter (some m) s seen clk)) (hm:w.heap[m]?=some (.map es clk))
  (hs:seen.back?=some stamp) (he:es.find? (fun x=>x.born == stamp)=some e):(Instr.entry (.pointer (some (Addr.mk it 0 none)))).run P w=.ok (.tuple #[e.key,e.val]) w:=by
 have h1:(getObj it).run P w=.ok (.mapIter (some m) s seen clk) w:=by simp [getObj,Sem.run,hi]
 simp [Instr.entry,h1,hs,MapKept.run_getObj_map hm,he]
theorem guard_false {es:Array MapEntry} {clk:Nat} {seen:Array Nat} (hst:MapKept.Stamped es clk):(!seen.isEmpty && !es.isEmpty && es.all (fun x=>decide (x.born≥clk)))=false:=by
 by_cases he:es.isEmpty=true
 ·simp [he]
 ·have:es.all (fun x=>decide (x.born≥clk))=false:=by
   cases hes:es.toList with
   | nil=>simp at hes; simp [hes] at he
   | cons x r=>
    have hx:=hst.1 x (by rw [hes]; simp)
    rw [← Array.all_toList,hes]
    simp; omega
  simp [this]
theorem run_next {it m:Nat} {es:Array MapEntry} {clk:Nat} {seen:Array Nat} (hi:w.heap[it]?=some (.mapIter (some m) clk seen clk)) (hm:w.heap[m]?=some (.map es clk)) (hst:MapKept.Stamped es clk)
  {left:Array MapEntry} (hleft:(es.filter fun e=>!seen.contains e.born)=left) (hold:(left.filter fun e=>decide (e.born < clk))=left) (hnew:(left.filter fun e=>decide (e.born≥clk))=#[]) :
  (Instr.next (.pointer (some (Addr.mk it 0 none))) false 0).run P w=(do
   match ((if left.isEmpty then #[none] else #[])++left.map some)[← choose (.mapNext ((if left.isEmpty then #[none] else #[])++left.map some).size)]? with
   | some (some e)=>do
    setObj it (.mapIter (some m) clk (seen.push e.born) clk)
    pure (.tuple #[.bool true,e.key,e.val])
   | some none=>pure (.tuple #[.bool false])
   | none => stuck "Next: no such candidate" : Sem Value).run P w := by
 have h1:(getObj it).run P w=.ok (.mapIter (some m) clk seen clk) w:=by simp [getObj,Sem.run,hi]
 unfold Instr.next
 simp only [Sem.run_bind,h1,Result.andThen_ok,MapKept.run_getObj_map hm,guard_false hst,Bool.false_eq_true,if_false,hleft,hold,hnew,Array.append_empty]
 rfl
theorem run_next_over {it m:Nat} {es:Array MapEntry} {clk:Nat} {seen:Array Nat} (hi:w.heap[it]?=some (.mapIter (some m) clk seen clk)) (hm:w.heap[m]?=some (.map es clk)) (hst:MapKept.Stamped es clk)
  (hleft:(es.filter fun e=>!seen.contains e.born)=#[]):(Instr.next (.pointer (some (Addr.mk it 0 none))) false 0).run P w=.ok (.tuple #[.bool false]) w:=by
 rw [run_next hi hm hst hleft (by simp) (by simp)]
 simp [Question.forced]
theorem run_next_some {it m:Nat} {es:Array MapEntry} {clk:Nat} {seen:Array Nat} (hi:w.heap[it]?=some (.mapIter (some m) clk seen clk)) (hm:w.heap[m]?=some (.map es clk)) (hst:MapKept.Stamped es clk)
  (hne:(es.filter fun e=>!seen.contains e.born)≠#[]):∃ (e:MapEntry) (w1:World),e∈es.toList∧e.born ∉ seen.toList∧w1.heap=w.heap∧Kept w w1∧
   (Instr.next (.pointer (some (Addr.mk it 0 none))) false 0).run P w=.ok (.tuple #[.bool true,e.key,e.val]) (w1.putObj it (.mapIter (some m) clk (seen.push e.born) clk)):=by
 generalize hl:(es.filter fun e=>!seen.contains e.born)=left at hne
 have hmem:∀ e∈left.toList,e∈es.toList∧e.born ∉ seen.toList:=fun e he=>by
  rw [← hl] at he
  simp at he
  exact ⟨by simpa using he.1,by simpa using he.2⟩
 have hb:∀ e∈left.toList,e.born < clk:=fun e he=>hst.1 e (hmem e he).1
 rw [run_next hi hm hst hl (by rw [Array.filter_eq_self]; intro e he; simpa using hb e (by simpa using he)) (by rw [Array.filter_eq_empty_iff]; intro e he; have:=hb e (by simpa using he); simp; omega)]
 have hemp:left.isEmpty=false:=by simpa using hne
 have hpos:0 < left.size:=Array.size_pos_iff.2 hne
 have hch:∃ (j:Nat) (w1:World),j < left.size∧w1.heap=w.heap∧Kept w w1∧(choose (.mapNext left.size)).run P w=.ok j w1:=by
  rw [run_choose_drew]
  by_cases hf:(Question.mapNext left.size).forced=true
  ·exact ⟨0,w,hpos,rfl,⟨rfl,rfl,rfl⟩,by rw [if_pos hf]⟩
  ·exact ⟨_,w.drew,Nat.mod_lt _ hpos,rfl,⟨rfl,rfl,rfl⟩,by rw [if_neg hf]; rfl⟩
 obtain ⟨j,w1,hj,hw,hkept,hr⟩:=hch
 have hi1:w1.heap[it]?=some (.mapIter (some m) clk seen clk):=by rw [hw]; exact hi
 refine ⟨left[j],w1,(hmem _ (by simp)).1,(hmem _ (by simp)).2,hw,hkept,?_⟩
 have hset:∀ o,(setObj it o).run P w1=.ok () (w1.putObj it o):=fun o=>by simp [setObj,Sem.run,hi1,World.putObj]
 simp only [hemp,Bool.false_eq_true,if_false,Array.empty_append,Array.size_map,Sem.run_bind,hr,Result.andThen_ok,Array.getElem?_map,Array.getElem?_eq_getElem hj,Option.map_some,hset,Sem.run_pure]
structure Vis (es:Array MapEntry) (vis rem:List MapEntry) (seen:Array Nat):Prop where
 perm:es.toList.Perm (vis++rem)
 seen:seen.toList=vis.map (·.born)
theorem Vis.start (es:Array MapEntry):Vis es [] es.toList #[]:=⟨.refl _,rfl⟩
theorem Vis.over {es:Array MapEntry} {vis:List MapEntry} {seen:Array Nat} (h:Vis es vis [] seen):(es.filter fun e=>!seen.contains e.born)=#[]:=by
 rw [Array.filter_eq_empty_iff]
 intro e he
 have h1:e∈vis:=by have:=h.perm.mem_iff.1 (show e∈es.toList by simpa using he); simpa using this
 have h2:e.born∈seen.toList:=by rw [h.seen]; exact List.mem_map.2 ⟨e,h1,rfl⟩
 simp
 simpa using h2
theorem Vis.more {es:Array MapEntry} {clk:Nat} {vis rem:List MapEntry} {seen:Array Nat} (h:Vis es vis rem seen) (hst:MapKept.Stamped es clk) (hr:rem≠[]):(es.filter fun e=>!seen.contains e.born)≠#[]:=by
 obtain ⟨e,r,rfl⟩:=List.exists_cons_of_ne_nil hr
 intro hc
 rw [Array.filter_eq_empty_iff] at hc
 have he:e∈es.toList:=h.perm.mem_iff.2 (by simp)
 have:=hc e (show e∈es by simpa using he)
 have hin:e.born∈seen.toList:=by simp at this; simpa using this
 rw [h.seen] at hin
 have hnd:((vis++e::r).map (·.born)).Nodup:=(h.perm.map _).nodup_iff.1 hst.2.1
 rw [List.map_append] at hnd
 exact (List.nodup_append.1 hnd).2.2 _ hin _ (by simp) rfl
theorem Vis.step {es:Array MapEntry} {vis rem:List MapEntry} {seen:Array Nat} (h:Vis es vis rem seen) {e:MapEntry} (he:e∈es.toList) (hn:e.born ∉ seen.toList) :
  ∃ rem',rem.length=rem'.length+1∧Vis es (vis++[e]) rem' (seen.push e.born):=by
 have h1:e∈rem:=by
  have:=h.perm.mem_iff.1 he
  rcases List.mem_append.1 this with hv | hv
  ·exact absurd (by rw [h.seen]; exact List.mem_map.2 ⟨e,hv,rfl⟩) hn
  ·exact hv
 obtain ⟨a,b,rfl⟩:=List.append_of_mem h1
 refine ⟨a++b,by simp; omega,?_,by simp [h.seen]⟩
 refine h.perm.trans ?_
 rw [List.append_assoc]
 exact List.Perm.append_left vis List.perm_middle
theorem find_born {es:Array MapEntry} {clk:Nat} (hst:MapKept.Stamped es clk) {e:MapEntry} (he:e∈es.toList):es.find? (fun x=>x.born == e.born)=some e:=by
 cases hf:es.find? (fun x=>x.born == e.born) with
 | none=>
  rw [Array.find?_eq_none] at hf
  have:=hf e (by simpa using he)
  simp at this
 | some x=>
  have h1:=Array.find?_some hf
  have h2:=Array.mem_of_find?_eq_some hf
  have h1:x.born=e.born:=by simpa using h1
  obtain ⟨i,hi⟩:=List.mem_iff_getElem?.1 (show x∈es.toList by simpa using h2)
  obtain ⟨j,hj⟩:=List.mem_iff_getElem?.1 he
  have:i=j:=nodup_idx hst.2.1 (x:=e.born) (by rw [List.getElem?_map,hi]; simp [h1]) (by rw [List.getElem?_map,hj]; rfl)
  subst this
  rw [hi] at hj
  exact hj
end Go.Fx
