/- A part of the proof. -/
import Derived.Test.YtepbaneageipfaaGreatDoorKbKq
import Derived.Test.YtepbaneageipfaaGreatDoorKaKq
import Derived.KernelRfl
import Derived.Laws.CopyRow
import Derived.Shelf.SlMaps.Clone
import Derived.Shelf.SlSortCmp.Xorshift
set_option linter.all false
namespace Go.Fx
open Go
variable {P:Program} {K:Type} [DecidableEq K] {enc:K→Value} {kt:TypeId} {es:Array MapEntry} {clk:Nat} {m:List (K × Value)}
def delM (m:List (K × Value)) (k:K):List (K × Value):=m.filter fun p=>p.1≠k
open Classical in
theorem MapIs.delete (h:MapIs enc es clk m) (kl:KeyT P kt enc) {T et:TypeId} (hT:P.underlying T=some (.map kt et)) {w:World} {b:Nat} (hb:w.heap[b]?=some (.map es clk)) (k:K) (ty:TypeId) :
  ∃ es',(Builtin.delete_ #[T,kt] ty #[.map (some b),enc k]).run P w=.ok (.tuple #[]) (w.putObj b (.map es' clk))∧MapIs enc es' clk (delM m k):=by
 rcases h.find kl w k with ⟨h1,h2,h3⟩ | ⟨v0,j,e,h1,h2,h3,h4,h5⟩
 ·refine ⟨es,?_,?_⟩
  ·simp [Builtin.delete_,run_underlying hT,MapKept.run_getObj_map hb,kl.check,h2,MapKept.run_setObj_map _ hb,Result.andThen]
   rfl
  ·have e:delM m k=m:=by
    unfold delM
    rw [List.filter_eq_self]
    intro p hp
    simpa using lookM_none.1 h1 p hp
   rw [e]; exact h
 ·refine ⟨es.eraseIdxIfInBounds j,?_,MapKept.stamped_erase h.st j,?_⟩
  ·simp [Builtin.delete_,run_underlying hT,MapKept.run_getObj_map hb,kl.check,h2,MapKept.run_setObj_map _ hb,Result.andThen]
   rfl
  ·have hj:j < es.size:=(Array.getElem?_eq_some_iff.1 h3).1
   have e0:es.eraseIdxIfInBounds j=es.eraseIdx j hj:=by simp [Array.eraseIdxIfInBounds,hj]
   have hl:(es.eraseIdxIfInBounds j).toList=es.toList.eraseIdx j:=by rw [e0]; simp
   have hf:es.toList.eraseIdx j=es.toList.filter fun x=>x.key≠enc k:=by
    have hnd:=h.st.2.2
    have hg:es.toList[j]?=some e:=by simpa using h3
    obtain ⟨hlt,hge⟩:=List.getElem?_eq_some_iff.1 hg
    have hsp:es.toList=es.toList.take j++e::es.toList.drop (j+1):=by
     rw [← hge,List.getElem_cons_drop,List.take_append_drop]
    have hne:∀ x∈es.toList.take j++es.toList.drop (j+1),x.key≠enc k:=fun x hx hk=>by
     rw [hsp,List.map_append,List.map_cons] at hnd
     rw [List.mem_append] at hx
     have hnd2:=List.nodup_append.1 hnd
     rcases hx with hx | hx
     ·exact hnd2.2.2 _ (List.mem_map.2 ⟨x,hx,rfl⟩) e.key (List.mem_cons_self ..) (hk.trans h4.symm)
     ·exact (List.nodup_cons.1 hnd2.2.1).1 (List.mem_map.2 ⟨x,hx,by rw [hk,h4]⟩)
    rw [List.eraseIdx_eq_take_drop_succ]
    conv=>rhs; rw [hsp]
    rw [List.filter_append,List.filter_cons,if_neg (by simp [h4])]
    rw [List.filter_eq_self.2 fun x hx=>by simpa using hne x (List.mem_append_left _ hx),List.filter_eq_self.2 fun x hx=>by simpa using hne x (List.mem_append_right _ hx)]
   rw [hl,hf]
   have e1:(es.toList.filter fun x=>x.key≠enc k).map (fun e=>(e.key,e.val))=(es.toList.map fun e=>(e.key,e.val)).filter fun q=>q.1≠enc k:=by
    rw [List.filter_map]; rfl
   have e2:(delM m k).map (fun p=>(enc p.1,p.2))=(m.map fun p=>(enc p.1,p.2)).filter fun q=>q.1≠enc k:=by
    unfold delM
    rw [List.filter_map]
    congr 1
    apply List.filter_congr
    intro p _
    simp only [Function.comp_def]
    by_cases hp:p.1=k
    ·simp [hp]
    ·have:enc p.1≠enc k:=fun e=>hp (kl.inj e)
     simp [hp,this]
   rw [e1,e2]
   exact h.perm.filter _
end Go.Fx
namespace Go.Fx.Tryz
open Go Go.Fx Go.Fx.Ch
open Go.Proofs
set_option linter.all false
set_option maxRecDepth 20000
abbrev PL:=Int × Int
def encP (p:PL):Value:=.agg #[U p.1,J p.2]
theorem underlying142':P.underlying 142=some (.struct (P.fieldsOf 142)):=by kernel_rfl
theorem fieldsOf142 : P.fieldsOf 142 = #[{ name := "id", type := 24, offset := 0, embedded := false, tag := "", pkgPath := "candling/cache", byteOffset := 0 }, { name := "slot", type := 3, offset := 1, embedded := false, tag := "", pkgPath := "candling/cache", byteOffset := 8 }] := by kernel_rfl
theorem partP (w:World) (x:PL):(part 24 #[U x.1,J x.2] 0).run P w=.ok (U x.1) w∧(part 3 #[U x.1,J x.2] 1).run P w=.ok (J x.2) w:=⟨by kernel_rfl,by kernel_rfl⟩
theorem eq142 (w:World) (x y:PL):(Op.equal 142 (encP x) (encP y)).run P w=.ok (x == y) w:=by
 unfold Op.equal
 have h3:∀ d (x y:Int),(Op.equalIn (d+1) 3 (.int .i64 x) (.int .i64 y)).run P w=.ok (x == y) w:=fun d x y=>by simp [Op.equalIn,run_underlying Tryz.underlying3]
 have h24:∀ d (x y:Int),(Op.equalIn (d+1) 24 (.int .u32 x) (.int .u32 y)).run P w=.ok (x == y) w:=fun d x y=>by simp [Op.equalIn,run_underlying Tryz.underlying24]
 have hm:∃ d,Op.maxDepth=d+3:=⟨_,rfl⟩
 obtain ⟨d,hd⟩:=hm
 unfold encP
 rw [hd,run_equalIn_struct w (d+2) 142 _ _ underlying142' Tryz.stoodInHeld142,fieldsOf142]
 obtain ⟨a0,a1⟩:=partP w x
 obtain ⟨b0,b1⟩:=partP w y
 simp only [Op.eqFields,ne_eq,String.reduceEq,not_false_eq_true,if_true,Sem.run_bind,a0,b0,h3,h24,Result.andThen_ok]
 obtain ⟨x1,x2⟩:=x
 obtain ⟨y1,y2⟩:=y
 by_cases e0:x1=y1 <;> by_cases e1:x2=y2 <;> simp_all
theorem encP_inj {a b:PL} (h:encP a=encP b):a=b:=by
 obtain ⟨a1,a2⟩:=a
 obtain ⟨b1,b2⟩:=b
 simp [encP] at h
 simp [h]
theorem keyT_place:KeyT P 142 encP where
 check w em k:=by
  obtain ⟨a0,a1⟩:=partP w k
  have c24:∀ x,(Instr.checkKey em 9999 24 (U x)).run P w=.ok () w:=fun x=>MapKept.run_checkKey Tryz.underlying24 (by simp [MapKept.IsKey]) em 9998
  have c3:∀ x,(Instr.checkKey em 9999 3 (J x)).run P w=.ok () w:=fun x=>MapKept.run_checkKey Tryz.underlying3 (by simp [MapKept.IsKey]) em 9998
  unfold encP
  unfold Instr.checkKey
  rw [Sem.run_bind,run_underlying underlying142',Result.andThen_ok,fieldsOf142]
  simp [a0,a1,c24,c3]
 find w k es hes:=by
  have h0:∀ (l:List MapEntry) (i:Nat),(∀ e∈l,∃ x,e.key=encP x)→((Instr.findAsking 142 (encP k) l i).run P w=.ok none w∧∀ e∈l,e.key≠encP k)∨
    ∃ j e,(Instr.findAsking 142 (encP k) l i).run P w=.ok (some (i+j,e.val)) w∧l[j]?=some e∧e.key=encP k:=by
   intro l
   induction l with
   | nil=>intro i _; exact .inl ⟨by simp [Instr.findAsking],by simp⟩
   | cons e r ih=>
    intro i he
    obtain ⟨x,hx⟩:=he e (by simp)
    have hq:=eq142 w k x
    rw [← hx] at hq
    by_cases hk:k=x
    ·refine .inr ⟨0,e,?_,rfl,by rw [hx,hk]⟩
     unfold Instr.findAsking
     have hkt:(k == x)=true:=by simpa using hk
     rw [hkt] at hq
     simp [hq]
    ·have hkf:(k == x)=false:=by simpa using hk
     rcases ih (i+1) (fun e he'=>he e (by simp [he'])) with ⟨h1,h2⟩ | ⟨j,e',h1,h2,h3⟩
     ·refine .inl ⟨?_,fun e' he' hc=>?_⟩
      ·unfold Instr.findAsking
       simp [hq,hkf,h1]
      ·rcases List.mem_cons.1 he' with rfl | he'
       ·rw [hx] at hc; exact hk (encP_inj hc).symm
       ·exact h2 e' he' hc
     ·refine .inr ⟨j+1,e',?_,by simpa using h2,h3⟩
      unfold Instr.findAsking
      simp [hq,hkf,h1]
      omega
  have hfk:∀ r,(Instr.findAsking 142 (encP k) es 0).run P w=.ok r w→(es=[]→r=none)→(Instr.findKey 142 (encP k) es).run P w=.ok r w:=fun r hr h0=>by
   unfold Instr.findKey
   rw [Sem.run_bind,run_underlying underlying142',Result.andThen_ok]
   cases es with
   | nil=>simp [Instr.findNow,h0 rfl]
   | cons e t=>
    obtain ⟨x,hx⟩:=hes e (by simp)
    have:Instr.findNow (.struct (P.fieldsOf 142)) (encP k) (e::t) 0=none:=by simp [Instr.findNow,Instr.sameNow,encP,hx]
    rw [this]; exact hr
  rcases h0 es 0 hes with ⟨h1,h2⟩ | ⟨j,e,h1,h2,h3⟩
  ·exact .inl ⟨hfk _ h1 (fun _=>rfl),h2⟩
  ·exact .inr ⟨j,e,hfk _ (by simpa using h1) (fun h=>by rw [h] at h2; simp at h2),h2,h3⟩
 stays w x:=by simp [Instr.keyThatStays,Instr.sameBits,encP]
 inj:=encP_inj
theorem keyT_u32:KeyT P 24 (fun x:Int=>Value.int .u32 x):=keyT_int Tryz.underlying24
end Go.Fx.Tryz
namespace Go.Fx.Ch
section
variable {K V:Type} [DecidableEq K]
def lk (m:List (K × V)) (k:K):Option V:=(m.find? fun p=>p.1 == k).map (·.2)
def pt (m:List (K × V)) (k:K) (v:V):List (K × V):=match lk m k with
 | some _=>m.map fun p=>if p.1=k then (p.1,v) else p
 | none=>m++[(k,v)]
def dl (m:List (K × V)) (k:K):List (K × V):=m.filter fun p=>p.1≠k
end
structure TR where
 at_:Int
 sp:List (Int × Int)
 code:List Int
 deriving DecidableEq
def TR.zero:TR:=⟨0,[],[]⟩
structure CState where
 len:Int
 k:Nat
 items:List (Int × TR)
 rows:List (List Int)
 table:List Int
 hold:List (Int × List (Int × Int))
 cur:Nat
 given:Int
 ev:Int
 dr:Int
 deriving DecidableEq
def itemOf (items:List (Int × TR)) (id:Int):TR:=(lk items id).getD TR.zero
def slotAt (t:List Int) (i:Nat):Int:=(t[i]?).getD 0
def lookGo (items:List (Int × TR)) (t:List Int) (k:Nat) (at_:Int) (frm:Nat):Nat→Nat→Int × Nat
 | 0,n=>(0,n)
 | f+1,n=>if slotAt t ((frm+n) % 2 ^ k)=0 then (0,n+1)
  else if (itemOf items (slotAt t ((frm+n) % 2 ^ k))).at_=at_ then (slotAt t ((frm+n) % 2 ^ k),n+1) else lookGo items t k at_ frm f (n+1)
def lookS (s:CState) (at_:Int):Int × Nat:=lookGo s.items s.table s.k at_ (homeF s.k at_).toNat (2 ^ s.k) 0
def insGo (k:Nat) (id:Int) (frm:Nat) (t:List Int):Nat→Nat→List Int
 | 0,_=>t
 | f+1,n=>if slotAt t ((frm+n) % 2 ^ k)=0 then t.set ((frm+n) % 2 ^ k) id else insGo k id frm t f (n+1)
def insertT (s:CState) (id:Int):List Int:=insGo s.k id (homeF s.k (itemOf s.items id).at_).toNat s.table (2 ^ s.k) 0
def far (k:Nat) (a b:Int):Int:=(b - a) % 2 ^ k
def remGo (items:List (Int × TR)) (k:Nat) (id:Int) (frm:Nat):Nat→Nat→Option Nat→List Int→List Int
 | 0,_,_,t=>t
 | f+1,n,none,t=>if slotAt t ((frm+n) % 2 ^ k)=id then remGo items k id frm f (n+1) (some ((frm+n) % 2 ^ k)) (t.set ((frm+n) % 2 ^ k) 0) else remGo items k id frm f (n+1) none t
 | f+1,n,some h,t=>if slotAt t ((frm+n) % 2 ^ k)=0 then t
  else if far k (homeF k (itemOf items (slotAt t ((frm+n) % 2 ^ k))).at_) ((frm+n) % 2 ^ k:Nat) < far k h ((frm+n) % 2 ^ k:Nat) then remGo items k id frm f (n+1) (some h) t
  else remGo items k id frm f (n+1) (some ((frm+n) % 2 ^ k)) ((t.set h (slotAt t ((frm+n) % 2 ^ k))).set ((frm+n) % 2 ^ k) 0)
def removeT (s:CState) (id:Int):List Int:=remGo s.items s.k id (homeF s.k (itemOf s.items id).at_).toNat (2 ^ s.k) 0 none s.table
def holdS (hold:List (Int × List (Int × Int))) (p:Int × Int) (c:Int):List (Int × List (Int × Int)):=if c=0 then hold else
 pt hold c (if p∈(lk hold c).getD [] then (lk hold c).getD [] else (lk hold c).getD []++[p])
def releaseS (hold:List (Int × List (Int × Int))) (p:Int × Int) (c:Int):List (Int × List (Int × Int)):=
 if ((lk hold c).getD []).filter (fun q=>q≠p)=[] then dl hold c else pt hold c (((lk hold c).getD []).filter fun q=>q≠p)
def patchF (bs:List Int) (slot c:Int):List Int:=match exitsF bs with
 | none=>[]
 | some l=>if (l.any fun e=>e.slot == slot)=true then patchB bs slot.toNat c else []
def patchS (items:List (Int × TR)) (p:Int × Int) (c:Int):List (Int × TR):=pt items p.1 { itemOf items p.1 with code:=patchF (itemOf items p.1).code p.2 c }
def exitsS (items:List (Int × TR)) (id:Int):List EX:=(exitsF (itemOf items id).code).getD []
def freeS (id:Int):List (Int × Int)→CState→CState
 | [],s=>s
 | p::l,s=>freeS id l { s with items:=patchS s.items p 0,hold:=releaseS s.hold p id }
def dropS (id:Int):List EX→CState→CState
 | [],s=>s
 | x::l,s=>dropS id l (if x.chain=0 then s else { s with hold:=releaseS s.hold (id,x.slot) x.chain })
def forget1 (order:List (Int × Int)) (s:CState) (id:Int):CState:=
 let s2:=dropS id (exitsS (freeS id order s).items id) (freeS id order s)
 { s2 with table:=removeT s2 id,rows:=s2.rows.map fun r=>r.filter fun n=>n≠id,items:=dl s2.items id }
inductive Forgets:CState→List Int→CState→Prop
 | nil (s:CState):Forgets s [] s
 | cons {s s':CState} {id:Int} {l:List Int} {order:List (Int × Int)}:order.Perm ((lk s.hold id).getD [])→Forgets (forget1 order s id) l s'→Forgets s (id::l) s'
def filledS (s:CState) (c:Nat):Int:=(((s.rows[c]?).getD []).map fun id=>((itemOf s.items id).code.length:Int)).sum
def limitS (s:CState):Nat:=2 ^ s.k / 4 * 3
def sortI (l:List Int):List Int:=l.mergeSort fun a b=>decide (a≤b)
def fullS (s:CState) (n:Nat):Bool:=decide (filledS s s.cur+n > s.len) || decide (limitS s≤s.items.length)
def nextS (s:CState):CState:={ s with cur:=(s.cur+1) % s.rows.length }
def rowS (s:CState):List Int:=sortI ((s.rows[s.cur]?).getD [])
inductive Evicts (n:Nat):CState→List Int→CState→Prop
 | done {s:CState}:fullS s n=false→Evicts n s [] s
 | step {s s2 s':CState} {gone:List Int}:fullS s n=true→Forgets (nextS s) (rowS (nextS s)) s2→Evicts n { s2 with ev:=s2.ev+(rowS (nextS s)).length } gone s'→Evicts n s (rowS (nextS s)++gone) s'
def addS (s:CState) (t:TR):CState:=
 let s1:={ s with given:=s.given+1,items:=pt s.items (s.given+1) t,rows:=s.rows.modify s.cur fun r=>r++[s.given+1] }
 { s1 with table:=insertT s1 (s.given+1) }
def newS (sec:Nat) (len:Int) (k:Nat):CState:=⟨len,k,[],List.replicate sec [],List.replicate (2 ^ k) 0,[],0,0,0,0⟩
section
variable {K V W:Type} [DecidableEq K]
def Like (R:V→W→Prop):List (K × V)→List (K × W)→Prop
 | [],[]=>True
 | a::l,b::m=>a.1=b.1∧R a.2 b.2∧Like R l m
 | _,_=>False
variable {R:V→W→Prop} {l:List (K × V)} {m:List (K × W)}
theorem Like.length:∀ {l:List (K × V)} {m:List (K × W)},Like R l m→l.length=m.length
 | [],[],_=>rfl
 | _::_,_::_,h=>by simp [Like.length h.2.2]
theorem Like.lk:∀ {l:List (K × V)} {m:List (K × W)},Like R l m→∀ k,(lk l k=none∧lk m k=none)∨∃ v u,lk l k=some v∧lk m k=some u∧R v u
 | [],[],_,k=>.inl ⟨rfl,rfl⟩
 | (a,v)::l,(b,u)::m,h,k=>by
  obtain ⟨h1,h2,h3⟩:=h
  simp only at h1 h2
  subst h1
  unfold Ch.lk
  simp only [List.find?_cons]
  by_cases hk:a=k
  ·subst hk
   exact .inr ⟨v,u,by simp,by simp,h2⟩
  ·have:(a == k)=false:=by simpa using hk
   rw [this]
   exact Like.lk h3 k
theorem Like.mono {R':V→W→Prop} (hR:∀ v u,R v u→R' v u):∀ {l:List (K × V)} {m:List (K × W)},Like R l m→Like R' l m
 | [],[],_=>trivial
 | _::_,_::_,h=>⟨h.1,hR _ _ h.2.1,h.2.2.mono hR⟩
theorem Like.append:∀ {l:List (K × V)} {m:List (K × W)} {l':List (K × V)} {m':List (K × W)},Like R l m→Like R l' m'→Like R (l++l') (m++m')
 | [],[],_,_,_,h=>h
 | _::_,_::_,_,_,h,h'=>⟨h.1,h.2.1,h.2.2.append h'⟩
theorem Like.map_if {k:K} {v:V} {u:W} (hv:R v u):∀ {l:List (K × V)} {m:List (K × W)},Like R l m→Like R (l.map fun p=>if p.1=k then (p.1,v) else p) (m.map fun p=>if p.1=k then (p.1,u) else p)
 | [],[],_=>trivial
 | (a,x)::l,(b,y)::m,h=>by
  obtain ⟨h1,h2,h3⟩:=h
  simp only at h1 h2
  subst h1
  simp only [List.map_cons]
  by_cases hk:a=k
  ·simp only [hk,if_true]; exact ⟨rfl,hv,Like.map_if hv h3⟩
  ·simp only [hk,if_false]; exact ⟨rfl,h2,Like.map_if hv h3⟩
theorem Like.pt (h:Like R l m) {k:K} {v:V} {u:W} (hv:R v u):Like R (pt l k v) (pt m k u):=by
 unfold Ch.pt
 rcases h.lk k with ⟨h1,h2⟩ | ⟨x,y,h1,h2,_⟩
 ·rw [h1,h2]; exact h.append ⟨rfl,hv,trivial⟩
 ·rw [h1,h2]; exact h.map_if hv
theorem Like.dl {k:K}:∀ {l:List (K × V)} {m:List (K × W)},Like R l m→Like R (dl l k) (dl m k)
 | [],[],_=>trivial
 | (a,x)::l,(b,y)::m,h=>by
  obtain ⟨h1,h2,h3⟩:=h
  simp only at h1 h2
  subst h1
  unfold Ch.dl
  simp only [List.filter_cons]
  by_cases hk:a=k
  ·simp only [hk,ne_eq,not_true,decide_false,Bool.false_eq_true,if_false]; exact Like.dl h3
  ·simp only [hk,ne_eq,not_false_eq_true,decide_true,if_true]; exact ⟨rfl,h2,Like.dl h3⟩
end
end Go.Fx.Ch
namespace Go.Fx
open Go.Fx.Ch
variable {K:Type} [DecidableEq K]
theorem lookM_lk (m:List (K × Value)) (k:K):lookM m k=lk m k:=rfl
theorem putM_pt (m:List (K × Value)) (k:K) (v:Value):putM m k v=pt m k v:=by
 unfold putM pt
 rw [lookM_lk]
 cases lk m k <;> rfl
theorem delM_dl (m:List (K × Value)) (k:K):delM m k=dl m k:=rfl
end Go.Fx
namespace Go.Fx.Tryz
open Go Go.Fx Go.Fx.Ch
open Go.Proofs
set_option linter.all false
set_option maxRecDepth 20000
variable {w0 w:World} {H:HBL} {K:KT}
theorem pow_bounds {k:Nat} (h4:4≤k) (h16:k≤16):16≤2 ^ k∧2 ^ k≤65536:=by
 rcases k_cases h4 h16 with rfl | rfl | rfl | rfl | rfl | rfl | rfl | rfl | rfl | rfl | rfl | rfl | rfl <;> decide
theorem and_slots {k n:Nat} (h4:4≤k) (h16:k≤16) (hn:n < 1000000) :
  IntKind.wrap .i64 ((BitVec.ofInt (IntKind.bits .i64) ((n:Nat):Int) &&& BitVec.ofInt (IntKind.bits .i64) (IntKind.wrap .i64 (((2 ^ k:Nat):Int) - 1))).toNat:Int)=((n % 2 ^ k:Nat):Int):=by
 have hp:=pow_bounds h4 h16
 have e1:((2 ^ k:Nat):Int) - 1=((2 ^ k - 1:Nat):Int):=by omega
 rw [e1,wrap_i64 (x:=((2 ^ k - 1:Nat):Int)) (by omega) (by omega)]
 have e:(BitVec.ofInt (IntKind.bits .i64) ((n:Nat):Int) &&& BitVec.ofInt (IntKind.bits .i64) ((2 ^ k - 1:Nat):Int)).toNat=n % 2 ^ k:=by
  show (BitVec.ofInt 64 ((n:Nat):Int) &&& BitVec.ofInt 64 ((2 ^ k - 1:Nat):Int)).toNat=_
  rw [BitVec.toNat_and,BitVec.ofInt_natCast,BitVec.ofInt_natCast,BitVec.toNat_ofNat,BitVec.toNat_ofNat,Nat.mod_eq_of_lt (by omega),Nat.mod_eq_of_lt (by omega),Nat.and_two_pow_sub_one_eq_mod]
 have hlt:n % 2 ^ k < 2 ^ k:=Nat.mod_lt _ (by omega)
 rw [e,wrap_i64 (by omega) (by omega)]
theorem slots153_ok {v0:Value} {a1 a2 ca:Addr} {k from_:Nat} (h4:4≤k) (h16:k≤16) (hfr:from_ < 2 ^ k) (I:Nat→World→Prop) (Dn:World→Prop) (hd:∀ i W,I i W→I i W.drew)
  (hc:∀ i W,I i W→W.cell? a1=some (.pointer (some ca))∧W.cell? a2=some (J from_)∧W.cell? (ca.add 2)=some (J (2 ^ k:Nat))) (h0:I 0 w)
  (hy:∀ i:Nat,i < 2 ^ k→∀ W,I i W→CallF P v0 [J ((from_+i) % 2 ^ k:Nat)] W fun r W'=>∃ b,r=.bool b∧if b=true then I (i+1) W' else Dn W')
  (hK:∀ W,I (2 ^ k) W∨Dn W→K (.tuple #[]) W):CallL P 153 [v0,.pointer (some a1),.pointer (some a2)] w K:=by
 have hp:=pow_bounds h4 h16
 refine f153_ok _ _ _ _ _ ?_
 rw [f153_eq]
 refine ⟨some ca,(hc 0 w h0).1,((2 ^ k:Nat):Int),(hc 0 w h0).2.2,?_⟩
 refine ⟨fun m e w=>∃ i:Nat,i≤2 ^ k∧m=2 ^ k - i∧e=Env.mk 27 [(10,J i),(1,.pointer (some a1)),(2,.pointer (some a2)),(0,v0),(9,J (2 ^ k:Nat))] []∧I i w,⟨2 ^ k,0,by omega,by omega,rfl,h0⟩,?_⟩
 rintro m e W ⟨i,hi,rfl,rfl,hI⟩
 show f153_lb0 ..
 rw [f153_lb0_eq,BIf_iff]
 refine ⟨fun hlt=>?_,fun hge=>?_⟩
 ·have hlt:i < 2 ^ k:=by have:=of_decide_eq_true hlt; omega
  rw [f153_s1_eq]
  have hI':=hd i W hI
  obtain ⟨c1,c2,c3⟩:=hc i _ hI'
  refine ⟨_,c2,_,c1,_,c3,?_⟩
  have e:IntKind.wrap .i64 ((from_:Int)+(i:Int))=((from_+i:Nat):Int):=by rw [wrap_i64 (by omega) (by omega)]; omega
  rw [e,and_slots h4 h16 (by omega)]
  refine CallF_mono ?_ (hy i hlt _ hI')
  rintro r W' ⟨b,rfl,hb⟩
  refine ⟨b,rfl,?_⟩
  rw [f153_s2_eq]
  cases b with
  | false=>simp only [Bool.not_false,BIf_true]; exact hK _ (.inr (by simpa using hb))
  | true=>
   simp only [Bool.not_true,BIf_false]
   rw [f153_s3_eq]
   exact ⟨2 ^ k - (i+1),by omega,i+1,by omega,rfl,by rw [wrap_i64 (by omega) (by omega)]; rfl,by simpa using hb⟩
 ·have:i=2 ^ k:=by have:=of_decide_eq_false hge; omega
  subst this
  exact hK _ (.inl hI)
theorem en153:enterable P 153=true:=by kernel_rfl
theorem range_slots {KK:Exit→YT} {e:Env} {round:Nat→(LoopState→Option Code→Loop)→(Option Code→World→Prop)→List Value→World→Prop} {k from_:Nat} {ca:Addr} (h4:4≤k) (h16:k≤16) (hfr:from_ < 2 ^ k)
  (h:St w0 w H) {b1 b2:Nat} {t1 t2:TypeId} (I:Nat→List (Nat × Obj)→Prop) (D:Code→List (Nat × Obj)→Prop) (I0:I 0 H)
  (hI:∀ i H',I i H'→(b1,Cs [.pointer (some ca)] t1)∈H'∧(b2,Cs [J from_] t2)∈H'∧∃ cs tc,ca.spot=none∧(ca.block,Cs cs tc)∈H'∧cs[ca.off+2]?=some (J (2 ^ k:Nat)))
  (hround:∀ l l' R post (i:Nat) W H',i < 2 ^ k→I i H'→St w0 W ((l,.loop (R .ready none))::(l',.deferred (some []))::H')→w0.heap.size≤l→w0.heap.size≤l'→
   (∀ W' H'',I (i+1) H''→St w0 W' ((l,.loop (R .ready none))::(l',.deferred (some []))::H'')→post none W')→
   (∀ c W' H'',D c H''→St w0 W' ((l,.loop (R .done (some c)))::(l',.deferred (some []))::H'')→post (some c) W')→
   round l R post [J ((from_+i) % 2 ^ k:Nat)] W)
  (hend:∀ W H' l',w0.heap.size≤l'→I (2 ^ k) H'→St w0 W ((l',.deferred (some []))::H')→KK .normal { e with d:=mk l'::e.d } W)
  (hexit:∀ c W H' l',w0.heap.size≤l'→D c H'→St w0 W ((l',.deferred (some []))::H')→afterS KK { e with d:=mk l'::e.d } W (some c)) :
  RangeC P KK e w (.func (.func 153) #[] #[.pointer (some (Addr.mk b1 0 none)),.pointer (some (Addr.mk b2 0 none))]) round:=by
 refine ⟨en153,fun R hy=>?_⟩
 have h1:=(h.alloc (.deferred (some []))).alloc (.loop (R .ready none))
 have hsz:(w.alloc (.deferred (some []))).heap.size=w.heap.size+1:=by simp
 rw [hsz] at h1
 have hle:w0.heap.size≤w.heap.size:=h.le
 refine slots153_ok h4 h16 hfr (ca:=ca) (from_:=from_) (fun i W=>∃ H',I i H'∧St w0 W ((w.heap.size+1,.loop (R .ready none))::(w.heap.size,.deferred (some []))::H'))
  (fun W=>∃ c H',D c H'∧St w0 W ((w.heap.size+1,.loop (R .done (some c)))::(w.heap.size,.deferred (some []))::H')) ?_ ?_ ⟨H,I0,h1⟩ ?_ ?_
 ·rintro i W ⟨H',hi,hs⟩; exact ⟨H',hi,hs.drew⟩
 ·rintro i W ⟨H',hi,hs⟩
  obtain ⟨m1,m2,cs,tc,hsp,m3,hc⟩:=hI i H' hi
  refine ⟨cell_of (hs.has _ _ (.tail _ (.tail _ m1))),cell_of (hs.has _ _ (.tail _ (.tail _ m2))),?_⟩
  obtain ⟨cb,co,csp⟩:=ca
  simp only at hsp
  subst hsp
  rw [add_lit',cell_of (hs.has _ _ (.tail _ (.tail _ m3)))]
  exact hc
 ·rintro i hi W ⟨H',hIi,hs⟩
  refine CallF_mono ?_ (hy [J ((from_+i) % 2 ^ k:Nat)] W (fun j W'=>match j with
   | none=>∃ H'',I (i+1) H''∧St w0 W' ((w.heap.size+1,.loop (R .ready none))::(w.heap.size,.deferred (some []))::H'')
   | some c=>∃ H'',D c H''∧St w0 W' ((w.heap.size+1,.loop (R .done (some c)))::(w.heap.size,.deferred (some []))::H''))
   (hround _ _ R _ i W H' hi hIi hs (by omega) (by omega) (fun W' H'' h1 h2=>⟨H'',h1,h2⟩) (fun c W' H'' h1 h2=>⟨H'',h1,h2⟩)) (hs.get (k:=0) rfl))
  rintro v W' ⟨j,rfl,hj⟩
  cases j with
  | none=>exact ⟨true,rfl,by simpa using hj⟩
  | some c=>exact ⟨false,rfl,by simp; obtain ⟨H'',h1,h2⟩:=hj; exact ⟨c,H'',h1,h2⟩⟩
 ·rintro W (⟨H',hIi,hs⟩ | ⟨c,H',hJ,hs⟩)
  ·refine ⟨.ready,none,hs.get (k:=0) rfl,by simp,?_⟩
   exact hend _ H' _ hle hIi ((hs.put (k:=0) rfl _).tail (by omega))
  ·refine ⟨.done,some c,hs.get (k:=0) rfl,by simp,?_⟩
   exact hexit c _ H' _ hle hJ ((hs.put (k:=0) rfl _).tail (by omega))
end Go.Fx.Tryz
namespace Go.Fx.Tryz
set_option maxRecDepth 100000
open Go Go.Fx Go.Proofs
noncomputable def c16:Code:=bodyOf Tryz.f16
noncomputable def rs16:List ResultVar:=Tryz.f16.results.toList
abbrev f16_kb (K:KT):Exit→YT:=bodyK P rs16 K
def f16 (a:Array Value) (w:World) (K:KT):Prop:=CS P c16 none [2,3] [2,3] (f16_kb K) (env0 9 [(Value.agg a)]) w
def f16_s0 (a:Addr) (w:World) (K:KT):Prop:=SG P (cA c16 7) none [2,3] [2,3] (f16_kb K) (Env.mk 9 [(1,(VP (some a)))] []) w
theorem f16_s0_eq (a:Addr) (w:World) (K:KT):f16_s0 a w K=(LdA 3 a w (fun c=>CallL P 52 [(Value.agg c)] w (fun d e=>∃ b:Option Addr,d=(.pointer b)∧K (Value.tuple [(Value.pointer b),(Value.int .i64 0)].toArray) e))):=by kernel_rfl
theorem f16_eq (a:Array Value) (w:World) (K:KT):f16 a w K=(NewC a 27 w (fun b c=>LdA 3 (Addr.mk b 0 none) c (fun f=>CallL P 51 [(Value.agg f)] c (fun g d=>∃ e:Bool,g=(.bool e)∧BIf (!e) (K (Value.tuple [(Value.pointer none),(Value.int .i64 1)].toArray) d) (f16_s0 (Addr.mk b 0 none) d K))))):=by kernel_rfl
theorem f16_ok (a:Array Value) (w:World) (K:KT) (h:f16 a w K):CallL P 16 [(Value.agg a)] w K:=okCS c16 Tryz.func16 (by kernel_rfl) (by kernel_rfl) h
noncomputable def c52:Code:=bodyOf Tryz.f52
noncomputable def rs52:List ResultVar:=Tryz.f52.results.toList
abbrev f52_kb (K:KT):Exit→YT:=bodyK P rs52 K
def f52 (a:Array Value) (w:World) (K:KT):Prop:=CS P c52 none [2] [2] (f52_kb K) (env0 14 [(Value.agg a)]) w
def f52_s0 (a:Addr) (w:World) (K:KT):Prop:=SG P (cA c52 7) none [2] [2] (f52_kb K) (Env.mk 14 [(2,(VP (some a)))] []) w
theorem f52_s0_eq (a:Addr) (w:World) (K:KT):f52_s0 a w K=(K (Value.pointer (some a)) w):=by kernel_rfl
theorem f52_eq (S0:Array Value) (w:World) (K:KT):f52 S0 w K=(NewC S0 27 w (fun b e=>LdA 3 (Addr.mk b 0 none) e.drew (fun a=>∃ c:Int,e.drew.cell? (Addr.mk b 0 none)=some (.int .i64 c)∧∃ d:Int,e.drew.cell? ((Addr.mk b 0 none).add 2)=some (.int .i64 d)∧(NewO (.map #[] 0) e.drew (fun l a0=>(∃ (b0:OA) (c0 d0:Nat),∃ p:World,(Instr.makeSlice 106 (Value.int .i64 c) (Value.int .i64 c)).run P a0=.ok (.slice b0 c0 d0) p∧p.cell? ((Addr.mk b 0 none).add 2)=some (.int .i64 d)∧LdB 3 (Addr.mk b 0 none) a p∧(∃ (T0:OA) (U0 V0:Nat),∃ e0:World,(Instr.makeSlice 22 (Value.int .i64 d) (Value.int .i64 d)).run P p=.ok (.slice T0 U0 V0) e0∧LdB 3 (Addr.mk b 0 none) a e0∧NewO (.map #[] 0) e0 (fun g3 h3=>∃ W0:Array Value,(∀ wq,(Instr.build 109 [(0,(Value.agg a)),(1,(Value.map (some l))),(2,(Value.slice b0 c0 d0)),(3,(Value.slice T0 U0 V0)),(4,(Value.map (some g3)))].toArray).run P wq=.ok (.agg W0) wq)∧NewC W0 109 h3 (fun i3 j3=>f52_s0 (Addr.mk i3 0 none) j3 K)))∧(NewO (.map #[] 0) p (fun l3 m3=>∃ (X0:OA) (Y0 Z0:Nat),∃ f0:World,(Instr.makeSlice 22 (Value.int .i64 d) (Value.int .i64 d)).run P m3=.ok (.slice X0 Y0 Z0) f0∧LdB 3 (Addr.mk b 0 none) a f0∧∃ a1:Array Value,(∀ wq,(Instr.build 109 [(0,(Value.agg a)),(1,(Value.map (some l))),(2,(Value.slice b0 c0 d0)),(3,(Value.slice X0 Y0 Z0)),(4,(Value.map (some l3)))].toArray).run P wq=.ok (.agg a1) wq)∧NewC a1 109 f0 (fun n3 o3=>f52_s0 (Addr.mk n3 0 none) o3 K))))∧(∃ (g0:OA) (h0 i0:Nat),∃ q:World,(Instr.makeSlice 22 (Value.int .i64 d) (Value.int .i64 d)).run P a0=.ok (.slice g0 h0 i0) q∧q.cell? (Addr.mk b 0 none)=some (.int .i64 c)∧LdB 3 (Addr.mk b 0 none) a q∧(∃ (b1:OA) (c1 d1:Nat),∃ j0:World,(Instr.makeSlice 106 (Value.int .i64 c) (Value.int .i64 c)).run P q=.ok (.slice b1 c1 d1) j0∧LdB 3 (Addr.mk b 0 none) a j0∧NewO (.map #[] 0) j0 (fun p3 q3=>∃ e1:Array Value,(∀ wq,(Instr.build 109 [(0,(Value.agg a)),(1,(Value.map (some l))),(2,(Value.slice b1 c1 d1)),(3,(Value.slice g0 h0 i0)),(4,(Value.map (some p3)))].toArray).run P wq=.ok (.agg e1) wq)∧NewC e1 109 q3 (fun r3 s3=>f52_s0 (Addr.mk r3 0 none) s3 K)))∧(NewO (.map #[] 0) q (fun t3 u3=>∃ (f1:OA) (g1 h1:Nat),∃ l0:World,(Instr.makeSlice 106 (Value.int .i64 c) (Value.int .i64 c)).run P u3=.ok (.slice f1 g1 h1) l0∧LdB 3 (Addr.mk b 0 none) a l0∧∃ i1:Array Value,(∀ wq,(Instr.build 109 [(0,(Value.agg a)),(1,(Value.map (some l))),(2,(Value.slice f1 g1 h1)),(3,(Value.slice g0 h0 i0)),(4,(Value.map (some t3)))].toArray).run P wq=.ok (.agg i1) wq)∧NewC i1 109 l0 (fun v3 x3=>f52_s0 (Addr.mk v3 0 none) x3 K))))∧(NewO (.map #[] 0) a0 (fun j1 l1=>(∃ (m1:OA) (o1 p1:Nat),∃ t:World,(Instr.makeSlice 106 (Value.int .i64 c) (Value.int .i64 c)).run P l1=.ok (.slice m1 o1 p1) t∧t.cell? ((Addr.mk b 0 none).add 2)=some (.int .i64 d)∧LdB 3 (Addr.mk b 0 none) a t∧∃ (q1:OA) (r1 s1:Nat),∃ m0:World,(Instr.makeSlice 22 (Value.int .i64 d) (Value.int .i64 d)).run P t=.ok (.slice q1 r1 s1) m0∧LdB 3 (Addr.mk b 0 none) a m0∧∃ t1:Array Value,(∀ wq,(Instr.build 109 [(0,(Value.agg a)),(1,(Value.map (some l))),(2,(Value.slice m1 o1 p1)),(3,(Value.slice q1 r1 s1)),(4,(Value.map (some j1)))].toArray).run P wq=.ok (.agg t1) wq)∧NewC t1 109 m0 (fun y3 z3=>f52_s0 (Addr.mk y3 0 none) z3 K))∧(∃ (u1:OA) (v1 x1:Nat),∃ u:World,(Instr.makeSlice 22 (Value.int .i64 d) (Value.int .i64 d)).run P l1=.ok (.slice u1 v1 x1) u∧u.cell? (Addr.mk b 0 none)=some (.int .i64 c)∧LdB 3 (Addr.mk b 0 none) a u∧∃ (y1:OA) (z1 A1:Nat),∃ n0:World,(Instr.makeSlice 106 (Value.int .i64 c) (Value.int .i64 c)).run P u=.ok (.slice y1 z1 A1) n0∧LdB 3 (Addr.mk b 0 none) a n0∧∃ B1:Array Value,(∀ wq,(Instr.build 109 [(0,(Value.agg a)),(1,(Value.map (some l))),(2,(Value.slice y1 z1 A1)),(3,(Value.slice u1 v1 x1)),(4,(Value.map (some j1)))].toArray).run P wq=.ok (.agg B1) wq)∧NewC B1 109 n0 (fun A3 B3=>f52_s0 (Addr.mk A3 0 none) B3 K))))))∧(∃ (f:OA) (g h:Nat),∃ m:World,(Instr.makeSlice 106 (Value.int .i64 c) (Value.int .i64 c)).run P e.drew=.ok (.slice f g h) m∧m.cell? ((Addr.mk b 0 none).add 2)=some (.int .i64 d)∧LdB 3 (Addr.mk b 0 none) a m∧(NewO (.map #[] 0) m (fun C1 D1=>(∃ (E1:OA) (F1 G1:Nat),∃ o0:World,(Instr.makeSlice 22 (Value.int .i64 d) (Value.int .i64 d)).run P D1=.ok (.slice E1 F1 G1) o0∧LdB 3 (Addr.mk b 0 none) a o0∧NewO (.map #[] 0) o0 (fun C3 D3=>∃ H1:Array Value,(∀ wq,(Instr.build 109 [(0,(Value.agg a)),(1,(Value.map (some C1))),(2,(Value.slice f g h)),(3,(Value.slice E1 F1 G1)),(4,(Value.map (some C3)))].toArray).run P wq=.ok (.agg H1) wq)∧NewC H1 109 D3 (fun E3 F3=>f52_s0 (Addr.mk E3 0 none) F3 K)))∧(NewO (.map #[] 0) D1 (fun G3 H3=>∃ (I1:OA) (J1 L1:Nat),∃ p0:World,(Instr.makeSlice 22 (Value.int .i64 d) (Value.int .i64 d)).run P H3=.ok (.slice I1 J1 L1) p0∧LdB 3 (Addr.mk b 0 none) a p0∧∃ M1:Array Value,(∀ wq,(Instr.build 109 [(0,(Value.agg a)),(1,(Value.map (some C1))),(2,(Value.slice f g h)),(3,(Value.slice I1 J1 L1)),(4,(Value.map (some G3)))].toArray).run P wq=.ok (.agg M1) wq)∧NewC M1 109 p0 (fun I3 J3=>f52_s0 (Addr.mk I3 0 none) J3 K)))))∧(∃ (q0:OA) (r0 s0:Nat),∃ v:World,(Instr.makeSlice 22 (Value.int .i64 d) (Value.int .i64 d)).run P m=.ok (.slice q0 r0 s0) v∧LdB 3 (Addr.mk b 0 none) a v∧(NewO (.map #[] 0) v (fun L3 M3=>NewO (.map #[] 0) M3 (fun N3 O3=>∃ N1:Array Value,(∀ wq,(Instr.build 109 [(0,(Value.agg a)),(1,(Value.map (some L3))),(2,(Value.slice f g h)),(3,(Value.slice q0 r0 s0)),(4,(Value.map (some N3)))].toArray).run P wq=.ok (.agg N1) wq)∧NewC N1 109 O3 (fun Q3 R3=>f52_s0 (Addr.mk Q3 0 none) R3 K))))∧(NewO (.map #[] 0) v (fun S3 T3=>NewO (.map #[] 0) T3 (fun U3 V3=>∃ O1:Array Value,(∀ wq,(Instr.build 109 [(0,(Value.agg a)),(1,(Value.map (some U3))),(2,(Value.slice f g h)),(3,(Value.slice q0 r0 s0)),(4,(Value.map (some S3)))].toArray).run P wq=.ok (.agg O1) wq)∧NewC O1 109 V3 (fun W3 X3=>f52_s0 (Addr.mk W3 0 none) X3 K)))))∧(NewO (.map #[] 0) m (fun Q1 R1=>(NewO (.map #[] 0) R1 (fun Y3 Z3=>∃ (S1:OA) (T1 U1:Nat),∃ t0:World,(Instr.makeSlice 22 (Value.int .i64 d) (Value.int .i64 d)).run P Z3=.ok (.slice S1 T1 U1) t0∧LdB 3 (Addr.mk b 0 none) a t0∧∃ V1:Array Value,(∀ wq,(Instr.build 109 [(0,(Value.agg a)),(1,(Value.map (some Y3))),(2,(Value.slice f g h)),(3,(Value.slice S1 T1 U1)),(4,(Value.map (some Q1)))].toArray).run P wq=.ok (.agg V1) wq)∧NewC V1 109 t0 (fun a4 b4=>f52_s0 (Addr.mk a4 0 none) b4 K)))∧(∃ (W1:OA) (X1 Y1:Nat),∃ u0:World,(Instr.makeSlice 22 (Value.int .i64 d) (Value.int .i64 d)).run P R1=.ok (.slice W1 X1 Y1) u0∧LdB 3 (Addr.mk b 0 none) a u0∧NewO (.map #[] 0) u0 (fun c4 d4=>∃ Z1:Array Value,(∀ wq,(Instr.build 109 [(0,(Value.agg a)),(1,(Value.map (some c4))),(2,(Value.slice f g h)),(3,(Value.slice W1 X1 Y1)),(4,(Value.map (some Q1)))].toArray).run P wq=.ok (.agg Z1) wq)∧NewC Z1 109 d4 (fun e4 f4=>f52_s0 (Addr.mk e4 0 none) f4 K))))))∧(∃ (i:OA) (j k:Nat),∃ n:World,(Instr.makeSlice 22 (Value.int .i64 d) (Value.int .i64 d)).run P e.drew=.ok (.slice i j k) n∧n.cell? (Addr.mk b 0 none)=some (.int .i64 c)∧LdB 3 (Addr.mk b 0 none) a n∧(NewO (.map #[] 0) n (fun a2 b2=>(∃ (c2:OA) (d2 e2:Nat),∃ v0:World,(Instr.makeSlice 106 (Value.int .i64 c) (Value.int .i64 c)).run P b2=.ok (.slice c2 d2 e2) v0∧LdB 3 (Addr.mk b 0 none) a v0∧NewO (.map #[] 0) v0 (fun g4 h4=>∃ f2:Array Value,(∀ wq,(Instr.build 109 [(0,(Value.agg a)),(1,(Value.map (some a2))),(2,(Value.slice c2 d2 e2)),(3,(Value.slice i j k)),(4,(Value.map (some g4)))].toArray).run P wq=.ok (.agg f2) wq)∧NewC f2 109 h4 (fun i4 j4=>f52_s0 (Addr.mk i4 0 none) j4 K)))∧(NewO (.map #[] 0) b2 (fun l4 m4=>∃ (g2:OA) (h2 i2:Nat),∃ x0:World,(Instr.makeSlice 106 (Value.int .i64 c) (Value.int .i64 c)).run P m4=.ok (.slice g2 h2 i2) x0∧LdB 3 (Addr.mk b 0 none) a x0∧∃ j2:Array Value,(∀ wq,(Instr.build 109 [(0,(Value.agg a)),(1,(Value.map (some a2))),(2,(Value.slice g2 h2 i2)),(3,(Value.slice i j k)),(4,(Value.map (some l4)))].toArray).run P wq=.ok (.agg j2) wq)∧NewC j2 109 x0 (fun n4 o4=>f52_s0 (Addr.mk n4 0 none) o4 K)))))∧(∃ (y0:OA) (z0 A0:Nat),∃ x:World,(Instr.makeSlice 106 (Value.int .i64 c) (Value.int .i64 c)).run P n=.ok (.slice y0 z0 A0) x∧LdB 3 (Addr.mk b 0 none) a x∧(NewO (.map #[] 0) x (fun p4 q4=>NewO (.map #[] 0) q4 (fun r4 s4=>∃ l2:Array Value,(∀ wq,(Instr.build 109 [(0,(Value.agg a)),(1,(Value.map (some p4))),(2,(Value.slice y0 z0 A0)),(3,(Value.slice i j k)),(4,(Value.map (some r4)))].toArray).run P wq=.ok (.agg l2) wq)∧NewC l2 109 s4 (fun t4 u4=>f52_s0 (Addr.mk t4 0 none) u4 K))))∧(NewO (.map #[] 0) x (fun v4 y4=>NewO (.map #[] 0) y4 (fun z4 A4=>∃ m2:Array Value,(∀ wq,(Instr.build 109 [(0,(Value.agg a)),(1,(Value.map (some z4))),(2,(Value.slice y0 z0 A0)),(3,(Value.slice i j k)),(4,(Value.map (some v4)))].toArray).run P wq=.ok (.agg m2) wq)∧NewC m2 109 A4 (fun B4 C4=>f52_s0 (Addr.mk B4 0 none) C4 K)))))∧(NewO (.map #[] 0) n (fun n2 o2=>(NewO (.map #[] 0) o2 (fun D4 E4=>∃ (p2:OA) (q2 r2:Nat),∃ B0:World,(Instr.makeSlice 106 (Value.int .i64 c) (Value.int .i64 c)).run P E4=.ok (.slice p2 q2 r2) B0∧LdB 3 (Addr.mk b 0 none) a B0∧∃ s2:Array Value,(∀ wq,(Instr.build 109 [(0,(Value.agg a)),(1,(Value.map (some D4))),(2,(Value.slice p2 q2 r2)),(3,(Value.slice i j k)),(4,(Value.map (some n2)))].toArray).run P wq=.ok (.agg s2) wq)∧NewC s2 109 B0 (fun F4 G4=>f52_s0 (Addr.mk F4 0 none) G4 K)))∧(∃ (t2:OA) (u2 v2:Nat),∃ C0:World,(Instr.makeSlice 106 (Value.int .i64 c) (Value.int .i64 c)).run P o2=.ok (.slice t2 u2 v2) C0∧LdB 3 (Addr.mk b 0 none) a C0∧NewO (.map #[] 0) C0 (fun H4 I4=>∃ x2:Array Value,(∀ wq,(Instr.build 109 [(0,(Value.agg a)),(1,(Value.map (some H4))),(2,(Value.slice t2 u2 v2)),(3,(Value.slice i j k)),(4,(Value.map (some n2)))].toArray).run P wq=.ok (.agg x2) wq)∧NewC x2 109 I4 (fun J4 L4=>f52_s0 (Addr.mk J4 0 none) L4 K))))))∧(NewO (.map #[] 0) e.drew (fun o D0=>(NewO (.map #[] 0) D0 (fun y2 z2=>(∃ (A2:OA) (B2 C2:Nat),∃ y:World,(Instr.makeSlice 106 (Value.int .i64 c) (Value.int .i64 c)).run P z2=.ok (.slice A2 B2 C2) y∧y.cell? ((Addr.mk b 0 none).add 2)=some (.int .i64 d)∧LdB 3 (Addr.mk b 0 none) a y∧∃ (D2:OA) (E2 F2:Nat),∃ E0:World,(Instr.makeSlice 22 (Value.int .i64 d) (Value.int .i64 d)).run P y=.ok (.slice D2 E2 F2) E0∧LdB 3 (Addr.mk b 0 none) a E0∧∃ G2:Array Value,(∀ wq,(Instr.build 109 [(0,(Value.agg a)),(1,(Value.map (some y2))),(2,(Value.slice A2 B2 C2)),(3,(Value.slice D2 E2 F2)),(4,(Value.map (some o)))].toArray).run P wq=.ok (.agg G2) wq)∧NewC G2 109 E0 (fun M4 N4=>f52_s0 (Addr.mk M4 0 none) N4 K))∧(∃ (H2:OA) (I2 J2:Nat),∃ z:World,(Instr.makeSlice 22 (Value.int .i64 d) (Value.int .i64 d)).run P z2=.ok (.slice H2 I2 J2) z∧z.cell? (Addr.mk b 0 none)=some (.int .i64 c)∧LdB 3 (Addr.mk b 0 none) a z∧∃ (L2:OA) (M2 N2:Nat),∃ F0:World,(Instr.makeSlice 106 (Value.int .i64 c) (Value.int .i64 c)).run P z=.ok (.slice L2 M2 N2) F0∧LdB 3 (Addr.mk b 0 none) a F0∧∃ O2:Array Value,(∀ wq,(Instr.build 109 [(0,(Value.agg a)),(1,(Value.map (some y2))),(2,(Value.slice L2 M2 N2)),(3,(Value.slice H2 I2 J2)),(4,(Value.map (some o)))].toArray).run P wq=.ok (.agg O2) wq)∧NewC O2 109 F0 (fun O4 Q4=>f52_s0 (Addr.mk O4 0 none) Q4 K))))∧(∃ (G0:OA) (H0 I0:Nat),∃ r:World,(Instr.makeSlice 106 (Value.int .i64 c) (Value.int .i64 c)).run P D0=.ok (.slice G0 H0 I0) r∧r.cell? ((Addr.mk b 0 none).add 2)=some (.int .i64 d)∧LdB 3 (Addr.mk b 0 none) a r∧(NewO (.map #[] 0) r (fun R4 S4=>∃ (Q2:OA) (R2 S2:Nat),∃ J0:World,(Instr.makeSlice 22 (Value.int .i64 d) (Value.int .i64 d)).run P S4=.ok (.slice Q2 R2 S2) J0∧LdB 3 (Addr.mk b 0 none) a J0∧∃ T2:Array Value,(∀ wq,(Instr.build 109 [(0,(Value.agg a)),(1,(Value.map (some R4))),(2,(Value.slice G0 H0 I0)),(3,(Value.slice Q2 R2 S2)),(4,(Value.map (some o)))].toArray).run P wq=.ok (.agg T2) wq)∧NewC T2 109 J0 (fun T4 U4=>f52_s0 (Addr.mk T4 0 none) U4 K)))∧(∃ (U2:OA) (V2 W2:Nat),∃ L0:World,(Instr.makeSlice 22 (Value.int .i64 d) (Value.int .i64 d)).run P r=.ok (.slice U2 V2 W2) L0∧LdB 3 (Addr.mk b 0 none) a L0∧NewO (.map #[] 0) L0 (fun V4 W4=>∃ X2:Array Value,(∀ wq,(Instr.build 109 [(0,(Value.agg a)),(1,(Value.map (some V4))),(2,(Value.slice G0 H0 I0)),(3,(Value.slice U2 V2 W2)),(4,(Value.map (some o)))].toArray).run P wq=.ok (.agg X2) wq)∧NewC X2 109 W4 (fun X4 Y4=>f52_s0 (Addr.mk X4 0 none) Y4 K))))∧(∃ (M0:OA) (N0 O0:Nat),∃ s:World,(Instr.makeSlice 22 (Value.int .i64 d) (Value.int .i64 d)).run P D0=.ok (.slice M0 N0 O0) s∧s.cell? (Addr.mk b 0 none)=some (.int .i64 c)∧LdB 3 (Addr.mk b 0 none) a s∧(NewO (.map #[] 0) s (fun Z4 a5=>∃ (Y2:OA) (Z2 a3:Nat),∃ Q0:World,(Instr.makeSlice 106 (Value.int .i64 c) (Value.int .i64 c)).run P a5=.ok (.slice Y2 Z2 a3) Q0∧LdB 3 (Addr.mk b 0 none) a Q0∧∃ b3:Array Value,(∀ wq,(Instr.build 109 [(0,(Value.agg a)),(1,(Value.map (some Z4))),(2,(Value.slice Y2 Z2 a3)),(3,(Value.slice M0 N0 O0)),(4,(Value.map (some o)))].toArray).run P wq=.ok (.agg b3) wq)∧NewC b3 109 Q0 (fun b5 c5=>f52_s0 (Addr.mk b5 0 none) c5 K)))∧(∃ (c3:OA) (d3 e3:Nat),∃ R0:World,(Instr.makeSlice 106 (Value.int .i64 c) (Value.int .i64 c)).run P s=.ok (.slice c3 d3 e3) R0∧LdB 3 (Addr.mk b 0 none) a R0∧NewO (.map #[] 0) R0 (fun d5 e5=>∃ f3:Array Value,(∀ wq,(Instr.build 109 [(0,(Value.agg a)),(1,(Value.map (some d5))),(2,(Value.slice c3 d3 e3)),(3,(Value.slice M0 N0 O0)),(4,(Value.map (some o)))].toArray).run P wq=.ok (.agg f3) wq)∧NewC f3 109 e5 (fun f5 g5=>f52_s0 (Addr.mk f5 0 none) g5 K))))))))):=by kernel_rfl
theorem f52_ok (a:Array Value) (w:World) (K:KT) (h:f52 a w K):CallL P 52 [(Value.agg a)] w K:=okCS c52 Tryz.func52 (by kernel_rfl) (by kernel_rfl) h
noncomputable def c58:Code:=bodyOf Tryz.f58
noncomputable def rs58:List ResultVar:=Tryz.f58.results.toList
abbrev f58_kb (K:KT):Exit→YT:=bodyK P rs58 K
def f58 (a:OA) (b:Int) (w:World) (K:KT):Prop:=CS P c58 none [4] [4] (f58_kb K) (env0 32 [(VP a),(VI b)]) w
abbrev f58_k2 (K:KT):Exit→YT:=kseq P (cA c58 14) (cA c58 15) none [4] [4] (f58_kb K)
abbrev f58_k4 (K:KT):Exit→YT:=kblock 0 (f58_k2 K)
def f58_lp0 (K:KT) (Y0:YT) (e:Env) (w:World):Prop:=Join (fun e w=>CS P (cA c58 116) none [16,0,5,14,4,15] [4,5] (kloop [16,0,5,14,4,15] Y0 (f58_k4 K)) e w) e w
abbrev f58_kl0 (K:KT) (Y0:YT):Exit→YT:=kloop [16,0,5,14,4,15] Y0 (f58_k4 K)
def f58_lb0 (a:Int) (b:OA) (c:Int) (d:OA) (f g:Nat) (h i:Int) (w:World) (K:KT) (Y0:YT):Prop:=SG P (cA c58 116) none [16,0,5,14,4,15] [4,5] (f58_kl0 K Y0) (Env.mk 32 [(16,(VI a)),(0,(VP b)),(5,(VI c)),(14,(VS d f g)),(4,(VI h)),(15,(VI i))] []) w
def f58_s1 (a b:OA) (c d:Nat) (f g h i:Int) (w:World) (K:KT) (Y0:YT):Prop:=SG P (cA c58 467) none [16,0,5,14,4,15] [4,5] (f58_kl0 K Y0) (Env.mk 32 [(0,(VP a)),(14,(VS b c d)),(4,(VI f)),(15,(VI g)),(16,(VI h)),(5,(VI i))] []) w
def f58_s2 (a:OA) (b:Int) (c:OA) (d f:Nat) (g h i:Int) (w:World) (K:KT) (Y0:YT):Prop:=SG P (cA c58 935) none [16,0,5,14,4,15] [4,5] (f58_kl0 K Y0) (Env.mk 32 [(0,(VP a)),(5,(VI b)),(14,(VS c d f)),(4,(VI g)),(15,(VI h)),(16,(VI i))] []) w
theorem f58_s2_eq (a:OA) (b:Int) (c:OA) (d e:Nat) (f g h:Int) (w:World) (K:KT) (Y0:YT):f58_s2 a b c d e f g h w K Y0=(Y0 (Env.mk 32 [(16,(Value.int .i64 (IntKind.wrap .i64 ((h:Int)+1)))),(0,(Value.pointer a)),(5,(Value.int .i64 b)),(14,(Value.slice c d e)),(4,(Value.int .i64 f)),(15,(Value.int .i64 g))] []) w):=by kernel_rfl
theorem f58_s1_eq (b c:OA) (d e:Nat) (f g a h:Int) (w:World) (K:KT) (Y0:YT):f58_s1 b c d e f g a h w K Y0=(optS c (fun m=>0≤(a:Int)∧(a:Int) < (d:Nat)∧∃ i:Int,w.cell? (m.add (Int.toNat a * 1))=some (.int .u32 i)∧optS b (fun n=>∃ j:Option Nat,w.cell? (n.add 3)=some (.map j)∧∃ k:Array Value,(∀ wq,Ext w wq→(Instr.lookup 105 (Value.map j) (Value.int .u32 i) false).run P wq=.ok (.agg k) wq)∧∃ (o:OA) (l p:Nat),k[2]?=some (.slice o l p)∧f58_s2 b (IntKind.wrap .i64 ((h:Int)+((l:Nat):Int))) c d e f g a w K Y0))):=by kernel_rfl
def f58_s3 (a:Int) (w:World) (K:KT):Prop:=SG P (cA c58 15) none [4] [4] (f58_kb K) (Env.mk 32 [(5,(VI a))] []) w
theorem f58_s3_eq (a:Int) (w:World) (K:KT):f58_s3 a w K=(K (Value.int .i64 a) w):=by kernel_rfl
theorem f58_lb0_eq (a:Int) (d:OA) (b:Int) (e:OA) (f g:Nat) (h c:Int) (w:World) (K:KT) (Y0:YT):f58_lb0 a d b e f g h c w K Y0=(BIf (decide ((a:Int) < c)) (f58_s1 d e f g h c a b w K Y0) (f58_s3 b w K)):=by kernel_rfl
theorem f58_eq (b:OA) (a:Int) (w:World) (K:KT):f58 b a w K=(optS b (fun h=>∃ (d:OA) (e i:Nat),w.cell? (h.add 4)=some (.slice d e i)∧optS d (fun j=>0≤(a:Int)∧(a:Int) < (e:Nat)∧∃ (f:OA) (c g:Nat),w.cell? (j.add (Int.toNat a * 1))=some (.slice f c g)∧LoopE (f58_lp0 K) (Env.mk 32 [(16,(Value.int .i64 0)),(0,(Value.pointer b)),(5,(Value.int .i64 0)),(14,(Value.slice f c g)),(4,(Value.int .i64 0)),(15,(Value.int .i64 ((c:Nat):Int)))] []) w))):=by kernel_rfl
theorem f58_ok (a:OA) (b:Int) (w:World) (K:KT) (h:f58 a b w K):CallL P 58 [(Value.pointer a),(Value.int .i64 b)] w K:=okCS c58 Tryz.func58 (by kernel_rfl) (by kernel_rfl) h
noncomputable def c60:Code:=bodyOf Tryz.f60
noncomputable def rs60:List ResultVar:=Tryz.f60.results.toList
abbrev f60_kb (K:KT):Exit→YT:=bodyK P rs60 K
def f60 (a b:OA) (c d:Nat) (w:World) (K:KT):Prop:=CS P c60 none [4] [4] (f60_kb K) (env0 92 [(VP a),(VS b c d)]) w
def f60_s0 (a b:OA) (c d:Nat) (w:World) (K:KT):Prop:=CS P (cA c60 1) none [4] [4] (f60_kb K) (Env.mk 92 [(0,(VP a)),(1,(VS b c d))] []) w
abbrev f60_k0 (K:KT):Exit→YT:=kseq P (cA c60 2) (cA c60 3) none [4] [4] (f60_kb K)
def f60_s1 (a:OA) (b c:Nat) (d e:OA) (f g:Nat) (w:World) (K:KT):Prop:=CS P (cA c60 3) none [4] [4] (f60_kb K) (Env.mk 92 [(4,(VS a b c)),(0,(VP d)),(1,(VS e f g))] []) w
abbrev f60_k1 (K:KT):Exit→YT:=kseq P (cA c60 6) (cA c60 7) none [4] [4] (f60_kb K)
def f60_s2 (a:OA) (b c:Nat) (d:OA) (e f:Nat) (g:OA) (h i:Nat) (j:OA) (k l:Nat) (m n:OA) (o p:Nat) (w:World) (K:KT):Prop:=CS P (cA c60 7) none [4] [4] (f60_kb K) (Env.mk 92 [(5,(VS a b c)),(14,(VS d e f)),(13,(VS g h i)),(4,(VS j k l)),(0,(VP m)),(1,(VS n o p))] []) w
abbrev f60_k2 (K:KT):Exit→YT:=kseq P (cA c60 14) (cA c60 15) none [4] [4] (f60_kb K)
def f60_s3 (a:OA) (b c:Nat) (d:OA) (e f:Nat) (g:OA) (h i:Nat) (j:OA) (k l:Nat) (m:OA) (n o:Nat) (p q:OA) (r s:Nat) (w:World) (K:KT):Prop:=CS P (cA c60 15) none [4] [4] (f60_kb K) (Env.mk 92 [(16,(Value.tuple [].toArray)),(15,(VS a b c)),(5,(VS d e f)),(14,(VS g h i)),(13,(VS j k l)),(4,(VS m n o)),(0,(VP p)),(1,(VS q r s))] []) w
abbrev f60_k3 (K:KT):Exit→YT:=kseq P (cA c60 30) (cA c60 31) none [4] [4] (f60_kb K)
abbrev f60_k4 (K:KT):Exit→YT:=kseq P (cA c60 60) (cA c60 61) none [5] [4] (f60_k3 K)
def f60_s4 (a b:Int) (c:OA) (d e:Nat) (f:OA) (g h:Nat) (i:OA) (j k:Nat) (l:OA) (m n:Nat) (o:OA) (p q:Nat) (r:OA) (s t:Nat) (u v:OA) (x y:Nat) (w:World) (K:KT):Prop:=CS P (cA c60 61) none [5] [4] (f60_k3 K) (Env.mk 92 [(19,(VI a)),(18,(VI b)),(17,(VS c d e)),(16,(Value.tuple [].toArray)),(15,(VS f g h)),(5,(VS i j k)),(14,(VS l m n)),(13,(VS o p q)),(4,(VS r s t)),(0,(VP u)),(1,(VS v x y))] []) w
abbrev f60_k5 (K:KT):Exit→YT:=kblock 0 (f60_k3 K)
def f60_lp5 (K:KT) (Y5:YT) (e:Env) (w:World):Prop:=Join (fun e w=>CS P (cA c60 244) none [0,4,5,19,17,18] [4,5] (kloop [0,4,5,19,17,18] Y5 (f60_k5 K)) e w) e w
abbrev f60_kl5 (K:KT) (Y5:YT):Exit→YT:=kloop [0,4,5,19,17,18] Y5 (f60_k5 K)
def f60_lb5 (a b:OA) (c d:Nat) (f:OA) (g h:Nat) (i:Int) (j:OA) (k l:Nat) (m:Int) (w:World) (K:KT) (Y5:YT):Prop:=SG P (cA c60 244) none [0,4,5,19,17,18] [4,5] (f60_kl5 K Y5) (Env.mk 92 [(0,(VP a)),(4,(VS b c d)),(5,(VS f g h)),(19,(VI i)),(17,(VS j k l)),(18,(VI m))] []) w
abbrev f60_k6 (K:KT) (Y5:YT):Exit→YT:=kseq P (cA c60 488) (cA c60 489) none [0,4,5,19,17,18] [4,5] (f60_kl5 K Y5)
def f60_s6 (a:Bool) (b c:OA) (d e:Nat) (f:OA) (g h:Nat) (i:Int) (j:OA) (k l:Nat) (m:Int) (w:World) (K:KT) (Y5:YT):Prop:=CS P (cA c60 489) none [0,4,5,19,17,18] [4,5] (f60_kl5 K Y5) (Env.mk 92 [(20,(VB a)),(0,(VP b)),(4,(VS c d e)),(5,(VS f g h)),(19,(VI i)),(17,(VS j k l)),(18,(VI m))] []) w
abbrev f60_k7 (K:KT) (Y5:YT):Exit→YT:=kseq P (cA c60 978) (cA c60 979) none [0,4,5,19,17,18] [4,5] (f60_kl5 K Y5)
def f60_s7 (a b:OA) (c d:Nat) (f:OA) (g h:Nat) (i:OA) (j k:Nat) (l m:Int) (w:World) (K:KT) (Y5:YT):Prop:=SG P (cA c60 979) none [0,4,5,19,17,18] [4,5] (f60_kl5 K Y5) (Env.mk 92 [(0,(VP a)),(4,(VS b c d)),(5,(VS f g h)),(17,(VS i j k)),(18,(VI l)),(19,(VI m))] []) w
abbrev f60_k8 (K:KT) (Y5:YT):Exit→YT:=kseq P (cA c60 1958) (cA c60 1959) none [0,4,5,19,17,18] [4,5] (f60_kl5 K Y5)
abbrev f60_k9 (K:KT) (Y5:YT):Exit→YT:=kblock 1 (f60_k8 K Y5)
abbrev f60_k10 (K:KT) (Y5:YT):Exit→YT:=kseq P (cA c60 7832) (cA c60 7833) none [0,4,5,17,18,19] [4,5,0,17,18,19] (f60_k9 K Y5)
def f60_s8 (a:Addr) (b:Int) (c:Addr) (d e:OA) (f g:Nat) (h:OA) (i j:Nat) (k:OA) (l m:Nat) (n o:Int) (w:World) (K:KT) (Y5:YT):Prop:=CS P (cA c60 7833) none [0,4,5,17,18,19] [4,5,0,17,18,19] (f60_k9 K Y5) (Env.mk 92 [(7,(VP (some a))),(22,(Value.int .u32 b)),(21,(VP (some c))),(0,(VP d)),(4,(VS e f g)),(5,(VS h i j)),(17,(VS k l m)),(18,(VI n)),(19,(VI o))] []) w
abbrev f60_k11 (K:KT) (Y5:YT):Exit→YT:=kseq P (cA c60 15666) (cA c60 15667) none [0,4,5,17,18,19] [4,5,0,17,18,19] (f60_k9 K Y5)
abbrev f60_k12 (K:KT) (Y5:YT):Exit→YT:=kseq P (cA c60 31332) (cA c60 31333) none [7,0,4,5,17,18,19] [4,5,0,17,18,19] (f60_k11 K Y5)
def f60_s9 (a:Addr) (b:OA) (c:Addr) (d:OA) (f g:Nat) (h:OA) (i j:Nat) (k:OA) (l m:Nat) (n o:Int) (w:World) (K:KT) (Y5:YT):Prop:=SG P (cA c60 31333) none [7,0,4,5,17,18,19] [4,5,0,17,18,19] (f60_k11 K Y5) (Env.mk 92 [(7,(VP (some a))),(0,(VP b)),(30,(VP (some c))),(4,(VS d f g)),(5,(VS h i j)),(17,(VS k l m)),(18,(VI n)),(19,(VI o))] []) w
abbrev f60_k13 (K:KT) (Y5:YT):Exit→YT:=kblock 2 (f60_k11 K Y5)
def f60_lp10 (K:KT) (Y5 Y10:YT) (e:Env) (w:World):Prop:=Join (fun e w=>CS P (cA c60 125332) none [7,0,30,4,5,17,18,19] [4,5,0,17,18,19,7] (kloop [7,0,30,4,5,17,18,19] Y10 (f60_k13 K Y5)) e w) e w
abbrev f60_kl10 (K:KT) (Y5 Y10:YT):Exit→YT:=kloop [7,0,30,4,5,17,18,19] Y10 (f60_k13 K Y5)
def f60_lb10 (a:Addr) (b:OA) (c:Addr) (d:OA) (f g:Nat) (h:OA) (i j:Nat) (k:OA) (l m:Nat) (n o:Int) (w:World) (K:KT) (Y5 Y10:YT):Prop:=SG P (cA c60 125332) none [7,0,30,4,5,17,18,19] [4,5,0,17,18,19,7] (f60_kl10 K Y5 Y10) (Env.mk 92 [(7,(VP (some a))),(0,(VP b)),(30,(VP (some c))),(4,(VS d f g)),(5,(VS h i j)),(17,(VS k l m)),(18,(VI n)),(19,(VI o))] []) w
abbrev f60_k14 (K:KT) (Y5 Y10:YT):Exit→YT:=kseq P (cA c60 250664) (cA c60 250665) none [7,0,30,4,5,17,18,19] [4,5,0,17,18,19,7] (f60_kl10 K Y5 Y10)
def f60_s11 (a:Bool) (b:Addr) (c:OA) (d:Addr) (e:OA) (f g:Nat) (h:OA) (i j:Nat) (k:OA) (l m:Nat) (n o:Int) (w:World) (K:KT) (Y5 Y10:YT):Prop:=CS P (cA c60 250665) none [7,0,30,4,5,17,18,19] [4,5,0,17,18,19,7] (f60_kl10 K Y5 Y10) (Env.mk 92 [(32,(VB false)),(31,(Value.tuple [(VB a)].toArray)),(7,(VP (some b))),(0,(VP c)),(30,(VP (some d))),(4,(VS e f g)),(5,(VS h i j)),(17,(VS k l m)),(18,(VI n)),(19,(VI o))] []) w
abbrev f60_k15 (K:KT) (Y5 Y10:YT):Exit→YT:=kseq P (cA c60 501330) (cA c60 501331) none [7,0,30,4,5,17,18,19] [4,5,0,17,18,19,7] (f60_kl10 K Y5 Y10)
def f60_s12 (a:Addr) (b c:OA) (d f:Nat) (g:OA) (h i:Nat) (j:OA) (k l:Nat) (m n:Int) (w:World) (K:KT) (Y5:YT):Prop:=SG P (cA c60 15667) none [0,4,5,17,18,19] [4,5,0,17,18,19] (f60_k9 K Y5) (Env.mk 92 [(7,(VP (some a))),(0,(VP b)),(4,(VS c d f)),(5,(VS g h i)),(17,(VS j k l)),(18,(VI m)),(19,(VI n))] []) w
abbrev f60_k16 (K:KT) (Y5:YT):Exit→YT:=kseq P (cA c60 31334) (cA c60 31335) none [0,4,5,17,18,19] [4,5,0,17,18,19] (f60_k9 K Y5)
abbrev f60_k17 (K:KT) (Y5:YT):Exit→YT:=kseq P (cA c60 62668) (cA c60 62669) none [7,0,4,5,17,18,19] [4,5,0,17,18,19] (f60_k16 K Y5)
def f60_s13 (a b:Int) (c:OA) (d e:Nat) (f:Int) (g:OA) (h:Addr) (i j:OA) (k l:Nat) (m:OA) (n o:Nat) (p:OA) (q r:Nat) (s t:Int) (w:World) (K:KT) (Y5:YT):Prop:=CS P (cA c60 62669) none [7,0,4,5,17,18,19] [4,5,0,17,18,19] (f60_k16 K Y5) (Env.mk 92 [(46,(VI a)),(45,(VI b)),(44,(VS c d e)),(43,(Value.int .u32 f)),(42,(VP g)),(7,(VP (some h))),(0,(VP i)),(4,(VS j k l)),(5,(VS m n o)),(17,(VS p q r)),(18,(VI s)),(19,(VI t))] []) w
abbrev f60_k18 (K:KT) (Y5:YT):Exit→YT:=kblock 4 (f60_k16 K Y5)
def f60_lp14 (K:KT) (Y5 Y14:YT) (e:Env) (w:World):Prop:=Join (fun e w=>CS P (cA c60 250676) none [46,7,0,44,4,5,17,18,19,45] [4,5,0,17,18,19,7] (kloop [46,7,0,44,4,5,17,18,19,45] Y14 (f60_k18 K Y5)) e w) e w
abbrev f60_kl14 (K:KT) (Y5 Y14:YT):Exit→YT:=kloop [46,7,0,44,4,5,17,18,19,45] Y14 (f60_k18 K Y5)
def f60_lb14 (a:Int) (b:Addr) (c d:OA) (f g:Nat) (h:OA) (i j:Nat) (k:OA) (l m:Nat) (n:OA) (o p:Nat) (q r s:Int) (w:World) (K:KT) (Y5 Y14:YT):Prop:=SG P (cA c60 250676) none [46,7,0,44,4,5,17,18,19,45] [4,5,0,17,18,19,7] (f60_kl14 K Y5 Y14) (Env.mk 92 [(46,(VI a)),(7,(VP (some b))),(0,(VP c)),(44,(VS d f g)),(4,(VS h i j)),(5,(VS k l m)),(17,(VS n o p)),(18,(VI q)),(19,(VI r)),(45,(VI s))] []) w
abbrev f60_k19 (K:KT) (Y5 Y14:YT):Exit→YT:=kseq P (cA c60 501352) (cA c60 501353) none [46,7,0,44,4,5,17,18,19,45] [4,5,0,17,18,19,7] (f60_kl14 K Y5 Y14)
def f60_s15 (a:Bool) (b:Int) (c:Addr) (d e:OA) (f g:Nat) (h:OA) (i j:Nat) (k:OA) (l m:Nat) (n:OA) (o p:Nat) (q r s:Int) (w:World) (K:KT) (Y5 Y14:YT):Prop:=CS P (cA c60 501353) none [46,7,0,44,4,5,17,18,19,45] [4,5,0,17,18,19,7] (f60_kl14 K Y5 Y14) (Env.mk 92 [(47,(VB a)),(46,(VI b)),(7,(VP (some c))),(0,(VP d)),(44,(VS e f g)),(4,(VS h i j)),(5,(VS k l m)),(17,(VS n o p)),(18,(VI q)),(19,(VI r)),(45,(VI s))] []) w
abbrev f60_k20 (K:KT) (Y5 Y14:YT):Exit→YT:=kseq P (cA c60 1002706) (cA c60 1002707) none [46,7,0,44,4,5,17,18,19,45] [4,5,0,17,18,19,7] (f60_kl14 K Y5 Y14)
def f60_s16 (a:Addr) (b c:OA) (d f:Nat) (g:OA) (h i:Nat) (j:OA) (k l:Nat) (m:OA) (n o:Nat) (p q r s:Int) (w:World) (K:KT) (Y5 Y14:YT):Prop:=SG P (cA c60 1002707) none [46,7,0,44,4,5,17,18,19,45] [4,5,0,17,18,19,7] (f60_kl14 K Y5 Y14) (Env.mk 92 [(7,(VP (some a))),(0,(VP b)),(44,(VS c d f)),(4,(VS g h i)),(5,(VS j k l)),(17,(VS m n o)),(18,(VI p)),(19,(VI q)),(45,(VI r)),(46,(VI s))] []) w
abbrev f60_k21 (K:KT) (Y5 Y14:YT):Exit→YT:=kseq P (cA c60 2005414) (cA c60 2005415) none [46,7,0,44,4,5,17,18,19,45] [4,5,0,17,18,19,7] (f60_kl14 K Y5 Y14)
abbrev f60_k22 (K:KT) (Y5 Y14:YT):Exit→YT:=kblock 5 (f60_k21 K Y5 Y14)
abbrev f60_k23 (K:KT) (Y5 Y14:YT):Exit→YT:=kseq P (cA c60 8021656) (cA c60 8021657) none [7,0,44,4,5,17,18,19,45,46] [4,5,0,17,18,19,7,44,45,46] (f60_k22 K Y5 Y14)
def f60_s17 (a:Addr) (b c:OA) (d f:Nat) (g:OA) (h i:Nat) (j:OA) (k l:Nat) (m:OA) (n o:Nat) (p q r s:Int) (w:World) (K:KT) (Y5 Y14:YT):Prop:=SG P (cA c60 2005415) none [46,7,0,44,4,5,17,18,19,45] [4,5,0,17,18,19,7] (f60_kl14 K Y5 Y14) (Env.mk 92 [(7,(VP (some a))),(0,(VP b)),(44,(VS c d f)),(4,(VS g h i)),(5,(VS j k l)),(17,(VS m n o)),(18,(VI p)),(19,(VI q)),(45,(VI r)),(46,(VI s))] []) w
theorem f60_s17_eq (a:Addr) (c d:OA) (e f:Nat) (g:OA) (h i:Nat) (j:OA) (k l:Nat) (m:OA) (n o:Nat) (p q r s:Int) (w:World) (K:KT) (Y5 Y14:YT):f60_s17 a c d e f g h i j k l m n o p q r s w K Y5 Y14=(Y14 (Env.mk 92 [(46,(Value.int .i64 (IntKind.wrap .i64 ((s:Int)+1)))),(7,(Value.pointer (some a))),(0,(Value.pointer c)),(44,(Value.slice d e f)),(4,(Value.slice g h i)),(5,(Value.slice j k l)),(17,(Value.slice m n o)),(18,(Value.int .i64 p)),(19,(Value.int .i64 q)),(45,(Value.int .i64 r))] []) w):=Eq.trans SGe (by kernel_rfl)
theorem f60_s16_eq (d:Addr) (e f:OA) (g h:Nat) (i:OA) (j k:Nat) (l:OA) (m n:Nat) (o:OA) (p q:Nat) (r s t c:Int) (w:World) (K:KT) (Y5 Y14:YT):f60_s16 d e f g h i j k l m n o p q r s t c w K Y5 Y14=(optS f (fun c0=>0≤(c:Int)∧(c:Int) < (g:Nat)∧LdA 5 (c0.add (Int.toNat c * 5)) w (fun d0=>NewC (zcells P 62) 62 w (fun v e0=>StA 5 (Addr.mk v 0 none) d0 e0 (fun u=>∃ x:Int,u.cell? ((Addr.mk v 0 none).add 4)=some (.int .u32 x)∧BIf ((x:Int) != 0) (∃ y:Int,u.cell? d=some (.int .u32 y)∧∃ z:Int,u.cell? ((Addr.mk v 0 none).add 1)=some (.int .i64 z)∧∃ a0:Array Value,(∀ wq,(Instr.build 142 [(0,(Value.int .u32 y)),(1,(Value.int .i64 z))].toArray).run P wq=.ok (.agg a0) wq)∧∃ b0:Int,u.cell? ((Addr.mk v 0 none).add 4)=some (.int .u32 b0)∧CallL P 82 [(Value.pointer e),(Value.agg a0),(Value.int .u32 b0)] u (fun f0 g0=>f0=(.tuple [].toArray)∧f60_s17 d e f g h i j k l m n o p q r s t c g0 K Y5 Y14)) (f60_s17 d e f g h i j k l m n o p q r s t c u K Y5 Y14)))))):=Eq.trans SGe (Eq.trans (CSs [7,0,44,4,5,17,18,19,45,46] (f60_k21 K Y5 Y14) (by kernel_rfl)) (Eq.trans (CSb 5 [4,5,0,17,18,19,7,44,45,46] (f60_k22 K Y5 Y14) (by kernel_rfl)) (Eq.trans (CSs [7,0,44,4,5,17,18,19,45,46,10] (f60_k23 K Y5 Y14) (by kernel_rfl)) (by kernel_rfl))))
def f60_s18 (a:Addr) (b c:OA) (d f:Nat) (g:OA) (h i:Nat) (j:OA) (k l:Nat) (m n:Int) (w:World) (K:KT) (Y5:YT):Prop:=SG P (cA c60 31335) none [0,4,5,17,18,19] [4,5,0,17,18,19] (f60_k9 K Y5) (Env.mk 92 [(7,(VP (some a))),(0,(VP b)),(4,(VS c d f)),(5,(VS g h i)),(17,(VS j k l)),(18,(VI m)),(19,(VI n))] []) w
abbrev f60_k25 (K:KT) (Y5:YT):Exit→YT:=kseq P (cA c60 62670) (cA c60 62671) none [0,4,5,17,18,19] [4,5,0,17,18,19] (f60_k9 K Y5)
def f60_s19 (a:Int) (b:OA) (c:Addr) (d e:OA) (f g:Nat) (h:OA) (i j:Nat) (k:OA) (l m:Nat) (n o:Int) (w:World) (K:KT) (Y5:YT):Prop:=CS P (cA c60 62671) none [0,4,5,17,18,19] [4,5,0,17,18,19] (f60_k9 K Y5) (Env.mk 92 [(64,(Value.tuple [].toArray)),(63,(Value.int .u32 a)),(62,(VP b)),(7,(VP (some c))),(0,(VP d)),(4,(VS e f g)),(5,(VS h i j)),(17,(VS k l m)),(18,(VI n)),(19,(VI o))] []) w
abbrev f60_k26 (K:KT) (Y5:YT):Exit→YT:=kseq P (cA c60 125342) (cA c60 125343) none [0,4,5,17,18,19] [4,5,0,17,18,19] (f60_k9 K Y5)
abbrev f60_k27 (K:KT) (Y5:YT):Exit→YT:=kseq P (cA c60 250684) (cA c60 250685) none [0,4,5,17,18,19,7] [4,5,0,17,18,19] (f60_k26 K Y5)
def f60_s20 (a b:Int) (c:OA) (d e:Nat) (f g:Addr) (h:OA) (i:Int) (j:OA) (k:Addr) (l m:OA) (n o:Nat) (p:OA) (q r:Nat) (s:OA) (t u:Nat) (v x:Int) (w:World) (K:KT) (Y5:YT):Prop:=CS P (cA c60 250685) none [0,4,5,17,18,19,7] [4,5,0,17,18,19] (f60_k26 K Y5) (Env.mk 92 [(70,(VI a)),(69,(VI b)),(68,(VS c d e)),(67,(VP (some f))),(66,(VP (some g))),(65,(VP h)),(64,(Value.tuple [].toArray)),(63,(Value.int .u32 i)),(62,(VP j)),(7,(VP (some k))),(0,(VP l)),(4,(VS m n o)),(5,(VS p q r)),(17,(VS s t u)),(18,(VI v)),(19,(VI x))] []) w
abbrev f60_k28 (K:KT) (Y5:YT):Exit→YT:=kblock 6 (f60_k26 K Y5)
def f60_lp21 (K:KT) (Y5 Y21:YT) (e:Env) (w:World):Prop:=Join (fun e w=>CS P (cA c60 1002740) none [70,7,0,68,4,5,17,18,19,69] [4,5,0,17,18,19,7] (kloop [70,7,0,68,4,5,17,18,19,69] Y21 (f60_k28 K Y5)) e w) e w
abbrev f60_kl21 (K:KT) (Y5 Y21:YT):Exit→YT:=kloop [70,7,0,68,4,5,17,18,19,69] Y21 (f60_k28 K Y5)
def f60_lb21 (a:Int) (b:Addr) (c d:OA) (f g:Nat) (h:OA) (i j:Nat) (k:OA) (l m:Nat) (n:OA) (o p:Nat) (q r s:Int) (w:World) (K:KT) (Y5 Y21:YT):Prop:=SG P (cA c60 1002740) none [70,7,0,68,4,5,17,18,19,69] [4,5,0,17,18,19,7] (f60_kl21 K Y5 Y21) (Env.mk 92 [(70,(VI a)),(7,(VP (some b))),(0,(VP c)),(68,(VS d f g)),(4,(VS h i j)),(5,(VS k l m)),(17,(VS n o p)),(18,(VI q)),(19,(VI r)),(69,(VI s))] []) w
abbrev f60_k29 (K:KT) (Y5 Y21:YT):Exit→YT:=kseq P (cA c60 2005480) (cA c60 2005481) none [70,7,0,68,4,5,17,18,19,69] [4,5,0,17,18,19,7] (f60_kl21 K Y5 Y21)
def f60_s22 (a:Bool) (b:Int) (c:Addr) (d e:OA) (f g:Nat) (h:OA) (i j:Nat) (k:OA) (l m:Nat) (n:OA) (o p:Nat) (q r s:Int) (w:World) (K:KT) (Y5 Y21:YT):Prop:=CS P (cA c60 2005481) none [70,7,0,68,4,5,17,18,19,69] [4,5,0,17,18,19,7] (f60_kl21 K Y5 Y21) (Env.mk 92 [(71,(VB a)),(70,(VI b)),(7,(VP (some c))),(0,(VP d)),(68,(VS e f g)),(4,(VS h i j)),(5,(VS k l m)),(17,(VS n o p)),(18,(VI q)),(19,(VI r)),(69,(VI s))] []) w
abbrev f60_k30 (K:KT) (Y5 Y21:YT):Exit→YT:=kseq P (cA c60 4010962) (cA c60 4010963) none [70,7,0,68,4,5,17,18,19,69] [4,5,0,17,18,19,7] (f60_kl21 K Y5 Y21)
def f60_s23 (a:Addr) (b c:OA) (d f:Nat) (g:OA) (h i:Nat) (j:OA) (k l:Nat) (m:OA) (n o:Nat) (p q r s:Int) (w:World) (K:KT) (Y5 Y21:YT):Prop:=SG P (cA c60 4010963) none [70,7,0,68,4,5,17,18,19,69] [4,5,0,17,18,19,7] (f60_kl21 K Y5 Y21) (Env.mk 92 [(7,(VP (some a))),(0,(VP b)),(68,(VS c d f)),(4,(VS g h i)),(5,(VS j k l)),(17,(VS m n o)),(18,(VI p)),(19,(VI q)),(69,(VI r)),(70,(VI s))] []) w
abbrev f60_k31 (K:KT) (Y5 Y21:YT):Exit→YT:=kseq P (cA c60 8021926) (cA c60 8021927) none [70,7,0,68,4,5,17,18,19,69] [4,5,0,17,18,19,7] (f60_kl21 K Y5 Y21)
abbrev f60_k32 (K:KT) (Y5 Y21:YT):Exit→YT:=kblock 7 (f60_k31 K Y5 Y21)
abbrev f60_k33 (K:KT) (Y5 Y21:YT):Exit→YT:=kseq P (cA c60 32087704) (cA c60 32087705) none [7,0,68,4,5,17,18,19,69,70] [4,5,0,17,18,19,7,68,69,70] (f60_k32 K Y5 Y21)
def f60_s24 (a:Addr) (b c:OA) (d f:Nat) (g:OA) (h i:Nat) (j:OA) (k l:Nat) (m:OA) (n o:Nat) (p q r s:Int) (w:World) (K:KT) (Y5 Y21:YT):Prop:=SG P (cA c60 8021927) none [70,7,0,68,4,5,17,18,19,69] [4,5,0,17,18,19,7] (f60_kl21 K Y5 Y21) (Env.mk 92 [(7,(VP (some a))),(0,(VP b)),(68,(VS c d f)),(4,(VS g h i)),(5,(VS j k l)),(17,(VS m n o)),(18,(VI p)),(19,(VI q)),(69,(VI r)),(70,(VI s))] []) w
theorem f60_s24_eq (a:Addr) (c d:OA) (e f:Nat) (g:OA) (h i:Nat) (j:OA) (k l:Nat) (m:OA) (n o:Nat) (p q r s:Int) (w:World) (K:KT) (Y5 Y21:YT):f60_s24 a c d e f g h i j k l m n o p q r s w K Y5 Y21=(Y21 (Env.mk 92 [(70,(Value.int .i64 (IntKind.wrap .i64 ((s:Int)+1)))),(7,(Value.pointer (some a))),(0,(Value.pointer c)),(68,(Value.slice d e f)),(4,(Value.slice g h i)),(5,(Value.slice j k l)),(17,(Value.slice m n o)),(18,(Value.int .i64 p)),(19,(Value.int .i64 q)),(69,(Value.int .i64 r))] []) w):=Eq.trans SGe (by kernel_rfl)
theorem f60_s23_eq (d:Addr) (e f:OA) (g h:Nat) (i:OA) (j k:Nat) (l:OA) (m n:Nat) (o:OA) (p q:Nat) (r s t c:Int) (w:World) (K:KT) (Y5 Y21:YT):f60_s23 d e f g h i j k l m n o p q r s t c w K Y5 Y21=(optS f (fun g0=>0≤(c:Int)∧(c:Int) < (g:Nat)∧∃ (x:OA) (y z:Nat),w.cell? (g0.add (Int.toNat c * 1))=some (.slice x y z)∧optS e (fun a0=>∃ (u:OA) (v b0:Nat),w.drew.cell? (a0.add 4)=some (.slice u v b0)∧CallL P 104 [(Value.slice x y z),(Value.func (.func 105) #[] #[(Value.pointer (some d))])] w.drew (fun h0 c0=>∃ (d0:OA) (e0 f0:Nat),h0=(.slice d0 e0 f0)∧c0.cell? (a0.add 4)=some (.slice u v b0)∧optS u (fun i0=>0≤(c:Int)∧(c:Int) < (v:Nat)∧St1 (i0.add (Int.toNat c * 1)) (Value.slice d0 e0 f0) c0 (fun j0=>f60_s24 d e f g h i j k l m n o p q r s t c j0 K Y5 Y21)))))):=Eq.trans SGe (Eq.trans (CSs [7,0,68,4,5,17,18,19,69,70] (f60_k31 K Y5 Y21) (by kernel_rfl)) (Eq.trans (CSb 7 [4,5,0,17,18,19,7,68,69,70] (f60_k32 K Y5 Y21) (by kernel_rfl)) (Eq.trans (CSs [7,0,68,4,5,17,18,19,69,70,12,11] (f60_k33 K Y5 Y21) (by kernel_rfl)) (by kernel_rfl))))
def f60_s25 (a b:OA) (c d:Nat) (f:OA) (g h:Nat) (i:OA) (j k:Nat) (l m:Int) (n:Addr) (w:World) (K:KT) (Y5:YT):Prop:=SG P (cA c60 125343) none [0,4,5,17,18,19] [4,5,0,17,18,19] (f60_k9 K Y5) (Env.mk 92 [(0,(VP a)),(4,(VS b c d)),(5,(VS f g h)),(17,(VS i j k)),(18,(VI l)),(19,(VI m)),(7,(VP (some n)))] []) w
def f60_s26 (a b:OA) (c d:Nat) (f:OA) (g h:Nat) (i:OA) (j k:Nat) (l m:Int) (w:World) (K:KT) (Y5:YT):Prop:=SG P (cA c60 1959) none [0,4,5,19,17,18] [4,5] (f60_kl5 K Y5) (Env.mk 92 [(0,(VP a)),(4,(VS b c d)),(5,(VS f g h)),(17,(VS i j k)),(18,(VI l)),(19,(VI m))] []) w
theorem f60_s26_eq (a c:OA) (d e:Nat) (f:OA) (g h:Nat) (i:OA) (j k:Nat) (l m:Int) (w:World) (K:KT) (Y5:YT):f60_s26 a c d e f g h i j k l m w K Y5=(Y5 (Env.mk 92 [(0,(Value.pointer a)),(4,(Value.slice c d e)),(5,(Value.slice f g h)),(19,(Value.int .i64 (IntKind.wrap .i64 ((m:Int)+1)))),(17,(Value.slice i j k)),(18,(Value.int .i64 l))] []) w):=Eq.trans SGe (by kernel_rfl)
theorem f60_s25_eq (a c:OA) (d e:Nat) (f:OA) (g h:Nat) (i:OA) (j k:Nat) (l m:Int) (n:Addr) (w:World) (K:KT) (Y5:YT):f60_s25 a c d e f g h i j k l m n w K Y5=(optS a (fun r=>∃ o:Option Nat,w.drew.cell? (r.add 3)=some (.map o)∧∃ p:Int,w.drew.cell? n=some (.int .u32 p)∧∃ q:World,(Builtin.delete_ #[105,24] 0 [(Value.map o),(Value.int .u32 p)].toArray).run P w.drew=.ok (.tuple [].toArray) q∧f60_s26 a c d e f g h i j k l m q K Y5)):=Eq.trans SGe (by kernel_rfl)
theorem f60_s22_eq (p:Bool) (q:Int) (c:Addr) (d r:OA) (s t:Nat) (e:OA) (f g:Nat) (h:OA) (i j:Nat) (k:OA) (l m:Nat) (n o u:Int) (w:World) (K:KT) (Y5 Y21:YT):f60_s22 p q c d r s t e f g h i j k l m n o u w K Y5 Y21=(BIf p (f60_s23 c d r s t e f g h i j k l m n o u q w K Y5 Y21) (f60_s25 d e f g h i j k l m n o c w K Y5)):=Eq.trans (b:=CS P (cA c60 2005481) none [70,7,0,68,4,5,17,18,19,69] [4,5,0,17,18,19,7] (f60_kl21 K Y5 Y21) (Env.mk 92 [(71,(VB p)),(70,(VI q)),(7,(VP (some c))),(0,(VP d)),(68,(VS r s t)),(4,(VS e f g)),(5,(VS h i j)),(17,(VS k l m)),(18,(VI n)),(19,(VI o)),(69,(VI u))] []) w) (by kernel_rfl) (Eq.trans (CSs [7,0,68,4,5,17,18,19,69,70] (f60_k30 K Y5 Y21) (by kernel_rfl)) (by kernel_rfl))
theorem f60_lb21_eq (c:Int) (e:Addr) (f g:OA) (h i:Nat) (j:OA) (k l:Nat) (m:OA) (n o:Nat) (p:OA) (q r:Nat) (s t d:Int) (w:World) (K:KT) (Y5 Y21:YT):f60_lb21 c e f g h i j k l m n o p q r s t d w K Y5 Y21=(f60_s22 (decide ((c:Int) < d)) c e f g h i j k l m n o p q r s t d w K Y5 Y21):=Eq.trans SGe (Eq.trans (CSs [71,7,0,68,4,5,17,18,19,69,70] (f60_k29 K Y5 Y21) (by kernel_rfl)) (by kernel_rfl))
theorem f60_s20_eq (a c:Int) (d:OA) (e f:Nat) (t u:Addr) (v:OA) (x:Int) (y:OA) (g:Addr) (h i:OA) (j k:Nat) (l:OA) (m n:Nat) (o:OA) (p q:Nat) (r s:Int) (w:World) (K:KT) (Y5:YT):f60_s20 a c d e f t u v x y g h i j k l m n o p q r s w K Y5=(LoopE (f60_lp21 K Y5) (Env.mk 92 [(70,(Value.int .i64 a)),(7,(Value.pointer (some g))),(0,(Value.pointer h)),(68,(Value.slice d e f)),(4,(Value.slice i j k)),(5,(Value.slice l m n)),(17,(Value.slice o p q)),(18,(Value.int .i64 r)),(19,(Value.int .i64 s)),(69,(Value.int .i64 c))] []) w):=Eq.trans (b:=CS P (cA c60 250685) none [0,4,5,17,18,19,7] [4,5,0,17,18,19] (f60_k26 K Y5) (Env.mk 92 [(70,(VI a)),(69,(VI c)),(68,(VS d e f)),(67,(VP (some t))),(66,(VP (some u))),(65,(VP v)),(64,(Value.tuple [].toArray)),(63,(Value.int .u32 x)),(62,(VP y)),(7,(VP (some g))),(0,(VP h)),(4,(VS i j k)),(5,(VS l m n)),(17,(VS o p q)),(18,(VI r)),(19,(VI s))] []) w) (by kernel_rfl) (Eq.trans (CSb 6 [4,5,0,17,18,19,7] (f60_k28 K Y5) (by kernel_rfl)) ((CS_loop' (b:=(cA c60 1002740)) (X':=[4,5,0,17,18,19,7]) (H:=[70,7,0,68,4,5,17,18,19,69]) (by kernel_rfl) (by kernel_rfl) (by kernel_rfl)).trans (by kernel_rfl)))
theorem f60_s19_eq (d:Int) (e:OA) (f:Addr) (c g:OA) (h i:Nat) (j:OA) (k l:Nat) (m:OA) (n o:Nat) (p q:Int) (w:World) (K:KT) (Y5:YT):f60_s19 d e f c g h i j k l m n o p q w K Y5=(optS c (fun r=>∃ (t:OA) (s u:Nat),w.cell? (r.add 4)=some (.slice t s u)∧f60_s20 0 ((s:Nat):Int) t s u (r.add 4) r c d e f c g h i j k l m n o p q w K Y5)):=Eq.trans (b:=CS P (cA c60 62671) none [0,4,5,17,18,19] [4,5,0,17,18,19] (f60_k9 K Y5) (Env.mk 92 [(64,(Value.tuple [].toArray)),(63,(Value.int .u32 d)),(62,(VP e)),(7,(VP (some f))),(0,(VP c)),(4,(VS g h i)),(5,(VS j k l)),(17,(VS m n o)),(18,(VI p)),(19,(VI q))] []) w) (by kernel_rfl) (Eq.trans (CSs [0,4,5,17,18,19,7] (f60_k26 K Y5) (by kernel_rfl)) (Eq.trans (CSs [70,7,0,68,4,5,17,18,19,69] (f60_k27 K Y5) (by kernel_rfl)) (by kernel_rfl)))
theorem f60_s18_eq (d:Addr) (c e:OA) (f g:Nat) (h:OA) (i j:Nat) (k:OA) (l m:Nat) (n o:Int) (w:World) (K:KT) (Y5:YT):f60_s18 d c e f g h i j k l m n o w K Y5=(∃ p:Int,w.cell? d=some (.int .u32 p)∧CallL P 103 [(Value.pointer c),(Value.int .u32 p)] w (fun q r=>q=(.tuple [].toArray)∧f60_s19 p c d c e f g h i j k l m n o r K Y5)):=Eq.trans SGe (Eq.trans (CSs [7,0,4,5,17,18,19] (f60_k25 K Y5) (by kernel_rfl)) (by kernel_rfl))
theorem f60_s15_eq (p:Bool) (q:Int) (c:Addr) (d r:OA) (s t:Nat) (e:OA) (f g:Nat) (h:OA) (i j:Nat) (k:OA) (l m:Nat) (n o u:Int) (w:World) (K:KT) (Y5 Y14:YT):f60_s15 p q c d r s t e f g h i j k l m n o u w K Y5 Y14=(BIf p (f60_s16 c d r s t e f g h i j k l m n o u q w K Y5 Y14) (f60_s18 c d e f g h i j k l m n o w K Y5)):=Eq.trans (b:=CS P (cA c60 501353) none [46,7,0,44,4,5,17,18,19,45] [4,5,0,17,18,19,7] (f60_kl14 K Y5 Y14) (Env.mk 92 [(47,(VB p)),(46,(VI q)),(7,(VP (some c))),(0,(VP d)),(44,(VS r s t)),(4,(VS e f g)),(5,(VS h i j)),(17,(VS k l m)),(18,(VI n)),(19,(VI o)),(45,(VI u))] []) w) (by kernel_rfl) (Eq.trans (CSs [7,0,44,4,5,17,18,19,45,46] (f60_k20 K Y5 Y14) (by kernel_rfl)) (by kernel_rfl))
theorem f60_lb14_eq (c:Int) (e:Addr) (f g:OA) (h i:Nat) (j:OA) (k l:Nat) (m:OA) (n o:Nat) (p:OA) (q r:Nat) (s t d:Int) (w:World) (K:KT) (Y5 Y14:YT):f60_lb14 c e f g h i j k l m n o p q r s t d w K Y5 Y14=(f60_s15 (decide ((c:Int) < d)) c e f g h i j k l m n o p q r s t d w K Y5 Y14):=Eq.trans SGe (Eq.trans (CSs [47,7,0,44,4,5,17,18,19,45,46] (f60_k19 K Y5 Y14) (by kernel_rfl)) (by kernel_rfl))
theorem f60_s13_eq (a c:Int) (d:OA) (e f:Nat) (t:Int) (u:OA) (g:Addr) (h i:OA) (j k:Nat) (l:OA) (m n:Nat) (o:OA) (p q:Nat) (r s:Int) (w:World) (K:KT) (Y5:YT):f60_s13 a c d e f t u g h i j k l m n o p q r s w K Y5=(LoopE (f60_lp14 K Y5) (Env.mk 92 [(46,(Value.int .i64 a)),(7,(Value.pointer (some g))),(0,(Value.pointer h)),(44,(Value.slice d e f)),(4,(Value.slice i j k)),(5,(Value.slice l m n)),(17,(Value.slice o p q)),(18,(Value.int .i64 r)),(19,(Value.int .i64 s)),(45,(Value.int .i64 c))] []) w):=Eq.trans (b:=CS P (cA c60 62669) none [7,0,4,5,17,18,19] [4,5,0,17,18,19] (f60_k16 K Y5) (Env.mk 92 [(46,(VI a)),(45,(VI c)),(44,(VS d e f)),(43,(Value.int .u32 t)),(42,(VP u)),(7,(VP (some g))),(0,(VP h)),(4,(VS i j k)),(5,(VS l m n)),(17,(VS o p q)),(18,(VI r)),(19,(VI s))] []) w) (by kernel_rfl) (Eq.trans (CSb 4 [4,5,0,17,18,19,7] (f60_k18 K Y5) (by kernel_rfl)) ((CS_loop' (b:=(cA c60 250676)) (X':=[4,5,0,17,18,19,7]) (H:=[46,7,0,44,4,5,17,18,19,45]) (by kernel_rfl) (by kernel_rfl) (by kernel_rfl)).trans (by kernel_rfl)))
theorem f60_s12_eq (d:Addr) (c e:OA) (f g:Nat) (h:OA) (i j:Nat) (k:OA) (l m:Nat) (n o:Int) (w:World) (K:KT) (Y5:YT):f60_s12 d c e f g h i j k l m n o w K Y5=(∃ p:Int,w.cell? d=some (.int .u32 p)∧CallL P 102 [(Value.pointer c),(Value.int .u32 p)] w (fun t u=>∃ (r:OA) (q s:Nat),t=(.slice r q s)∧f60_s13 0 ((q:Nat):Int) r q s p c d c e f g h i j k l m n o u K Y5)):=Eq.trans SGe (Eq.trans (CSs [7,0,4,5,17,18,19] (f60_k16 K Y5) (by kernel_rfl)) (Eq.trans (CSs [46,7,0,44,4,5,17,18,19,45] (f60_k17 K Y5) (by kernel_rfl)) (by kernel_rfl)))
theorem f60_s11_eq (p:Bool) (c:Addr) (d:OA) (q:Addr) (e:OA) (f g:Nat) (h:OA) (i j:Nat) (k:OA) (l m:Nat) (n o:Int) (w:World) (K:KT) (Y5 Y10:YT):f60_s11 p c d q e f g h i j k l m n o w K Y5 Y10=(f60_s12 c d e f g h i j k l m n o w K Y5):=Eq.trans (b:=CS P (cA c60 250665) none [7,0,30,4,5,17,18,19] [4,5,0,17,18,19,7] (f60_kl10 K Y5 Y10) (Env.mk 92 [(32,(VB false)),(31,(Value.tuple [(VB p)].toArray)),(7,(VP (some c))),(0,(VP d)),(30,(VP (some q))),(4,(VS e f g)),(5,(VS h i j)),(17,(VS k l m)),(18,(VI n)),(19,(VI o))] []) w) (by kernel_rfl) (Eq.trans (CSs [7,0,30,4,5,17,18,19] (f60_k15 K Y5 Y10) (by kernel_rfl)) (by kernel_rfl))
def f60_s27 (a:Bool) (b c:Value) (d:Addr) (e:OA) (f:Addr) (g:OA) (h i:Nat) (j:OA) (k l:Nat) (m:OA) (n o:Nat) (p q:Int) (w:World) (K:KT) (Y5 Y10:YT):Prop:=CS P (cA c60 250665) none [7,0,30,4,5,17,18,19] [4,5,0,17,18,19,7] (f60_kl10 K Y5 Y10) (Env.mk 92 [(32,(VB true)),(31,(Value.tuple [(VB a),b,c].toArray)),(7,(VP (some d))),(0,(VP e)),(30,(VP (some f))),(4,(VS g h i)),(5,(VS j k l)),(17,(VS m n o)),(18,(VI p)),(19,(VI q))] []) w
def f60_s28 (a:Addr) (b:OA) (c:Addr) (d:OA) (f g:Nat) (h:OA) (i j:Nat) (k:OA) (l m:Nat) (n o:Int) (w:World) (K:KT) (Y5 Y10:YT):Prop:=SG P (cA c60 501331) none [7,0,30,4,5,17,18,19] [4,5,0,17,18,19,7] (f60_kl10 K Y5 Y10) (Env.mk 92 [(7,(VP (some a))),(0,(VP b)),(30,(VP (some c))),(4,(VS d f g)),(5,(VS h i j)),(17,(VS k l m)),(18,(VI n)),(19,(VI o))] []) w
abbrev f60_k34 (K:KT) (Y5 Y10:YT):Exit→YT:=kblock 3 (f60_kl10 K Y5 Y10)
abbrev f60_k35 (K:KT) (Y5 Y10:YT):Exit→YT:=kseq P (cA c60 2005324) (cA c60 2005325) none [7,0,30,4,5,17,18,19] [4,5,0,17,18,19,7,30] (f60_k34 K Y5 Y10)
theorem f60_s28_eq (d:Addr) (c:OA) (e:Addr) (f:OA) (g h:Nat) (i:OA) (j k:Nat) (l:OA) (m n:Nat) (o p:Int) (w:World) (K:KT) (Y5 Y10:YT):f60_s28 d c e f g h i j k l m n o p w K Y5 Y10=(∃ (k305 x:Value) (s:World),(Instr.entry (Value.pointer (some e))).run P w=.ok (.tuple #[k305,x]) s∧∃ t:Array Value,k305=(.agg t)∧NewC (zcells P 142) 142 s (fun q y=>StA 2 (Addr.mk q 0 none) t y (fun u=>LdA 2 (Addr.mk q 0 none) u (fun z=>CallL P 80 [(Value.pointer c),(Value.agg z),(Value.int .u32 0)] u (fun a0 r=>a0=(.tuple [].toArray)∧LdA 2 (Addr.mk q 0 none) r (fun b0=>∃ v:Int,r.cell? d=some (.int .u32 v)∧CallL P 82 [(Value.pointer c),(Value.agg b0),(Value.int .u32 v)] r (fun c0 d0=>c0=(.tuple [].toArray)∧Y10 (Env.mk 92 [(7,(Value.pointer (some d))),(0,(Value.pointer c)),(30,(Value.pointer (some e))),(4,(Value.slice f g h)),(5,(Value.slice i j k)),(17,(Value.slice l m n)),(18,(Value.int .i64 o)),(19,(Value.int .i64 p))] []) d0))))))):=Eq.trans SGe (Eq.trans (CSb 3 [4,5,0,17,18,19,7,30] (f60_k34 K Y5 Y10) (by kernel_rfl)) (Eq.trans (CSs [7,0,30,4,5,17,18,19,8] (f60_k35 K Y5 Y10) (by kernel_rfl)) (by kernel_rfl)))
theorem f60_s27_eq (q:Bool) (r s:Value) (c:Addr) (d:OA) (e:Addr) (f:OA) (g h:Nat) (i:OA) (j k:Nat) (l:OA) (m n:Nat) (o p:Int) (w:World) (K:KT) (Y5 Y10:YT):f60_s27 q r s c d e f g h i j k l m n o p w K Y5 Y10=(f60_s28 c d e f g h i j k l m n o p w K Y5 Y10):=Eq.trans (b:=CS P (cA c60 250665) none [7,0,30,4,5,17,18,19] [4,5,0,17,18,19,7] (f60_kl10 K Y5 Y10) (Env.mk 92 [(32,(VB true)),(31,(Value.tuple [(VB q),r,s].toArray)),(7,(VP (some c))),(0,(VP d)),(30,(VP (some e))),(4,(VS f g h)),(5,(VS i j k)),(17,(VS l m n)),(18,(VI o)),(19,(VI p))] []) w) (by kernel_rfl) (Eq.trans (CSs [7,0,30,4,5,17,18,19] (f60_k15 K Y5 Y10) (by kernel_rfl)) (by kernel_rfl))
theorem f60_lb10_eq (d:Addr) (e:OA) (c:Addr) (f:OA) (g h:Nat) (i:OA) (j k:Nat) (l:OA) (m n:Nat) (o p:Int) (w:World) (K:KT) (Y5 Y10:YT):f60_lb10 d e c f g h i j k l m n o p w K Y5 Y10=((∃ q:World,(Instr.next (Value.pointer (some c)) false 0).run P w=.ok (.tuple #[.bool false]) q∧f60_s11 false d e c f g h i j k l m n o p q K Y5 Y10)∨∃ (k95 r:Value) (s:World),(Instr.next (Value.pointer (some c)) false 0).run P w=.ok (.tuple #[.bool true,k95,r]) s∧f60_s27 true k95 r d e c f g h i j k l m n o p s K Y5 Y10):=Eq.trans SGe (Eq.trans (CSs [32,7,0,30,4,5,17,18,19] (f60_k14 K Y5 Y10) (by kernel_rfl)) (by kernel_rfl))
theorem f60_s9_eq (a:Addr) (c:OA) (d:Addr) (e:OA) (f g:Nat) (h:OA) (i j:Nat) (k:OA) (l m:Nat) (n o:Int) (w:World) (K:KT) (Y5:YT):f60_s9 a c d e f g h i j k l m n o w K Y5=(LoopE (f60_lp10 K Y5) (Env.mk 92 [(7,(Value.pointer (some a))),(0,(Value.pointer c)),(30,(Value.pointer (some d))),(4,(Value.slice e f g)),(5,(Value.slice h i j)),(17,(Value.slice k l m)),(18,(Value.int .i64 n)),(19,(Value.int .i64 o))] []) w):=Eq.trans SGe (Eq.trans (CSb 2 [4,5,0,17,18,19,7] (f60_k13 K Y5) (by kernel_rfl)) ((CS_loop' (b:=(cA c60 125332)) (X':=[4,5,0,17,18,19,7]) (H:=[7,0,30,4,5,17,18,19]) (by kernel_rfl) (by kernel_rfl) (by kernel_rfl)).trans (by kernel_rfl)))
theorem f60_s8_eq (c:Addr) (p:Int) (q:Addr) (d e:OA) (f g:Nat) (h:OA) (i j:Nat) (k:OA) (l m:Nat) (n o:Int) (w:World) (K:KT) (Y5:YT):f60_s8 c p q d e f g h i j k l m n o w K Y5=(optS d (fun y=>∃ r:Option Nat,w.drew.cell? (y.add 6)=some (.map r)∧∃ s:Int,w.drew.cell? c=some (.int .u32 s)∧∃ t:Option Nat,(∀ wq,Ext w.drew wq→(Instr.lookup 107 (Value.map r) (Value.int .u32 s) false).run P wq=.ok (.map t) wq)∧CallL P 101 [(Value.map t)] w.drew (fun z a0=>∃ u:Option Nat,z=(.map u)∧∃ (v:Nat) (x:World),(Instr.range 124 (Value.map u)).run P a0=.ok (.pointer (some (Addr.mk v 0 none))) x∧f60_s9 c d (Addr.mk v 0 none) e f g h i j k l m n o x K Y5))):=Eq.trans (b:=CS P (cA c60 7833) none [0,4,5,17,18,19] [4,5,0,17,18,19] (f60_k9 K Y5) (Env.mk 92 [(7,(VP (some c))),(22,(Value.int .u32 p)),(21,(VP (some q))),(0,(VP d)),(4,(VS e f g)),(5,(VS h i j)),(17,(VS k l m)),(18,(VI n)),(19,(VI o))] []) w) (by kernel_rfl) (Eq.trans (CSs [7,0,4,5,17,18,19] (f60_k11 K Y5) (by kernel_rfl)) (Eq.trans (CSs [7,0,30,4,5,17,18,19] (f60_k12 K Y5) (by kernel_rfl)) (by kernel_rfl)))
theorem f60_s7_eq (f g:OA) (h i:Nat) (j:OA) (k l:Nat) (d:OA) (e m:Nat) (n c:Int) (w:World) (K:KT) (Y5:YT):f60_s7 f g h i j k l d e m n c w K Y5=(optS d (fun p=>0≤(c:Int)∧(c:Int) < (e:Nat)∧∃ o:Int,w.cell? (p.add (Int.toNat c * 1))=some (.int .u32 o)∧NewC (zcells P 24) 24 w (fun q r=>St1 (Addr.mk q 0 none) (Value.int .u32 o) r (fun s=>f60_s8 (Addr.mk q 0 none) o (p.add (Int.toNat c * 1)) f g h i j k l d e m n c s K Y5)))):=Eq.trans SGe (Eq.trans (CSs [0,4,5,17,18,19] (f60_k8 K Y5) (by kernel_rfl)) (Eq.trans (CSb 1 [4,5,0,17,18,19] (f60_k9 K Y5) (by kernel_rfl)) (Eq.trans (CSs [7,0,4,5,17,18,19] (f60_k10 K Y5) (by kernel_rfl)) (by kernel_rfl))))
def f60_s29 (a:OA) (b c:Nat) (w:World) (K:KT):Prop:=SG P (cA c60 31) none [4] [4] (f60_kb K) (Env.mk 92 [(5,(VS a b c))] []) w
abbrev f60_k37 (K:KT):Exit→YT:=kseq P (cA c60 62) (cA c60 63) none [4] [4] (f60_kb K)
theorem f60_s29_eq (c:OA) (d e:Nat) (w:World) (K:KT):f60_s29 c d e w K=(K (Value.slice c d e) w):=Eq.trans SGe (Eq.trans (CSs [4] (f60_k37 K) (by kernel_rfl)) (by kernel_rfl))
theorem f60_s6_eq (f:Bool) (g h:OA) (i j:Nat) (c:OA) (d e:Nat) (k:Int) (l:OA) (m n:Nat) (o:Int) (w:World) (K:KT) (Y5:YT):f60_s6 f g h i j c d e k l m n o w K Y5=(BIf f (f60_s7 g h i j c d e l m n o k w K Y5) (f60_s29 c d e w K)):=Eq.trans (b:=CS P (cA c60 489) none [0,4,5,19,17,18] [4,5] (f60_kl5 K Y5) (Env.mk 92 [(20,(VB f)),(0,(VP g)),(4,(VS h i j)),(5,(VS c d e)),(19,(VI k)),(17,(VS l m n)),(18,(VI o))] []) w) (by kernel_rfl) (Eq.trans (CSs [0,4,5,17,18,19] (f60_k7 K Y5) (by kernel_rfl)) (by kernel_rfl))
theorem f60_lb5_eq (e f:OA) (g h:Nat) (i:OA) (j k:Nat) (c:Int) (l:OA) (m n:Nat) (d:Int) (w:World) (K:KT) (Y5:YT):f60_lb5 e f g h i j k c l m n d w K Y5=(f60_s6 (decide ((c:Int) < d)) e f g h i j k c l m n d w K Y5):=Eq.trans SGe (Eq.trans (CSs [20,0,4,5,17,18,19] (f60_k6 K Y5) (by kernel_rfl)) (by kernel_rfl))
theorem f60_s4_eq (a c:Int) (d:OA) (e f:Nat) (n:OA) (o p:Nat) (g:OA) (h i:Nat) (q:OA) (r s:Nat) (t:OA) (u v:Nat) (j:OA) (k l:Nat) (m x:OA) (y z:Nat) (w:World) (K:KT):f60_s4 a c d e f n o p g h i q r s t u v j k l m x y z w K=(LoopE (f60_lp5 K) (Env.mk 92 [(0,(Value.pointer m)),(4,(Value.slice j k l)),(5,(Value.slice g h i)),(19,(Value.int .i64 a)),(17,(Value.slice d e f)),(18,(Value.int .i64 c))] []) w):=Eq.trans (b:=CS P (cA c60 61) none [5] [4] (f60_k3 K) (Env.mk 92 [(19,(VI a)),(18,(VI c)),(17,(VS d e f)),(16,(Value.tuple [].toArray)),(15,(VS n o p)),(5,(VS g h i)),(14,(VS q r s)),(13,(VS t u v)),(4,(VS j k l)),(0,(VP m)),(1,(VS x y z))] []) w) (by kernel_rfl) (Eq.trans (CSb 0 [4,5] (f60_k5 K) (by kernel_rfl)) ((CS_loop' (b:=(cA c60 244)) (X':=[4,5]) (H:=[0,4,5,19,17,18]) (by kernel_rfl) (by kernel_rfl) (by kernel_rfl)).trans (by kernel_rfl)))
theorem f60_s3_eq (f:OA) (g h:Nat) (d:OA) (c e:Nat) (i:OA) (j k:Nat) (l:OA) (m n:Nat) (o:OA) (p q:Nat) (r s:OA) (t u:Nat) (w:World) (K:KT):f60_s3 f g h d c e i j k l m n o p q r s t u w K=(f60_s4 0 ((c:Nat):Int) d c e f g h d c e i j k l m n o p q r s t u w K):=Eq.trans (b:=CS P (cA c60 15) none [4] [4] (f60_kb K) (Env.mk 92 [(16,(Value.tuple [].toArray)),(15,(VS f g h)),(5,(VS d c e)),(14,(VS i j k)),(13,(VS l m n)),(4,(VS o p q)),(0,(VP r)),(1,(VS s t u))] []) w) (by kernel_rfl) (Eq.trans (CSs [5] (f60_k3 K) (by kernel_rfl)) (Eq.trans (CSs [0,4,5,19,17,18] (f60_k4 K) (by kernel_rfl)) (by kernel_rfl)))
theorem f60_s2_eq (c:OA) (d e:Nat) (f:OA) (g h:Nat) (i:OA) (j k:Nat) (l:OA) (m n:Nat) (o p:OA) (q r:Nat) (w:World) (K:KT):f60_s2 c d e f g h i j k l m n o p q r w K=(CallL P 61 [(Value.slice c d e)] w (fun s t=>s=(.tuple [].toArray)∧f60_s3 c d e c d e f g h i j k l m n o p q r t K)):=Eq.trans (b:=CS P (cA c60 7) none [4] [4] (f60_kb K) (Env.mk 92 [(5,(VS c d e)),(14,(VS f g h)),(13,(VS i j k)),(4,(VS l m n)),(0,(VP o)),(1,(VS p q r))] []) w) (by kernel_rfl) (Eq.trans (CSs [0,4,5] (f60_k2 K) (by kernel_rfl)) (by kernel_rfl))
theorem f60_s1_eq (f:OA) (g h:Nat) (i c:OA) (d e:Nat) (w:World) (K:KT):f60_s1 f g h i c d e w K=(CallL P 75 [(Value.slice c d e)] w (fun m n=>∃ (j:OA) (k l:Nat),m=(.slice j k l)∧f60_s2 j k l j k l c d e f g h i c d e n K)):=Eq.trans (b:=CS P (cA c60 3) none [4] [4] (f60_kb K) (Env.mk 92 [(4,(VS f g h)),(0,(VP i)),(1,(VS c d e))] []) w) (by kernel_rfl) (Eq.trans (CSs [0,4,5] (f60_k1 K) (by kernel_rfl)) (by kernel_rfl))
theorem f60_s0_eq (c d:OA) (e f:Nat) (w:World) (K:KT):f60_s0 c d e f w K=(f60_s1 none 0 0 c d e f w K):=Eq.trans (b:=CS P (cA c60 1) none [4] [4] (f60_kb K) (Env.mk 92 [(0,(VP c)),(1,(VS d e f))] []) w) (by kernel_rfl) (Eq.trans (CSs [0,4,1] (f60_k0 K) (by kernel_rfl)) (by kernel_rfl))
theorem f60_eq (a b:OA) (c d:Nat) (w:World) (K:KT):f60 a b c d w K=(f60_s0 a b c d w K):=by kernel_rfl
theorem f60_ok (a b:OA) (c d:Nat) (w:World) (K:KT) (h:f60 a b c d w K):CallL P 60 [(Value.pointer a),(Value.slice b c d)] w K:=okCS c60 Tryz.func60 (by kernel_rfl) (by kernel_rfl) h
noncomputable def c63:Code:=bodyOf Tryz.f63
noncomputable def rs63:List ResultVar:=Tryz.f63.results.toList
abbrev f63_kb (K:KT):Exit→YT:=bodyK P rs63 K
def f63 (a:OA) (b:Int) (w:World) (K:KT):Prop:=CS P c63 none [] [] (f63_kb K) (env0 32 [(VP a),(Value.int .u32 b)]) w
def f63_s0 (a:Value) (b c:Addr) (w:World) (K:KT):Prop:=SG P (cA c63 7) none [] [] (f63_kb K) (Env.mk 32 [(15,a),(3,(VP (some b))),(2,(VP (some c)))] []) w
abbrev f63_k2 (K:KT):Exit→YT:=kblock 0 (f63_kb K)
def f63_rd1 (a b:Addr) (l:Nat) (R:LoopState→Option Code→Loop) (post:Option Code→World→Prop) (args:List Value) (W:World):Prop:=args.length=1∧CS P (cA c63 28) (some l) [3,4,2] [] (kround P (cA c63 29) l R post) { putParams (Env.mk 32 [(3,(VP (some a))),(2,(VP (some b)))] []) [16] args with d:=[] } W
abbrev f63_ka1 (l:Nat) (R:LoopState→Option Code→Loop) (post:Option Code→World→Prop):Exit→YT:=kround P (cA c63 29) l R post
def f63_ra1 (a b:Addr) (c:Int) (w:World) (l:Nat) (R:LoopState→Option Code→Loop) (post:Option Code→World→Prop):Prop:=CS P (cA c63 28) (some l) [3,4,2] [] (f63_ka1 l R post) (Env.mk 32 [(16,(VI c)),(3,(VP (some a))),(2,(VP (some b)))] []) w
def f63_s2 (a:Addr) (b:Int) (c:Addr) (w:World) (l:Nat) (R:LoopState→Option Code→Loop) (post:Option Code→World→Prop):Prop:=SG P (cA c63 29) (some l) [] [] (endS l R post) (Env.mk 32 [(3,(VP (some a))),(4,(VI b)),(2,(VP (some c)))] []) w
abbrev f63_k3 (l:Nat) (R:LoopState→Option Code→Loop) (post:Option Code→World→Prop):Exit→YT:=kblock 1 (endS l R post)
def f63_s3 (w:World) (l:Nat) (R:LoopState→Option Code→Loop) (post:Option Code→World→Prop):Prop:=SG P (cA c63 469) (some l) [] [] (f63_k3 l R post) (Env.mk 32 [] []) w
theorem f63_s3_eq (w:World) (l:Nat) (R:LoopState→Option Code→Loop) (post:Option Code→World→Prop):f63_s3 w l R post=(w.heap[l]?=some (.loop (R .busy none))∧post (some .ret) (w.putObj l (.loop (R .done (some .ret))))):=by kernel_rfl
theorem f63_s2_eq (c:Addr) (a:Int) (b:Addr) (w:World) (l:Nat) (R:LoopState→Option Code→Loop) (post:Option Code→World→Prop):f63_s2 c a b w l R post=(∃ d:Option Addr,w.cell? b=some (.pointer d)∧optS d (fun m=>∃ (e:OA) (f n:Nat),w.cell? (m.add 5)=some (.slice e f n)∧optS e (fun o=>0≤(a:Int)∧(a:Int) < (f:Nat)∧∃ g:Int,w.cell? (o.add (Int.toNat a * 1))=some (.int .u32 g)∧BIf ((g:Int) == 0) (∃ h:Option Addr,w.drew.cell? b=some (.pointer h)∧optS h (fun p=>∃ (i:OA) (j q:Nat),w.drew.cell? (p.add 5)=some (.slice i j q)∧∃ k:Int,w.drew.cell? c=some (.int .u32 k)∧optS i (fun r=>0≤(a:Int)∧(a:Int) < (j:Nat)∧St1 (r.add (Int.toNat a * 1)) (Value.int .u32 k) w.drew (fun s=>f63_s3 s l R post)))) (w.heap[l]?=some (.loop (R .busy none))∧post none (w.putObj l (.loop (R .ready none))))))):=by kernel_rfl
theorem f63_ra1_eq (a b:Addr) (c:Int) (w:World) (l:Nat) (R:LoopState→Option Code→Loop) (post:Option Code→World→Prop):f63_ra1 a b c w l R post=(w.heap[l]?=some (.loop (R .ready none))∧f63_s2 a c b (w.putObj l (.loop (R .busy none))) l R post):=by kernel_rfl
theorem f63_rd1_eq (b c:Addr) (a:Int) (w:World) (l:Nat) (R:LoopState→Option Code→Loop) (post:Option Code→World→Prop):f63_rd1 b c l R post [(Value.int .i64 a)] w=([(Value.int .i64 a)].length=1∧f63_ra1 b c a w l R post):=by kernel_rfl
def f63_rn1 (a b:Addr) (d:List Deferred) (w:World) (K:KT):Prop:=(f63_k2 K) .normal (Env.mk 32 [(3,(VP (some a))),(2,(VP (some b)))] d) w
theorem f63_rn1_eq (a b:Addr) (d:List Deferred) (w:World) (K:KT):f63_rn1 a b d w K=(LeaveS P rs63 (Env.mk 32 [(3,(Value.pointer (some a))),(2,(Value.pointer (some b)))] d) K d w):=by kernel_rfl
def f63_rr1 (a b:Addr) (d:List Deferred) (w:World) (K:KT):Prop:=(f63_k2 K) .ret (Env.mk 32 [(3,(VP (some a))),(2,(VP (some b)))] d) w
theorem f63_rr1_eq (a b:Addr) (d:List Deferred) (w:World) (K:KT):f63_rr1 a b d w K=(LeaveS P rs63 (Env.mk 32 [(3,(Value.pointer (some a))),(2,(Value.pointer (some b)))] d) K d w):=by kernel_rfl
theorem f63_s0_eq (c:Value) (a b:Addr) (w:World) (K:KT):f63_s0 c a b w K=(RangeC P (f63_k2 K) (Env.mk 32 [(3,(Value.pointer (some a))),(2,(Value.pointer (some b)))] []) w c (f63_rd1 a b)):=by kernel_rfl
theorem f63_eq (d:OA) (e:Int) (w:World) (K:KT):f63 d e w K=(NewC #[(Value.pointer d)] 28 w (fun b p=>NewC #[(Value.int .u32 e)] 24 p (fun f a=>∃ c:Option Addr,a.drew.cell? (Addr.mk b 0 none)=some (.pointer c)∧∃ g:Option Addr,a.drew.cell? (Addr.mk b 0 none)=some (.pointer g)∧∃ h:Option Addr,a.drew.cell? (Addr.mk b 0 none)=some (.pointer h)∧optS h (fun q=>∃ i:Option Nat,a.drew.cell? (q.add 3)=some (.map i)∧∃ j:Int,a.drew.cell? (Addr.mk f 0 none)=some (.int .u32 j)∧∃ k:Array Value,(∀ wq,Ext a.drew wq→(Instr.lookup 105 (Value.map i) (Value.int .u32 j) false).run P wq=.ok (.agg k) wq)∧∃ l:Int,k[0]?=some (.int .u32 l)∧CallL P 111 [(Value.pointer g),(Value.int .u32 l)] a.drew (fun r m=>∃ n:Int,r=(.int .i64 n)∧m.cell? (Addr.mk b 0 none)=some (.pointer c)∧CallL P 110 [(Value.pointer c),(Value.int .i64 n)] m (fun s t=>∃ o:Value,s=o∧f63_s0 o (Addr.mk f 0 none) (Addr.mk b 0 none) t K)))))):=by kernel_rfl
theorem f63_ok (a:OA) (b:Int) (w:World) (K:KT) (h:f63 a b w K):CallL P 63 [(Value.pointer a),(Value.int .u32 b)] w K:=okCS c63 Tryz.func63 (by kernel_rfl) (by kernel_rfl) h
noncomputable def c68:Code:=bodyOf Tryz.f68
noncomputable def rs68:List ResultVar:=Tryz.f68.results.toList
abbrev f68_kb (K:KT):Exit→YT:=bodyK P rs68 K
def f68 (a:OA) (b:Int) (w:World) (K:KT):Prop:=CS P c68 none [4,5] [4,5] (f68_kb K) (env0 39 [(VP a),(Value.int .u32 b)]) w
def f68_s0 (a:OA) (b:Int) (w:World) (K:KT):Prop:=CS P (cA c68 1) none [4,5] [4,5] (f68_kb K) (Env.mk 39 [(0,(VP a)),(1,(Value.int .u32 b))] []) w
abbrev f68_k0 (K:KT):Exit→YT:=kseq P (cA c68 2) (cA c68 3) none [4,5] [4,5] (f68_kb K)
def f68_s1 (a b c d:Addr) (e:OA) (f:Int) (w:World) (K:KT):Prop:=CS P (cA c68 3) none [4,5] [4,5] (f68_kb K) (Env.mk 39 [(5,(VP (some a))),(4,(VP (some b))),(3,(VP (some c))),(2,(VP (some d))),(0,(VP e)),(1,(Value.int .u32 f))] []) w
abbrev f68_k1 (K:KT):Exit→YT:=kseq P (cA c68 6) (cA c68 7) none [4,5] [4,5] (f68_kb K)
def f68_s2 (a b c d e:Addr) (f:OA) (g:Int) (w:World) (K:KT):Prop:=CS P (cA c68 7) none [4,5] [4,5] (f68_kb K) (Env.mk 39 [(6,(VP (some a))),(5,(VP (some b))),(4,(VP (some c))),(3,(VP (some d))),(2,(VP (some e))),(0,(VP f)),(1,(Value.int .u32 g))] []) w
abbrev f68_k2 (K:KT):Exit→YT:=kseq P (cA c68 14) (cA c68 15) none [4,5] [4,5] (f68_kb K)
abbrev f68_k3 (K:KT):Exit→YT:=kseq P (cA c68 28) (cA c68 29) none [4,5,6] [4,5] (f68_k2 K)
def f68_s3 (a:Value) (b c d f g:Addr) (w:World) (K:KT):Prop:=SG P (cA c68 29) none [4,5,6] [4,5] (f68_k2 K) (Env.mk 39 [(13,a),(5,(VP (some b))),(4,(VP (some c))),(6,(VP (some d))),(3,(VP (some f))),(2,(VP (some g)))] []) w
abbrev f68_k4 (K:KT):Exit→YT:=kblock 0 (f68_k2 K)
def f68_rd4 (a b c e f:Addr) (l:Nat) (R:LoopState→Option Code→Loop) (post:Option Code→World→Prop) (args:List Value) (W:World):Prop:=args.length=1∧CS P (cA c68 116) (some l) [5,4,6,3,2,7] [] (kround P (cA c68 117) l R post) { putParams (Env.mk 39 [(5,(VP (some a))),(4,(VP (some b))),(6,(VP (some c))),(3,(VP (some e))),(2,(VP (some f)))] []) [14] args with d:=[] } W
abbrev f68_ka4 (l:Nat) (R:LoopState→Option Code→Loop) (post:Option Code→World→Prop):Exit→YT:=kround P (cA c68 117) l R post
def f68_ra4 (a b c d e:Addr) (f:Int) (w:World) (l:Nat) (R:LoopState→Option Code→Loop) (post:Option Code→World→Prop):Prop:=CS P (cA c68 116) (some l) [5,4,6,3,2,7] [] (f68_ka4 l R post) (Env.mk 39 [(14,(VI f)),(5,(VP (some a))),(4,(VP (some b))),(6,(VP (some c))),(3,(VP (some d))),(2,(VP (some e)))] []) w
def f68_s5 (a b c d f:Addr) (g:Int) (w:World) (l:Nat) (R:LoopState→Option Code→Loop) (post:Option Code→World→Prop):Prop:=SG P (cA c68 117) (some l) [] [] (endS l R post) (Env.mk 39 [(5,(VP (some a))),(4,(VP (some b))),(6,(VP (some c))),(3,(VP (some d))),(2,(VP (some f))),(7,(VI g))] []) w
abbrev f68_k5 (l:Nat) (R:LoopState→Option Code→Loop) (post:Option Code→World→Prop):Exit→YT:=kblock 1 (endS l R post)
abbrev f68_k6 (l:Nat) (R:LoopState→Option Code→Loop) (post:Option Code→World→Prop):Exit→YT:=kseq P (cA c68 468) (cA c68 469) (some l) [] [] (f68_k5 l R post)
abbrev f68_k8 (l:Nat) (R:LoopState→Option Code→Loop) (post:Option Code→World→Prop):Exit→YT:=kseq P (cA c68 1878) (cA c68 1879) (some l) [] [] (f68_k5 l R post)
def f68_s6 (w:World) (l:Nat) (R:LoopState→Option Code→Loop) (post:Option Code→World→Prop):Prop:=SG P (cA c68 15029) (some l) [5,4,6,8,3,2] [] (f68_k8 l R post) (Env.mk 39 [] []) w
theorem f68_s6_eq (w:World) (l:Nat) (R:LoopState→Option Code→Loop) (post:Option Code→World→Prop):f68_s6 w l R post=(w.heap[l]?=some (.loop (R .busy none))∧post (some .ret) (w.putObj l (.loop (R .done (some .ret))))):=Eq.trans SGe (by kernel_rfl)
def f68_s7 (a b c:Addr) (d:Int) (f g:Addr) (w:World) (l:Nat) (R:LoopState→Option Code→Loop) (post:Option Code→World→Prop):Prop:=SG P (cA c68 1879) (some l) [] [] (f68_k5 l R post) (Env.mk 39 [(5,(VP (some a))),(4,(VP (some b))),(6,(VP (some c))),(8,(Value.int .u32 d)),(3,(VP (some f))),(2,(VP (some g)))] []) w
abbrev f68_k11 (l:Nat) (R:LoopState→Option Code→Loop) (post:Option Code→World→Prop):Exit→YT:=kseq P (cA c68 3758) (cA c68 3759) (some l) [] [] (f68_k5 l R post)
def f68_s8 (w:World) (l:Nat) (R:LoopState→Option Code→Loop) (post:Option Code→World→Prop):Prop:=SG P (cA c68 15037) (some l) [] [] (f68_k5 l R post) (Env.mk 39 [] []) w
theorem f68_s8_eq (w:World) (l:Nat) (R:LoopState→Option Code→Loop) (post:Option Code→World→Prop):f68_s8 w l R post=(w.heap[l]?=some (.loop (R .busy none))∧post (some .ret) (w.putObj l (.loop (R .done (some .ret))))):=Eq.trans SGe (by kernel_rfl)
theorem f68_s7_eq (e f c:Addr) (d:Int) (g h:Addr) (w:World) (l:Nat) (R:LoopState→Option Code→Loop) (post:Option Code→World→Prop):f68_s7 e f c d g h w l R post=(∃ j:Option Addr,w.drew.cell? h=some (.pointer j)∧optS j (fun q=>∃ k:Option Nat,w.drew.cell? (q.add 3)=some (.map k)∧∃ m:Array Value,(∀ wq,Ext w.drew wq→(Instr.lookup 105 (Value.map k) (Value.int .u32 d) false).run P wq=.ok (.agg m) wq)∧∃ n:Int,m[0]?=some (.int .u32 n)∧∃ o:Int,w.drew.cell? g=some (.int .u32 o)∧BIf ((n:Int) == o) (∃ i:Int,w.drew.drew.cell? c=some (.int .i64 i)∧St1 f (Value.int .u32 d) w.drew.drew (fun p=>p.cell? c=some (.int .i64 i)∧St1 e (Value.int .i64 i) p (fun r=>f68_s8 r l R post))) (w.drew.heap[l]?=some (.loop (R .busy none))∧post none (w.drew.putObj l (.loop (R .ready none)))))):=Eq.trans SGe (Eq.trans (CSs [35,5,4,6,8] (f68_k11 l R post) (by kernel_rfl)) (by kernel_rfl))
theorem f68_s5_eq (e f c i g:Addr) (d:Int) (w:World) (l:Nat) (R:LoopState→Option Code→Loop) (post:Option Code→World→Prop):f68_s5 e f c i g d w l R post=(∃ m:Int,w.cell? c=some (.int .i64 m)∧St1 c (Value.int .i64 (IntKind.wrap .i64 ((m:Int)+1))) w (fun h=>∃ n:Option Addr,h.cell? g=some (.pointer n)∧optS n (fun r=>∃ (o:OA) (p s:Nat),h.cell? (r.add 5)=some (.slice o p s)∧optS o (fun t=>0≤(d:Int)∧(d:Int) < (p:Nat)∧∃ j:Int,h.cell? (t.add (Int.toNat d * 1))=some (.int .u32 j)∧BIf ((j:Int) == 0) (∃ k:Int,h.drew.cell? c=some (.int .i64 k)∧St1 f (Value.int .u32 0) h.drew (fun q=>q.cell? c=some (.int .i64 k)∧St1 e (Value.int .i64 k) q (fun u=>f68_s6 u l R post))) (f68_s7 e f c j i g h l R post))))):=Eq.trans SGe (Eq.trans (CSb 1 [] (f68_k5 l R post) (by kernel_rfl)) (Eq.trans (CSs [5,4,6,3,2,7] (f68_k6 l R post) (by kernel_rfl)) (by kernel_rfl)))
theorem f68_ra4_eq (a b c d e:Addr) (f:Int) (w:World) (l:Nat) (R:LoopState→Option Code→Loop) (post:Option Code→World→Prop):f68_ra4 a b c d e f w l R post=(w.heap[l]?=some (.loop (R .ready none))∧f68_s5 a b c d e f (w.putObj l (.loop (R .busy none))) l R post):=by kernel_rfl
theorem f68_rd4_eq (b c d e f:Addr) (a:Int) (w:World) (l:Nat) (R:LoopState→Option Code→Loop) (post:Option Code→World→Prop):f68_rd4 b c d e f l R post [(Value.int .i64 a)] w=([(Value.int .i64 a)].length=1∧f68_ra4 b c d e f a w l R post):=by kernel_rfl
def f68_rn4 (a b c e f:Addr) (d:List Deferred) (w:World) (K:KT):Prop:=(f68_k4 K) .normal (Env.mk 39 [(5,(VP (some a))),(4,(VP (some b))),(6,(VP (some c))),(3,(VP (some e))),(2,(VP (some f)))] d) w
def f68_s9 (a b c:Addr) (d:List Deferred) (w:World) (K:KT):Prop:=SG P (cA c68 15) none [4,5] [4,5] (f68_kb K) (Env.mk 39 [(4,(VP (some a))),(5,(VP (some b))),(6,(VP (some c)))] d) w
abbrev f68_k13 (K:KT):Exit→YT:=kseq P (cA c68 30) (cA c68 31) none [4,5] [4,5] (f68_kb K)
def f68_s10 (a b:Addr) (d:List Deferred) (w:World) (K:KT):Prop:=SG P (cA c68 31) none [4,5] [4,5] (f68_kb K) (Env.mk 39 [(4,(VP (some a))),(5,(VP (some b)))] d) w
theorem f68_s10_eq (a c:Addr) (d:List Deferred) (w:World) (K:KT):f68_s10 a c d w K=(LeaveS P rs68 (Env.mk 39 [(4,(Value.pointer (some a))),(5,(Value.pointer (some c)))] d) K d w):=Eq.trans SGe (by kernel_rfl)
theorem f68_s9_eq (c e f:Addr) (d:List Deferred) (w:World) (K:KT):f68_s9 c e f d w K=(∃ g:Int,w.drew.cell? f=some (.int .i64 g)∧St1 c (Value.int .u32 0) w.drew (fun h=>h.cell? f=some (.int .i64 g)∧St1 e (Value.int .i64 g) h (fun i=>f68_s10 c e d i K))):=Eq.trans SGe (Eq.trans (CSs [4,5] (f68_k13 K) (by kernel_rfl)) (by kernel_rfl))
theorem f68_rn4_eq (a b c e f:Addr) (d:List Deferred) (w:World) (K:KT):f68_rn4 a b c e f d w K=(f68_s9 b a c d w K):=by kernel_rfl
def f68_rr4 (a b c e f:Addr) (d:List Deferred) (w:World) (K:KT):Prop:=(f68_k4 K) .ret (Env.mk 39 [(5,(VP (some a))),(4,(VP (some b))),(6,(VP (some c))),(3,(VP (some e))),(2,(VP (some f)))] d) w
theorem f68_rr4_eq (a b c e f:Addr) (d:List Deferred) (w:World) (K:KT):f68_rr4 a b c e f d w K=(LeaveS P rs68 (Env.mk 39 [(5,(Value.pointer (some a))),(4,(Value.pointer (some b))),(6,(Value.pointer (some c))),(3,(Value.pointer (some e))),(2,(Value.pointer (some f)))] d) K d w):=by kernel_rfl
theorem f68_s3_eq (g:Value) (a c d e f:Addr) (w:World) (K:KT):f68_s3 g a c d e f w K=(RangeC P (f68_k4 K) (Env.mk 39 [(5,(Value.pointer (some a))),(4,(Value.pointer (some c))),(6,(Value.pointer (some d))),(3,(Value.pointer (some e))),(2,(Value.pointer (some f)))] []) w g (f68_rd4 a c d e f)):=Eq.trans SGe (Eq.trans (CSb 0 [4,5,6] (f68_k4 K) (by kernel_rfl)) (by kernel_rfl))
theorem f68_s2_eq (e f g d c:Addr) (h:OA) (i:Int) (w:World) (K:KT):f68_s2 e f g d c h i w K=(∃ j:Option Addr,w.drew.cell? c=some (.pointer j)∧∃ k:Option Addr,w.drew.cell? c=some (.pointer k)∧∃ l:Int,w.drew.cell? d=some (.int .u32 l)∧CallL P 111 [(Value.pointer k),(Value.int .u32 l)] w.drew (fun p m=>∃ n:Int,p=(.int .i64 n)∧m.cell? c=some (.pointer j)∧CallL P 110 [(Value.pointer j),(Value.int .i64 n)] m (fun q r=>∃ o:Value,q=o∧f68_s3 o f g e d c r K))):=Eq.trans (b:=CS P (cA c68 7) none [4,5] [4,5] (f68_kb K) (Env.mk 39 [(6,(VP (some e))),(5,(VP (some f))),(4,(VP (some g))),(3,(VP (some d))),(2,(VP (some c))),(0,(VP h)),(1,(Value.int .u32 i))] []) w) (by kernel_rfl) (Eq.trans (CSs [4,5,6] (f68_k2 K) (by kernel_rfl)) (Eq.trans (CSs [13,5,4,6,3,2] (f68_k3 K) (by kernel_rfl)) (by kernel_rfl)))
theorem f68_s1_eq (c d e f:Addr) (g:OA) (h:Int) (w:World) (K:KT):f68_s1 c d e f g h w K=(NewC (zcells P 3) 3 w (fun i j=>St1 (Addr.mk i 0 none) (Value.int .i64 0) j (fun k=>f68_s2 (Addr.mk i 0 none) c d e f g h k K))):=Eq.trans (b:=CS P (cA c68 3) none [4,5] [4,5] (f68_kb K) (Env.mk 39 [(5,(VP (some c))),(4,(VP (some d))),(3,(VP (some e))),(2,(VP (some f))),(0,(VP g)),(1,(Value.int .u32 h))] []) w) (by kernel_rfl) (Eq.trans (CSs [5,4,6,3,2] (f68_k1 K) (by kernel_rfl)) (by kernel_rfl))
theorem f68_s0_eq (c:OA) (d:Int) (w:World) (K:KT):f68_s0 c d w K=(NewC #[(Value.pointer c)] 28 w (fun e f=>NewC #[(Value.int .u32 d)] 24 f (fun g h=>NewC (zcells P 24) 24 h (fun i j=>NewC (zcells P 3) 3 j (fun k l=>f68_s1 (Addr.mk k 0 none) (Addr.mk i 0 none) (Addr.mk g 0 none) (Addr.mk e 0 none) c d l K))))):=Eq.trans (b:=CS P (cA c68 1) none [4,5] [4,5] (f68_kb K) (Env.mk 39 [(0,(VP c)),(1,(Value.int .u32 d))] []) w) (by kernel_rfl) (Eq.trans (CSs [5,4,3,2] (f68_k0 K) (by kernel_rfl)) (by kernel_rfl))
theorem f68_eq (a:OA) (b:Int) (w:World) (K:KT):f68 a b w K=(f68_s0 a b w K):=by kernel_rfl
theorem f68_ok (a:OA) (b:Int) (w:World) (K:KT) (h:f68 a b w K):CallL P 68 [(Value.pointer a),(Value.int .u32 b)] w K:=okCS c68 Tryz.func68 (by kernel_rfl) (by kernel_rfl) h
noncomputable def c78:Code:=bodyOf Tryz.f78
noncomputable def rs78:List ResultVar:=Tryz.f78.results.toList
abbrev f78_kb (K:KT):Exit→YT:=bodyK P rs78 K
def f78 (a:OA) (b c:Int) (w:World) (K:KT):Prop:=CS P c78 none [6,7] [6,7] (f78_kb K) (env0 40 [(VP a),(Value.int .u32 b),(VI c)]) w
def f78_s0 (a b:Addr) (c:Int) (d:OA) (w:World) (K:KT):Prop:=SG P (cA c78 7) none [6,7] [6,7] (f78_kb K) (Env.mk 40 [(6,(VP (some a))),(5,(VP (some b))),(1,(Value.int .u32 c)),(0,(VP d))] []) w
def f78_s1 (a b:Addr) (c:Int) (d:OA) (w:World) (K:KT):Prop:=SG P (cA c78 15) none [6,7] [6,7] (f78_kb K) (Env.mk 40 [(6,(VP (some a))),(5,(VP (some b))),(1,(Value.int .u32 c)),(0,(VP d))] []) w
def f78_s2 (a:Addr) (b:Int) (c:OA) (d f:Nat) (w:World) (K:KT):Prop:=SG P (cA c78 127) none [6,7] [6,7] (f78_kb K) (Env.mk 40 [(6,(VP (some a))),(11,(VI b)),(10,(VS c d f))] []) w
theorem f78_s2_eq (b:Addr) (a:Int) (c:OA) (d f:Nat) (w:World) (K:KT):f78_s2 b a c d f w K=(optS c (fun g=>0≤(a:Int)∧(a:Int) < (d:Nat)∧LdA 5 (g.add (Int.toNat a * 5)) w (fun h=>StA 5 b h w (fun e=>LdA 5 b e (fun i=>K (Value.tuple [(Value.agg i),(Value.int .i64 0)].toArray) e))))):=by kernel_rfl
theorem f78_s1_eq (a f:Addr) (g:Int) (h:OA) (w:World) (K:KT):f78_s1 a f g h w K=(CallL P 102 [(Value.pointer h),(Value.int .u32 g)] w (fun l m=>∃ (b:OA) (c d:Nat),l=(.slice b c d)∧CallL P 100 [(Value.slice b c d),(Value.func (.func 122) #[] #[(Value.pointer (some f))])] m (fun n i=>∃ e:Int,n=(.int .i64 e)∧BIf (decide ((e:Int) < 0)) (∃ j:Array Value,(∀ wq,(Instr.build 62 [].toArray).run P wq=.ok (.agg j) wq)∧StA 5 a j i (fun k=>LdA 5 a k (fun o=>K (Value.tuple [(Value.agg o),(Value.int .i64 1)].toArray) k))) (f78_s2 a e b c d i K)))):=by kernel_rfl
theorem f78_s0_eq (a d:Addr) (b:Int) (c:OA) (w:World) (K:KT):f78_s0 a d b c w K=(optS c (fun k=>∃ e:Option Nat,w.cell? (k.add 3)=some (.map e)∧∃ f:Array Value,∃ g:Bool,(∀ wq,Ext w wq→(Instr.lookup 105 (Value.map e) (Value.int .u32 b) true).run P wq=.ok (.tuple [(Value.agg f),(Value.bool g)].toArray) wq)∧NewC (zcells P 41) 41 w (fun l m=>StA 3 (Addr.mk l 0 none) f m (fun h=>BIf (!g) (∃ i:Array Value,(∀ wq,(Instr.build 62 [].toArray).run P wq=.ok (.agg i) wq)∧StA 5 a i h (fun j=>LdA 5 a j (fun n=>K (Value.tuple [(Value.agg n),(Value.int .i64 211)].toArray) j))) (f78_s1 a d b c h K))))):=by kernel_rfl
theorem f78_eq (a:OA) (c d:Int) (w:World) (K:KT):f78 a c d w K=(NewC #[(Value.int .i64 d)] 3 w (fun i j=>NewC (zcells P 62) 62 j (fun b k=>CallL P 53 [(Value.pointer a)] k (fun l e=>∃ f:Bool,l=(.bool f)∧BIf f (∃ g:Array Value,(∀ wq,(Instr.build 62 [].toArray).run P wq=.ok (.agg g) wq)∧StA 5 (Addr.mk b 0 none) g e (fun h=>LdA 5 (Addr.mk b 0 none) h (fun m=>K (Value.tuple [(Value.agg m),(Value.int .i64 5)].toArray) h))) (f78_s0 (Addr.mk b 0 none) (Addr.mk i 0 none) c a e K))))):=by kernel_rfl
theorem f78_ok (a:OA) (b c:Int) (w:World) (K:KT) (h:f78 a b c w K):CallL P 78 [(Value.pointer a),(Value.int .u32 b),(Value.int .i64 c)] w K:=okCS c78 Tryz.func78 (by kernel_rfl) (by kernel_rfl) h
noncomputable def c80:Code:=bodyOf Tryz.f80
noncomputable def rs80:List ResultVar:=Tryz.f80.results.toList
abbrev f80_kb (K:KT):Exit→YT:=bodyK P rs80 K
def f80 (a:OA) (b:Array Value) (c:Int) (w:World) (K:KT):Prop:=CS P c80 none [] [] (f80_kb K) (env0 31 [(VP a),(Value.agg b),(Value.int .u32 c)]) w
def f80_s0 (a b:Addr) (c:OA) (d:Int) (w:World) (K:KT):Prop:=SG P (cA c80 7) none [] [] (f80_kb K) (Env.mk 31 [(6,(VP (some a))),(4,(VP (some b))),(0,(VP c)),(2,(Value.int .u32 d))] []) w
theorem f80_s0_eq (a c:Addr) (d:OA) (e:Int) (w:World) (K:KT):f80_s0 a c d e w K=(∃ (f:OA) (g h:Nat),w.cell? (a.add 2)=some (.slice f g h)∧∃ i:Int,w.cell? (c.add 1)=some (.int .i64 i)∧CallL P 123 [(Value.slice f g h),(Value.int .i64 i),(Value.int .u32 e)] w (fun p q=>∃ (j:OA) (k l:Nat),∃ r:Int,p=(.tuple [(Value.slice j k l),(Value.int .i64 r)].toArray)∧St1 (a.add 2) (Value.slice j k l) q (fun b=>optS d (fun s=>∃ m:Option Nat,b.drew.cell? (s.add 3)=some (.map m)∧∃ n:Int,b.drew.cell? c=some (.int .u32 n)∧LdA 3 a b.drew (fun t=>∃ o:World,(Instr.mapUpdate 105 (Value.map m) (Value.int .u32 n) (Value.agg t)).run P b.drew=.ok () o∧K (Value.tuple [].toArray) o))))):=by kernel_rfl
theorem f80_eq (b:OA) (c:Array Value) (d:Int) (w:World) (K:KT):f80 b c d w K=(NewC c 142 w (fun e a=>optS b (fun j=>∃ f:Option Nat,a.drew.cell? (j.add 3)=some (.map f)∧∃ g:Int,a.drew.cell? (Addr.mk e 0 none)=some (.int .u32 g)∧∃ h:Array Value,(∀ wq,Ext a.drew wq→(Instr.lookup 105 (Value.map f) (Value.int .u32 g) false).run P wq=.ok (.agg h) wq)∧NewC (zcells P 41) 41 a.drew (fun i k=>StA 3 (Addr.mk i 0 none) h k (fun l=>f80_s0 (Addr.mk i 0 none) (Addr.mk e 0 none) b d l K))))):=by kernel_rfl
theorem f80_ok (a:OA) (b:Array Value) (c:Int) (w:World) (K:KT) (h:f80 a b c w K):CallL P 80 [(Value.pointer a),(Value.agg b),(Value.int .u32 c)] w K:=okCS c80 Tryz.func80 (by kernel_rfl) (by kernel_rfl) h
noncomputable def c81:Code:=bodyOf Tryz.f81
noncomputable def rs81:List ResultVar:=Tryz.f81.results.toList
abbrev f81_kb (K:KT):Exit→YT:=bodyK P rs81 K
def f81 (a:OA) (b:Array Value) (c:Int) (w:World) (K:KT):Prop:=CS P c81 none [] [] (f81_kb K) (env0 28 [(VP a),(Value.agg b),(Value.int .u32 c)]) w
def f81_s0 (a:Addr) (b:Int) (c:OA) (w:World) (K:KT):Prop:=SG P (cA c81 7) none [] [] (f81_kb K) (Env.mk 28 [(4,(VP (some a))),(2,(Value.int .u32 b)),(0,(VP c))] []) w
def f81_s1 (a:Addr) (b:Int) (c:OA) (w:World) (K:KT):Prop:=SG P (cA c81 15) none [] [] (f81_kb K) (Env.mk 28 [(4,(VP (some a))),(2,(Value.int .u32 b)),(0,(VP c))] []) w
theorem f81_s1_eq (a:Addr) (b:Int) (c:OA) (w:World) (K:KT):f81_s1 a b c w K=(optS c (fun g=>∃ d:Option Nat,w.drew.cell? (g.add 6)=some (.map d)∧∃ e:Option Nat,(∀ wq,Ext w.drew wq→(Instr.lookup 107 (Value.map d) (Value.int .u32 b) false).run P wq=.ok (.map e) wq)∧LdA 2 a w.drew (fun h=>∃ f:World,(Instr.mapUpdate 124 (Value.map e) (Value.agg h) (Value.bool true)).run P w.drew=.ok () f∧K (Value.tuple [].toArray) f))):=by kernel_rfl
theorem f81_s0_eq (c:Addr) (a:Int) (b:OA) (w:World) (K:KT):f81_s0 c a b w K=(optS b (fun h=>∃ d:Option Nat,w.cell? (h.add 6)=some (.map d)∧∃ e:Option Nat,(∀ wq,Ext w wq→(Instr.lookup 107 (Value.map d) (Value.int .u32 a) false).run P wq=.ok (.map e) wq)∧BIf e.isNone (optS b (fun i=>∃ f:Option Nat,w.cell? (i.add 6)=some (.map f)∧NewO (.map #[] 0) w (fun j k=>∃ g:World,(Instr.mapUpdate 107 (Value.map f) (Value.int .u32 a) (Value.map (some j))).run P k=.ok () g∧f81_s1 c a b g K))) (f81_s1 c a b w K))):=by kernel_rfl
theorem f81_eq (b:OA) (c:Array Value) (a:Int) (w:World) (K:KT):f81 b c a w K=(NewC c 142 w (fun e d=>BIf ((a:Int) == 0) (K (Value.tuple [].toArray) d) (f81_s0 (Addr.mk e 0 none) a b d K))):=by kernel_rfl
theorem f81_ok (a:OA) (b:Array Value) (c:Int) (w:World) (K:KT) (h:f81 a b c w K):CallL P 81 [(Value.pointer a),(Value.agg b),(Value.int .u32 c)] w K:=okCS c81 Tryz.func81 (by kernel_rfl) (by kernel_rfl) h
end Go.Fx.Tryz
namespace Go.Fx.Tryz
open Go Go.Fx Go.Fx.Ch
open Go.Proofs
set_option linter.all false
set_option maxRecDepth 20000
variable {w0 w:World} {H G:HBL} {K:KT} {ov:Value} {bs:List Int} {l:List SP}
def InW (G:HBL) (w:World):Prop:=∀ u∈G,w.heap[u.1]?=some u.2
structure BytesM (G:HBL) (ov:Value) (bs:List Int):Prop where
 row:∀ w',InW G w'→Row w' 1 ov bs.length (bs.map B)
 byte:∀ b∈bs,0≤b∧b < 256
 len:bs.length < 1000000
 cap:∀ a n c,ov=.slice a n c→n≤c
structure SpansM (G:HBL) (ov:Value) (l:List SP):Prop where
 row:∀ w',InW G w'→Row w' 2 ov l.length (l.map Scs).flatten
 len:l.length < 1000000
theorem BytesM.bytes (h:BytesM G ov bs) (hG:∀ u∈G,u∈H):Bytes w0 H ov bs:=⟨fun w' h'=>h.row w' fun u hu=>h'.has _ _ (hG u hu),h.byte,h.len,h.cap⟩
theorem SpansM.spans (h:SpansM G ov l) (hG:∀ u∈G,u∈H):Spans w0 H ov l:=⟨fun w' h'=>h.row w' fun u hu=>h'.has _ _ (hG u hu),h.len⟩
theorem BytesM.mono {G':HBL} (h:BytesM G ov bs) (hG:∀ u∈G,u∈G'):BytesM G' ov bs:=⟨fun w' h'=>h.row w' fun u hu=>h' u (hG u hu),h.byte,h.len,h.cap⟩
theorem SpansM.mono {G':HBL} (h:SpansM G ov l) (hG:∀ u∈G,u∈G'):SpansM G' ov l:=⟨fun w' h'=>h.row w' fun u hu=>h' u (hG u hu),h.len⟩
theorem BytesM.of {L:HBL} (h:SlO 1 5 ov bs.length (bs.map B) L) (hb:∀ b∈bs,0≤b∧b < 256) (hl:bs.length < 1000000):BytesM L ov bs:=by
 refine ⟨fun w' h'=>h.row h',hb,hl,fun a n c e=>?_⟩
 rcases h.2 with ⟨h1,h2,_⟩ | ⟨g,cap,cur,h1,_,h3,_⟩
 ·rw [h1] at e; cases e; exact Nat.le_refl _
 ·rw [h1] at e; cases e; exact h3
theorem SpansM.of {L:HBL} (h:SlO 2 36 ov l.length (l.map Scs).flatten L) (hl:l.length < 1000000):SpansM L ov l:=⟨fun w' h'=>h.row h',hl⟩
structure TrOk (G:HBL) (v:Value) (t:TR):Prop where
 is:∃ sv cv,v=.agg (Tcs t.at_ sv cv).toArray∧SpansM G sv t.sp∧BytesM G cv t.code
 at0:0≤t.at_
 at1:t.at_ < 4294967296
theorem TrOk.mono {G':HBL} {v:Value} {t:TR} (h:TrOk G v t) (hG:∀ u∈G,u∈G'):TrOk G' v t:=by
 obtain ⟨⟨sv,cv,h1,h2,h3⟩,h4,h5⟩:=h
 exact ⟨⟨sv,cv,h1,h2.mono hG,h3.mono hG⟩,h4,h5⟩
theorem TrOk.zero (G:HBL):TrOk G (.agg #[U 0,.slice none 0 0,.slice none 0 0]) TR.zero:=
 ⟨⟨_,_,rfl,⟨fun w' _=>⟨rfl,.inl ⟨rfl,rfl⟩⟩,by decide⟩,⟨fun w' _=>⟨rfl,.inl ⟨rfl,rfl⟩⟩,by simp [TR.zero],by decide,fun a n c e=>by cases e; exact Nat.le_refl _⟩⟩,by decide,by decide⟩
abbrev encN (x:Int):Value:=Value.int .u32 x
def ItemsAt (G:HBL) (es:Array MapEntry) (clk:Nat) (items:List (Int × TR)):Prop:=∃ m,MapIs encN es clk m∧Like (TrOk G) m items
theorem ItemsAt.mono {G':HBL} {es:Array MapEntry} {clk:Nat} {items:List (Int × TR)} (h:ItemsAt G es clk items) (hG:∀ u∈G,u∈G'):ItemsAt G' es clk items:=by
 obtain ⟨m,h1,h2⟩:=h
 exact ⟨m,h1,h2.mono fun _ _ h=>h.mono hG⟩
theorem extGet {wq:World} (hx:Ext w wq) {b:Nat} {o:Obj} (hb:w.heap[b]?=some o):wq.heap[b]?=some o:=by
 rw [hx b (Array.getElem?_eq_some_iff.1 hb).1,hb]
theorem zero41 (w:World):(zeroValue 41).run P w=.ok (.agg #[U 0,.slice none 0 0,.slice none 0 0]) w:=by kernel_rfl
theorem ItemsAt.len {es:Array MapEntry} {clk:Nat} {items:List (Int × TR)} (h:ItemsAt G es clk items) {b:Nat} {wq:World} (hb:wq.heap[b]?=some (.map es clk)) :
  (Builtin.len_ #[105] 3 [Value.map (some b)].toArray).run P wq=.ok (.int .i64 items.length) wq:=by
 obtain ⟨m,h1,h2⟩:=h
 rw [← h2.length]
 exact h1.len hb (by kernel_rfl:P.underlying 105=some (.map 24 41)) _
theorem ItemsAt.look {es:Array MapEntry} {clk:Nat} {items:List (Int × TR)} (h:ItemsAt G es clk items) {b:Nat} (hb:w.heap[b]?=some (.map es clk)) (id:Int) :
  ∃ v,TrOk G v (itemOf items id)∧(∀ wq,Ext w wq→(Instr.lookup 105 (.map (some b)) (U id) false).run P wq=.ok v wq)∧
   ∀ wq,Ext w wq→(Instr.lookup 105 (.map (some b)) (U id) true).run P wq=.ok (.tuple #[v,.bool (lk items id).isSome]) wq:=by
 obtain ⟨m,h1,h2⟩:=h
 have hl:∀ ok wq,Ext w wq→_:=fun ok wq hx=>h1.lookup keyT_u32 (by kernel_rfl:P.underlying 105=some (.map 24 41)) zero41 (extGet hx hb) id ok
 rcases h2.lk id with ⟨e1,e2⟩ | ⟨v,t,e1,e2,e3⟩
 ·refine ⟨_,?_,fun wq hx=>hl false wq hx,fun wq hx=>?_⟩
  ·rw [lookM_lk,e1]
   unfold itemOf
   rw [e2]
   exact TrOk.zero G
  ·have:=hl true wq hx
   rw [lookM_lk,e1] at this ⊢
   rw [e2]
   exact this
 ·refine ⟨_,?_,fun wq hx=>hl false wq hx,fun wq hx=>?_⟩
  ·rw [lookM_lk,e1]
   unfold itemOf
   rw [e2]
   exact e3
  ·have:=hl true wq hx
   rw [lookM_lk,e1] at this ⊢
   rw [e2]
   exact this
def CCs (s:CState) (ib hb rb tb:Nat):List Value:=[J s.rows.length,J s.len,J (2 ^ s.k:Nat),.map (some ib),.slice (some ⟨rb,0,none⟩) s.rows.length s.rows.length,.slice (some ⟨tb,0,none⟩) (2 ^ s.k) (2 ^ s.k),.map (some hb),J s.cur,U s.given,J s.ev,J s.dr]
abbrev Bits (H:HBL):Prop:=∃ t:TypeId,(2,Cs (tab64.map fun x=>.int .u8 x) t)∈H
theorem home_lt {k:Nat} (h4:4≤k) (h16:k≤16) {at_:Int} (h0:0≤at_):0≤homeF k at_∧homeF k at_ < (2 ^ k:Nat):=by
 unfold homeF
 have h1:0≤(at_ / 4 * 2654435761) % 4294967296:=Int.emod_nonneg _ (by decide)
 have h2:(at_ / 4 * 2654435761) % 4294967296 < 4294967296:=Int.emod_lt_of_pos _ (by decide)
 generalize (at_ / 4 * 2654435761) % 4294967296=x at *
 have hp:(0:Int) < 2 ^ (32 - k):=Int.pow_pos (by decide)
 refine ⟨Int.ediv_nonneg h1 (Int.le_of_lt hp),?_⟩
 apply Int.ediv_lt_of_lt_mul hp
 have:((2 ^ k:Nat):Int) * 2 ^ (32 - k)=4294967296:=by
  rcases k_cases h4 h16 with rfl | rfl | rfl | rfl | rfl | rfl | rfl | rfl | rfl | rfl | rfl | rfl | rfl <;> decide
 rw [this]; exact h2
theorem homeC_ok {cb k:Nat} {s:CState} {ib hb rb tb:Nat} {tc:TypeId} (h:St w0 w H) (hcb:(cb,Cs (CCs s ib hb rb tb) tc)∈H) (hk:s.k=k) (h4:4≤k) (h16:k≤16) (ht:Bits H) {at_:Int} (h0:0≤at_) (h1:at_ < 4294967296)
  (hK:∀ w',St w0 w' H→K (J (homeF k at_)) w'):CallL P 111 [.pointer (some ⟨cb,0,none⟩),U at_] w K:=by
 obtain ⟨t,ht⟩:=ht
 refine home_ok h4 h16 ht h ?_ h0 h1 (hK w h)
 rw [add_lit',cell_of (h.has _ _ hcb),← hk]
 show some (J (2 ^ s.k:Nat))=some (J (2 ^ s.k))
 rw [Int.natCast_pow]; rfl
theorem slots110_ok {p:Option Addr} {x:Int} (h:St w0 w H) (hK:∀ w' b1 b2,w0.heap.size≤b1→w0.heap.size≤b2→St w0 w' ((b2,Cs [J x] 3)::(b1,Cs [.pointer p] 28)::H)→
  K (.func (.func 153) #[] #[.pointer (some (Addr.mk b1 0 none)),.pointer (some (Addr.mk b2 0 none))]) w'):CallL P 110 [.pointer p,J x] w K:=by
 refine f110_ok _ _ _ _ ?_
 rw [f110_eq]
 exact h.newC fun n2 w3 h2 h3=>h3.newC fun n4 w5 h4 h5=>hK w5 n2 n4 h2 h4 h5
theorem slotAt_get {t:List Int} {i:Nat} (hi:i < t.length):t[i]?=some (slotAt t i):=by
 unfold slotAt; rw [List.getElem?_eq_getElem hi]; rfl
end Go.Fx.Tryz
namespace Go.Fx.Tryz
open Go Go.Fx Go.Fx.Ch
open Go.Proofs
set_option linter.all false
set_option maxRecDepth 20000
variable {w0 w:World} {H G:HBL} {K:KT}
structure KnownC (H G:HBL) (s:CState) (cb ib hb rb tb:Nat) (ies:Array MapEntry) (iclk:Nat) (tc:TypeId):Prop where
 c:(cb,Cs (CCs s ib hb rb tb) tc)∈H
 i:(ib,.map ies iclk)∈H
 bits:Bits H
 its:ItemsAt G ies iclk s.items
 k4:4≤s.k
 k16:s.k≤16
 tl:s.table.length=2 ^ s.k
structure Known (H G:HBL) (s:CState) (cb ib hb rb tb:Nat) (ies:Array MapEntry) (iclk:Nat) (tc tt:TypeId):Prop extends KnownC H G s cb ib hb rb tb ies iclk tc where
 t:(tb,Cs (s.table.map U) tt)∈H
variable {s:CState} {cb ib hb rb tb:Nat} {ies:Array MapEntry} {iclk:Nat} {tc tt:TypeId}
theorem zc24:zcells P 24=#[U 0]:=by kernel_rfl
theorem zc3:zcells P 3=#[J 0]:=by kernel_rfl
theorem leave_68 (a b:Addr) (d0:List Deferred) (w:World) (K:KT) :
  LeaveS P rs68 (Env.mk 39 [(4,(Value.pointer (some a))),(5,(Value.pointer (some b)))] d0) K [] w=(∃ x:Int,w.cell? a=some (U x)∧∃ y:Int,w.cell? b=some (J y)∧K (.tuple [U x,J y].toArray) w):=by kernel_rfl
theorem leave_68r (a b v6 v3 v2:Addr) (d0:List Deferred) (w:World) (K:KT) :
  LeaveS P rs68 (Env.mk 39 [(5,(Value.pointer (some b))),(4,(Value.pointer (some a))),(6,(Value.pointer (some v6))),(3,(Value.pointer (some v3))),(2,(Value.pointer (some v2)))] d0) K [] w=(∃ x:Int,w.cell? a=some (U x)∧∃ y:Int,w.cell? b=some (J y)∧K (.tuple [U x,J y].toArray) w):=by kernel_rfl
def Lbl (n18 n10 n8 n6 n4 cb:Nat) (i:Int) (at_ r1 r2:Int):List (Nat × Obj):=[(n18,Cs [J i] 3),(n10,Cs [J r2] 3),(n8,Cs [U r1] 24),(n6,Cs [U at_] 24),(n4,Cs [.pointer (some (Addr.mk cb 0 none))] 28)]
theorem look_ok (h:St w0 w H) (hk:Known H G s cb ib hb rb tb ies iclk tc tt) (hG:∀ u∈G,u∈H) {at_:Int} (h0:0≤at_) (h1:at_ < 4294967296)
  (hK:∀ w',St w0 w' H→K (.tuple [U (lookS s at_).1,J (lookS s at_).2].toArray) w'):CallL P 68 [.pointer (some ⟨cb,0,none⟩),U at_] w K:=by
 refine f68_ok _ _ _ _ ?_
 rw [f68_eq,f68_s0_eq,zc24,zc3]
 refine h.newC fun n4 w5 hn4 h5=>h5.newC fun n6 w7 hn6 h7=>h7.newC fun n8 w9 hn8 h9=>h9.newC fun n10 w11 hn10 h11=>?_
 rw [f68_s1_eq,zc3]
 refine h11.newC fun n18 w19 hn18 h19=>?_
 refine h19.st1 (k:=0) rfl (by simp) rfl fun w20 h20=>?_
 have h20:St w0 w20 (Lbl n18 n10 n8 n6 n4 cb 0 at_ 0 0++H):=h20
 rw [f68_s2_eq]
 have h21:=h20.drew
 refine ⟨_,h21.cell (k:=4) rfl,_,h21.cell (k:=4) rfl,_,h21.cell (k:=3) rfl,?_⟩
 have mm:∀ {L:HBL},Bits (L++H):=fun {L}=>by obtain ⟨t,ht⟩:=hk.bits; exact ⟨t,List.mem_append_right _ ht⟩
 refine homeC_ok (s:=s) h21 (List.mem_append_right _ hk.c) rfl hk.k4 hk.k16 mm h0 h1 fun w32 h32=>⟨_,rfl,h32.cell (k:=4) rfl,?_⟩
 refine slots110_ok h32 fun w35 b1 b2 hb1 hb2 h35=>⟨_,rfl,?_⟩
 rw [f68_s3_eq]
 have hh:=home_lt hk.k4 hk.k16 (k:=s.k) (at_:=at_) h0
 obtain ⟨frm,hfrm⟩:=Int.eq_ofNat_of_zero_le hh.1
 rw [hfrm] at h35
 have hfr:frm < 2 ^ s.k:=by omega
 have hlook:lookS s at_=lookGo s.items s.table s.k at_ frm (2 ^ s.k) 0:=by unfold lookS; rw [hfrm]; rfl
 have hp:=pow_bounds hk.k4 hk.k16
 have htl:=hk.tl
 refine range_slots (k:=s.k) (from_:=frm) (ca:=⟨cb,0,none⟩) (b1:=b1) (b2:=b2) (t1:=28) (t2:=3) hk.k4 hk.k16 hfr h35
  (fun i X=>X=(b2,Cs [J frm] 3)::(b1,Cs [.pointer (some (Addr.mk cb 0 none))] 28)::(Lbl n18 n10 n8 n6 n4 cb i at_ 0 0++H)∧i≤2 ^ s.k∧lookGo s.items s.table s.k at_ frm (2 ^ s.k - i) i=lookS s at_)
  (fun c X=>c=.ret∧∃ i,X=(b2,Cs [J frm] 3)::(b1,Cs [.pointer (some (Addr.mk cb 0 none))] 28)::(Lbl n18 n10 n8 n6 n4 cb i at_ (lookS s at_).1 (lookS s at_).2++H))
  ⟨rfl,Nat.zero_le _,hlook.symm⟩ ?_ ?_ ?_ ?_
 ·rintro i X ⟨rfl,_,_⟩
  refine ⟨.tail _ (.head _),.head _,_,_,rfl,.tail _ (.tail _ (List.mem_append_right _ hk.c)),rfl⟩
 ·rintro l l' R post i W X hi ⟨rfl,_,hgo⟩ hs hl hl' hpost hret
  rw [f68_rd4_eq]
  refine ⟨rfl,?_⟩
  rw [f68_ra4_eq]
  refine ⟨hs.get (k:=0) rfl,?_⟩
  have h40:=hs.put (k:=0) rfl (.loop (R .busy none))
  rw [f68_s5_eq]
  refine ⟨_,h40.cell (k:=4) rfl,?_⟩
  refine h40.st1 (k:=4) rfl (by simp) rfl fun w56 h56=>?_
  rw [wrap_i64 (x:=(i:Int)+1) (by omega) (by omega)] at h56
  have h56:St w0 w56 ((l,.loop (R .busy none))::(l',.deferred (some []))::(b2,Cs [J frm] 3)::(b1,Cs [.pointer (some (Addr.mk cb 0 none))] 28)::(Lbl n18 n10 n8 n6 n4 cb ((i+1:Nat):Int) at_ 0 0++H)):=h56
  have up:∀ {u},u∈H→u∈(l,Obj.loop (R .busy none))::(l',.deferred (some []))::(b2,Cs [J frm] 3)::(b1,Cs [.pointer (some (Addr.mk cb 0 none))] 28)::(Lbl n18 n10 n8 n6 n4 cb ((i+1:Nat):Int) at_ 0 0++H):=fun {u} hu=>.tail _ (.tail _ (.tail _ (.tail _ (List.mem_append_right _ hu))))
  have hmod:(frm+i) % 2 ^ s.k < s.table.length:=by rw [htl]; exact Nat.mod_lt _ (by omega)
  generalize hj:(frm+i) % 2 ^ s.k=j at *
  refine ⟨_,h56.cell (k:=8) rfl,some ⟨tb,0,none⟩,2 ^ s.k,2 ^ s.k,by rw [add_lit',cell_of (h56.has _ _ (up hk.c))]; rfl,by omega,by omega,?_⟩
  refine ⟨slotAt s.table j,?_,?_⟩
  ·rw [Int.toNat_natCast,Nat.mul_one,add_lit',cell_of (h56.has _ _ (up hk.t)),Nat.zero_add,List.getElem?_map,slotAt_get hmod]; rfl
  have hst:lookGo s.items s.table s.k at_ frm (2 ^ s.k - i) i=if slotAt s.table j=0 then (0,i+1)
    else if (itemOf s.items (slotAt s.table j)).at_=at_ then (slotAt s.table j,i+1) else lookGo s.items s.table s.k at_ frm (2 ^ s.k - (i+1)) (i+1):=by
   rw [show 2 ^ s.k - i=(2 ^ s.k - (i+1))+1 by omega]
   show (if slotAt s.table ((frm+i) % 2 ^ s.k)=0 then _ else _)=_
   rw [hj]
  rw [BIf_iff]
  refine ⟨fun hz=>?_,fun hz=>?_⟩
  ·have hz:slotAt s.table j=0:=by simpa using hz
   have hres:lookS s at_=(0,i+1):=by rw [← hgo,hst,if_pos hz]
   have h57:=h56.drew
   refine ⟨_,h57.cell (k:=4) rfl,?_⟩
   refine h57.st1 (k:=6) rfl (by simp) rfl fun w63 h63=>⟨h63.cell (k:=4) rfl,?_⟩
   refine h63.st1 (k:=5) rfl (by simp) rfl fun w64 h64=>?_
   rw [f68_s6_eq]
   refine ⟨h64.get (k:=0) rfl,?_⟩
   have h65:=h64.put (k:=0) rfl (.loop (R .done (some .ret)))
   refine hret .ret _ _ ⟨rfl,((i+1:Nat):Int),rfl⟩ ?_
   rw [hres]
   exact h65
  ·have hz:slotAt s.table j≠0:=by simpa using hz
   rw [f68_s7_eq]
   have h57:=h56.drew
   obtain ⟨v,hv,hlk,_⟩:=hk.its.look (h57.has _ _ (up hk.i)) (slotAt s.table j)
   obtain ⟨⟨sv,cv,rfl,_,_⟩,_,_⟩:=hv
   refine ⟨_,h57.cell (k:=8) rfl,some ib,by rw [add_lit',cell_of (h57.has _ _ (up hk.c))]; rfl,_,hlk,_,rfl,_,h57.cell (k:=7) rfl,?_⟩
   rw [BIf_iff]
   refine ⟨fun ha=>?_,fun ha=>?_⟩
   ·have ha:(itemOf s.items (slotAt s.table j)).at_=at_:=by simpa using ha
    have hres:lookS s at_=(slotAt s.table j,i+1):=by rw [← hgo,hst,if_neg hz,if_pos ha]
    have h58:=h57.drew
    refine ⟨_,h58.cell (k:=4) rfl,?_⟩
    refine h58.st1 (k:=6) rfl (by simp) rfl fun w63 h63=>⟨h63.cell (k:=4) rfl,?_⟩
    refine h63.st1 (k:=5) rfl (by simp) rfl fun w64 h64=>?_
    rw [f68_s8_eq]
    refine ⟨h64.get (k:=0) rfl,?_⟩
    have h65:=h64.put (k:=0) rfl (.loop (R .done (some .ret)))
    refine hret .ret _ _ ⟨rfl,((i+1:Nat):Int),rfl⟩ ?_
    rw [hres]
    exact h65
   ·have ha:(itemOf s.items (slotAt s.table j)).at_≠at_:=by simpa using ha
    refine ⟨h57.get (k:=0) rfl,?_⟩
    have h65:=h57.put (k:=0) rfl (.loop (R .ready none))
    refine hpost _ _ ⟨rfl,by omega,?_⟩ h65
    rw [← hgo,hst,if_neg hz,if_neg ha]
 ·rintro W X l' hl' ⟨rfl,_,hgo⟩ hs
  show f68_rn4 ..
  rw [f68_rn4_eq,f68_s9_eq]
  have hres:lookS s at_=(0,2 ^ s.k):=by rw [← hgo,Nat.sub_self]; rfl
  have h57:=hs.drew
  refine ⟨_,h57.cell (k:=3) rfl,?_⟩
  refine h57.st1 (k:=5) rfl (by simp) rfl fun w63 h63=>⟨h63.cell (k:=3) rfl,?_⟩
  refine h63.st1 (k:=4) rfl (by simp) rfl fun w64 h64=>?_
  rw [f68_s10_eq]
  show w64.heap[l']?=some (.deferred (some []))∧LeaveS P rs68 _ K [] (w64.putObj l' (.deferred none))
  refine ⟨h64.get (k:=0) rfl,?_⟩
  rw [leave_68]
  have h65:=h64.put (k:=0) rfl (.deferred none)
  refine ⟨_,h65.cell (k:=5) rfl,_,h65.cell (k:=4) rfl,?_⟩
  have hK:=hK _ ((((((((h65.tail hl').tail hb2).tail hb1).tail hn18).tail hn10).tail hn8).tail hn6).tail hn4)
  rw [hres] at hK
  exact hK
 ·rintro c W X l' hl' ⟨rfl,i,rfl⟩ hs
  show f68_rr4 ..
  rw [f68_rr4_eq]
  show W.heap[l']?=some (.deferred (some []))∧LeaveS P rs68 _ K [] (W.putObj l' (.deferred none))
  refine ⟨hs.get (k:=0) rfl,?_⟩
  rw [leave_68r]
  have h65:=hs.put (k:=0) rfl (.deferred none)
  refine ⟨_,h65.cell (k:=5) rfl,_,h65.cell (k:=4) rfl,?_⟩
  exact hK _ ((((((((h65.tail hl').tail hb2).tail hb1).tail hn18).tail hn10).tail hn8).tail hn6).tail hn4)
end Go.Fx.Tryz
namespace Go.Fx.Tryz
open Go Go.Fx Go.Fx.Ch
open Go.Proofs
set_option linter.all false
set_option maxRecDepth 20000
variable {w0 w:World} {H G:HBL} {K:KT} {s:CState} {cb ib hb rb tb:Nat} {ies:Array MapEntry} {iclk:Nat} {tc tt:TypeId}
theorem leave_63 (e:List (Nat × Value)) (d0:List Deferred) (w:World) (K:KT):LeaveS P rs63 (Env.mk 32 e d0) K [] w=K (.tuple [].toArray) w:=by kernel_rfl
theorem leave_103 (e:List (Nat × Value)) (d0:List Deferred) (w:World) (K:KT):LeaveS P rs103 (Env.mk 105 e d0) K [] w=K (.tuple [].toArray) w:=by kernel_rfl
theorem exit_103 (e:List (Nat × Value)) (d:List Deferred) (w:World) (K:KT):(f103_k5 K) (.exit 0) (Env.mk 105 e d) w=LeaveS P rs103 (Env.mk 105 e d) K d w:=by kernel_rfl
theorem insGo_length (k:Nat) (id:Int) (frm:Nat):∀ (f n:Nat) (t:List Int),(insGo k id frm t f n).length=t.length
 | 0,n,t=>rfl
 | f+1,n,t=>by
  unfold insGo
  split
  ·simp
  ·exact insGo_length k id frm f (n+1) t
theorem insert_ok (h:St w0 w ((tb,Cs (s.table.map U) tt)::H)) (hk:KnownC H G s cb ib hb rb tb ies iclk tc) (hG:∀ u∈G,u∈H) {id:Int}
  (hK:∀ w',St w0 w' ((tb,Cs ((insertT s id).map U) tt)::H)→K (.tuple [].toArray) w'):CallL P 63 [.pointer (some ⟨cb,0,none⟩),U id] w K:=by
 refine f63_ok _ _ _ _ ?_
 rw [f63_eq]
 refine h.newC fun n2 w3 hn2 h3=>h3.newC fun n4 w5 hn4 h5=>?_
 have h6:=h5.drew
 have up:∀ {L:HBL} {u},u∈H→u∈L++H:=fun hu=>List.mem_append_right _ hu
 have h6:St w0 w5.drew ([(n4,Cs [U id] 24),(n2,Cs [.pointer (some (Addr.mk cb 0 none))] 28),(tb,Cs (s.table.map U) tt)]++H):=h6
 obtain ⟨v,hv,hlk,_⟩:=hk.its.look (h6.has _ _ (up hk.i)) id
 obtain ⟨⟨sv,cv,rfl,_,_⟩,ha0,ha1⟩:=hv
 refine ⟨_,h6.cell (k:=1) rfl,_,h6.cell (k:=1) rfl,_,h6.cell (k:=1) rfl,some ib,by rw [add_lit',cell_of (h6.has _ _ (up hk.c))]; rfl,_,h6.cell (k:=0) rfl,_,hlk,_,rfl,?_⟩
 have mm:∀ {L:HBL},Bits (L++H):=fun {L}=>by obtain ⟨t,ht⟩:=hk.bits; exact ⟨t,List.mem_append_right _ ht⟩
 refine homeC_ok (s:=s) h6 (up hk.c) rfl hk.k4 hk.k16 mm ha0 ha1 fun w32 h32=>⟨_,rfl,h32.cell (k:=1) rfl,?_⟩
 refine slots110_ok h32 fun w35 b1 b2 hb1 hb2 h35=>⟨_,rfl,?_⟩
 rw [f63_s0_eq]
 have hh:=home_lt hk.k4 hk.k16 (k:=s.k) ha0
 obtain ⟨frm,hfrm⟩:=Int.eq_ofNat_of_zero_le hh.1
 rw [hfrm] at h35
 have hfr:frm < 2 ^ s.k:=by omega
 have hins:insertT s id=insGo s.k id frm s.table (2 ^ s.k) 0:=by unfold insertT; rw [hfrm]; rfl
 have hp:=pow_bounds hk.k4 hk.k16
 have htl:=hk.tl
 refine range_slots (k:=s.k) (from_:=frm) (ca:=⟨cb,0,none⟩) (b1:=b1) (b2:=b2) (t1:=28) (t2:=3) hk.k4 hk.k16 hfr h35
  (fun i X=>X=(b2,Cs [J frm] 3)::(b1,Cs [.pointer (some (Addr.mk cb 0 none))] 28)::([(n4,Cs [U id] 24),(n2,Cs [.pointer (some (Addr.mk cb 0 none))] 28),(tb,Cs (s.table.map U) tt)]++H)∧i≤2 ^ s.k∧insGo s.k id frm s.table (2 ^ s.k - i) i=insertT s id)
  (fun c X=>c=.ret∧X=(b2,Cs [J frm] 3)::(b1,Cs [.pointer (some (Addr.mk cb 0 none))] 28)::([(n4,Cs [U id] 24),(n2,Cs [.pointer (some (Addr.mk cb 0 none))] 28),(tb,Cs ((insertT s id).map U) tt)]++H))
  ⟨rfl,Nat.zero_le _,hins.symm⟩ ?_ ?_ ?_ ?_
 ·rintro i X ⟨rfl,_,_⟩
  exact ⟨.tail _ (.head _),.head _,_,_,rfl,.tail _ (.tail _ (up hk.c)),rfl⟩
 ·rintro l l' R post i W X hi ⟨rfl,_,hgo⟩ hs hl hl' hpost hret
  rw [f63_rd1_eq]
  refine ⟨rfl,?_⟩
  rw [f63_ra1_eq]
  refine ⟨hs.get (k:=0) rfl,?_⟩
  have h40:=hs.put (k:=0) rfl (.loop (R .busy none))
  have h40:St w0 _ ((l,.loop (R .busy none))::(l',.deferred (some []))::(b2,Cs [J frm] 3)::(b1,Cs [.pointer (some (Addr.mk cb 0 none))] 28)::(n4,Cs [U id] 24)::(n2,Cs [.pointer (some (Addr.mk cb 0 none))] 28)::(tb,Cs (s.table.map U) tt)::H):=h40
  rw [f63_s2_eq]
  have hc:(cb,Cs (CCs s ib hb rb tb) tc)∈((l,Obj.loop (R .busy none))::(l',.deferred (some []))::(b2,Cs [J frm] 3)::(b1,Cs [.pointer (some (Addr.mk cb 0 none))] 28)::(n4,Cs [U id] 24)::(n2,Cs [.pointer (some (Addr.mk cb 0 none))] 28)::(tb,Cs (s.table.map U) tt)::H):=.tail _ (.tail _ (.tail _ (.tail _ (.tail _ (.tail _ (.tail _ hk.c))))))
  have hmod:(frm+i) % 2 ^ s.k < s.table.length:=by rw [htl]; exact Nat.mod_lt _ (by omega)
  have hst:insGo s.k id frm s.table (2 ^ s.k - i) i=if slotAt s.table ((frm+i) % 2 ^ s.k)=0 then s.table.set ((frm+i) % 2 ^ s.k) id else insGo s.k id frm s.table (2 ^ s.k - (i+1)) (i+1):=by
   rw [show 2 ^ s.k - i=(2 ^ s.k - (i+1))+1 by omega]
   rfl
  generalize hj:(frm+i) % 2 ^ s.k=j at *
  refine ⟨_,h40.cell (k:=5) rfl,some ⟨tb,0,none⟩,2 ^ s.k,2 ^ s.k,by rw [add_lit',cell_of (h40.has _ _ hc)]; rfl,by omega,by omega,slotAt s.table j,?_,?_⟩
  ·rw [Int.toNat_natCast,Nat.mul_one,add_lit',h40.cell (k:=6) rfl,Nat.zero_add,List.getElem?_map,slotAt_get hmod]; rfl
  rw [BIf_iff]
  refine ⟨fun hz=>?_,fun hz=>?_⟩
  ·have hz:slotAt s.table j=0:=by simpa using hz
   have h41:=h40.drew
   refine ⟨_,h41.cell (k:=5) rfl,some ⟨tb,0,none⟩,2 ^ s.k,2 ^ s.k,by rw [add_lit',cell_of (h41.has _ _ hc)]; rfl,_,h41.cell (k:=4) rfl,by omega,by omega,?_⟩
   show St1 ((Addr.mk tb 0 none).add _) _ _ _
   rw [add_lit',Int.toNat_natCast,Nat.mul_one,Nat.zero_add]
   refine h41.st1 (k:=6) rfl (by simpa using hmod) rfl fun w39 h42=>?_
   rw [f63_s3_eq]
   refine ⟨h42.get (k:=0) rfl,?_⟩
   have h43:=h42.put (k:=0) rfl (.loop (R .done (some .ret)))
   refine hret .ret _ _ ⟨rfl,rfl⟩ ?_
   rw [← hgo,hst,if_pos hz,List.map_set]
   exact h43
  ·have hz:slotAt s.table j≠0:=by simpa using hz
   refine ⟨h40.get (k:=0) rfl,?_⟩
   have h43:=h40.put (k:=0) rfl (.loop (R .ready none))
   refine hpost _ _ ⟨rfl,by omega,?_⟩ h43
   rw [← hgo,hst,if_neg hz]
 ·rintro W X l' hl' ⟨rfl,_,hgo⟩ hs
  show f63_rn1 (Addr.mk n4 0 none) (Addr.mk n2 0 none) [mk l'] W K
  rw [f63_rn1_eq]
  show W.heap[l']?=some (.deferred (some []))∧LeaveS P rs63 _ K [] (W.putObj l' (.deferred none))
  refine ⟨hs.get (k:=0) rfl,?_⟩
  rw [leave_63]
  have h65:=hs.put (k:=0) rfl (.deferred none)
  have hres:insertT s id=s.table:=by rw [← hgo,Nat.sub_self]; rfl
  have hK:=hK (W.putObj l' (.deferred none))
  rw [hres] at hK
  exact hK (((((h65.tail hl').tail hb2).tail hb1).tail hn4).tail hn2)
 ·rintro c W X l' hl' ⟨rfl,rfl⟩ hs
  show f63_rr1 (Addr.mk n4 0 none) (Addr.mk n2 0 none) [mk l'] W K
  rw [f63_rr1_eq]
  show W.heap[l']?=some (.deferred (some []))∧LeaveS P rs63 _ K [] (W.putObj l' (.deferred none))
  refine ⟨hs.get (k:=0) rfl,?_⟩
  rw [leave_63]
  have h65:=hs.put (k:=0) rfl (.deferred none)
  exact hK _ (((((h65.tail hl').tail hb2).tail hb1).tail hn4).tail hn2)
theorem and_slotsI {k:Nat} (h4:4≤k) (h16:k≤16) {x:Int} (h0:-1000000 < x) (h1:x < 1000000) :
  IntKind.wrap .i64 ((BitVec.ofInt (IntKind.bits .i64) (IntKind.wrap .i64 x) &&& BitVec.ofInt (IntKind.bits .i64) (IntKind.wrap .i64 (((2 ^ k:Nat):Int) - 1))).toNat:Int)=x % 2 ^ k:=by
 have hp:=pow_bounds h4 h16
 have e1:((2 ^ k:Nat):Int) - 1=((2 ^ k - 1:Nat):Int):=by omega
 rw [e1,wrap_i64 (x:=((2 ^ k - 1:Nat):Int)) (by omega) (by omega),wrap_i64 (x:=x) (by omega) (by omega)]
 have e:(BitVec.ofInt (IntKind.bits .i64) x &&& BitVec.ofInt (IntKind.bits .i64) ((2 ^ k - 1:Nat):Int)).toNat=(x % 18446744073709551616).toNat % 2 ^ k:=by
  show (BitVec.ofInt 64 x &&& BitVec.ofInt 64 ((2 ^ k - 1:Nat):Int)).toNat=_
  rw [BitVec.toNat_and,BitVec.ofInt_natCast,BitVec.toNat_ofNat,Nat.mod_eq_of_lt (a:=2 ^ k - 1) (by omega),BitVec.toNat_ofInt,Nat.and_two_pow_sub_one_eq_mod]
  rfl
 have hlt:(x % 18446744073709551616).toNat % 2 ^ k < 2 ^ k:=Nat.mod_lt _ (by omega)
 rw [e,wrap_i64 (by omega) (by omega)]
 have hnn:0≤x % 18446744073709551616:=Int.emod_nonneg _ (by decide)
 rw [Int.natCast_emod,Int.toNat_of_nonneg hnn,Int.natCast_pow]
 show x % 18446744073709551616 % 2 ^ k=_
 apply Int.emod_emod_of_dvd
 rcases k_cases h4 h16 with rfl | rfl | rfl | rfl | rfl | rfl | rfl | rfl | rfl | rfl | rfl | rfl | rfl <;> decide
def holeV:Option Nat→Int
 | none=>-1
 | some h=>h
def Rbl (n12 n6 n4 tb cb:Nat) (tt:TypeId) (id:Int) (ho:Option Nat) (t:List Int):List (Nat × Obj):=[(n12,Cs [J (holeV ho)] 3),(n6,Cs [U id] 24),(n4,Cs [.pointer (some (Addr.mk cb 0 none))] 28),(tb,Cs (t.map U) tt)]
theorem remove_ok (h:St w0 w ((tb,Cs (s.table.map U) tt)::H)) (hk:KnownC H G s cb ib hb rb tb ies iclk tc) (hG:∀ u∈G,u∈H) {id:Int}
  (hK:∀ w',(removeT s id).length=2 ^ s.k→St w0 w' ((tb,Cs ((removeT s id).map U) tt)::H)→K (.tuple [].toArray) w'):CallL P 103 [.pointer (some ⟨cb,0,none⟩),U id] w K:=by
 refine f103_ok _ _ _ _ ?_
 rw [f103_eq,f103_s0_eq]
 refine h.newC fun n4 w5 hn4 h5=>h5.newC fun n6 w7 hn6 h7=>?_
 rw [f103_s1_eq,zc3]
 refine h7.newC fun n12 w13 hn12 h13=>?_
 refine h13.st1 (k:=0) rfl (by simp) rfl fun w14 h14=>?_
 have h14:St w0 w14 (Rbl n12 n6 n4 tb cb tt id none s.table++H):=h14
 rw [f103_s2_eq,f103_s3_eq]
 have h6:=h14.drew
 have up:∀ {L:HBL} {u},u∈H→u∈L++H:=fun hu=>List.mem_append_right _ hu
 obtain ⟨v,hv,hlk,_⟩:=hk.its.look (h6.has _ _ (up hk.i)) id
 obtain ⟨⟨sv,cv,rfl,_,_⟩,ha0,ha1⟩:=hv
 refine ⟨_,h6.cell (k:=2) rfl,_,h6.cell (k:=2) rfl,_,h6.cell (k:=2) rfl,some ib,by rw [add_lit',cell_of (h6.has _ _ (up hk.c))]; rfl,_,h6.cell (k:=1) rfl,_,hlk,_,rfl,?_⟩
 have mm:∀ {L:HBL},Bits (L++H):=fun {L}=>by obtain ⟨t,ht⟩:=hk.bits; exact ⟨t,List.mem_append_right _ ht⟩
 refine homeC_ok (s:=s) h6 (up hk.c) rfl hk.k4 hk.k16 mm ha0 ha1 fun w32 h32=>⟨_,rfl,h32.cell (k:=2) rfl,?_⟩
 refine slots110_ok h32 fun w35 b1 b2 hb1 hb2 h35=>⟨_,rfl,?_⟩
 rw [f103_s4_eq]
 have hh:=home_lt hk.k4 hk.k16 (k:=s.k) ha0
 obtain ⟨frm,hfrm⟩:=Int.eq_ofNat_of_zero_le hh.1
 rw [hfrm] at h35
 have hfr:frm < 2 ^ s.k:=by omega
 have hrem:removeT s id=remGo s.items s.k id frm (2 ^ s.k) 0 none s.table:=by unfold removeT; rw [hfrm]; rfl
 have hp:=pow_bounds hk.k4 hk.k16
 have fin:∀ {W:World} {l':Nat} {ho:Option Nat} {t:List Int},w0.heap.size≤l'→t.length=2 ^ s.k→t=removeT s id→St w0 W ((l',.deferred (some []))::(b2,Cs [J frm] 3)::(b1,Cs [.pointer (some (Addr.mk cb 0 none))] 28)::(Rbl n12 n6 n4 tb cb tt id ho t++H))→
   LeaveS P rs103 (Env.mk 105 [(4,(Value.pointer (some (Addr.mk n12 0 none)))),(2,(Value.pointer (some (Addr.mk n4 0 none)))),(3,(Value.pointer (some (Addr.mk n6 0 none))))] [mk l']) K [mk l'] W:=fun {W l' ho t} hl' htl ht hs=>by
  show W.heap[l']?=some (.deferred (some []))∧LeaveS P rs103 _ K [] (W.putObj l' (.deferred none))
  refine ⟨hs.get (k:=0) rfl,?_⟩
  rw [leave_103]
  have h65:=hs.put (k:=0) rfl (.deferred none)
  subst ht
  exact hK _ htl ((((((h65.tail hl').tail hb2).tail hb1).tail hn12).tail hn6).tail hn4)
 refine range_slots (k:=s.k) (from_:=frm) (ca:=⟨cb,0,none⟩) (b1:=b1) (b2:=b2) (t1:=28) (t2:=3) hk.k4 hk.k16 hfr h35
  (fun i X=>∃ ho t,X=(b2,Cs [J frm] 3)::(b1,Cs [.pointer (some (Addr.mk cb 0 none))] 28)::(Rbl n12 n6 n4 tb cb tt id ho t++H)∧i≤2 ^ s.k∧t.length=2 ^ s.k∧(∀ h,ho=some h→h < 2 ^ s.k)∧remGo s.items s.k id frm (2 ^ s.k - i) i ho t=removeT s id)
  (fun c X=>c=.exit 0∧∃ ho t,X=(b2,Cs [J frm] 3)::(b1,Cs [.pointer (some (Addr.mk cb 0 none))] 28)::(Rbl n12 n6 n4 tb cb tt id ho t++H)∧t.length=2 ^ s.k∧t=removeT s id)
  ⟨none,s.table,rfl,Nat.zero_le _,hk.tl,by simp,hrem.symm⟩ ?_ ?_ ?_ ?_
 ·rintro i X ⟨ho,t,rfl,_⟩
  exact ⟨.tail _ (.head _),.head _,_,_,rfl,.tail _ (.tail _ (up hk.c)),rfl⟩
 ·rintro l l' R post i W X hi ⟨ho,t,rfl,_,htl,hhl,hgo⟩ hs hl hl' hpost hret
  rw [f103_rd5_eq]
  refine ⟨rfl,?_⟩
  rw [f103_ra5_eq]
  refine ⟨hs.get (k:=0) rfl,?_⟩
  have h40:=hs.put (k:=0) rfl (.loop (R .busy none))
  have h40:St w0 _ ((l,.loop (R .busy none))::(l',.deferred (some []))::(b2,Cs [J frm] 3)::(b1,Cs [.pointer (some (Addr.mk cb 0 none))] 28)::(Rbl n12 n6 n4 tb cb tt id ho t++H)):=h40
  rw [f103_s6_eq]
  have hc:∀ {X:HBL} {x0 x1 x2 x3},(cb,Cs (CCs s ib hb rb tb) tc)∈(x0::x1::x2::x3::(X++H)):=fun {X x0 x1 x2 x3}=>.tail _ (.tail _ (.tail _ (.tail _ (List.mem_append_right _ hk.c))))
  have hii:∀ {X:HBL} {x0 x1 x2 x3},(ib,Obj.map ies iclk)∈(x0::x1::x2::x3::(X++H)):=fun {X x0 x1 x2 x3}=>.tail _ (.tail _ (.tail _ (.tail _ (List.mem_append_right _ hk.i))))
  have hmod:(frm+i) % 2 ^ s.k < t.length:=by rw [htl]; exact Nat.mod_lt _ (by omega)
  have hst:remGo s.items s.k id frm (2 ^ s.k - i) i ho t=remGo s.items s.k id frm ((2 ^ s.k - (i+1))+1) i ho t:=by rw [show 2 ^ s.k - i=(2 ^ s.k - (i+1))+1 by omega]
  rw [hst] at hgo
  have ready:∀ {W':World} {ho':Option Nat} {t':List Int},St w0 W' ((l,.loop (R .busy none))::(l',.deferred (some []))::(b2,Cs [J frm] 3)::(b1,Cs [.pointer (some (Addr.mk cb 0 none))] 28)::(Rbl n12 n6 n4 tb cb tt id ho' t'++H))→t'.length=2 ^ s.k→
    (∀ h,ho'=some h→h < 2 ^ s.k)→remGo s.items s.k id frm (2 ^ s.k - (i+1)) (i+1) ho' t'=removeT s id→W'.heap[l]?=some (.loop (R .busy none))∧post none (W'.putObj l (.loop (R .ready none))):=fun {W' ho' t'} hs h1 h2 h3=>by
   refine ⟨hs.get (k:=0) rfl,?_⟩
   have h43:=hs.put (k:=0) rfl (.loop (R .ready none))
   exact hpost _ _ ⟨ho',t',rfl,by omega,h1,h2,h3⟩ h43
  refine ⟨_,h40.cell (k:=4) rfl,?_⟩
  cases ho with
  | none=>
   have hlt:decide (holeV none < 0)=true:=rfl
   rw [hlt]
   simp only [BIf_true]
   have hst2:remGo s.items s.k id frm ((2 ^ s.k - (i+1))+1) i none t=if slotAt t ((frm+i) % 2 ^ s.k)=id then remGo s.items s.k id frm (2 ^ s.k - (i+1)) (i+1) (some ((frm+i) % 2 ^ s.k)) (t.set ((frm+i) % 2 ^ s.k) 0) else remGo s.items s.k id frm (2 ^ s.k - (i+1)) (i+1) none t:=rfl
   rw [hst2] at hgo
   generalize hj:(frm+i) % 2 ^ s.k=j at *
   have h41:=h40.drew
   refine ⟨_,h41.cell (k:=6) rfl,some ⟨tb,0,none⟩,2 ^ s.k,2 ^ s.k,by rw [add_lit',cell_of (h41.has _ _ hc)]; rfl,by omega,by omega,slotAt t j,?_,id,h41.cell (k:=5) rfl,?_⟩
   ·rw [Int.toNat_natCast,Nat.mul_one,add_lit',h41.cell (k:=7) rfl,Nat.zero_add,List.getElem?_map,slotAt_get hmod]; rfl
   rw [BIf_iff]
   refine ⟨fun hz=>?_,fun hz=>?_⟩
   ·have hz:slotAt t j=id:=by simpa using hz
    rw [if_pos hz] at hgo
    have h42:=h41.drew
    refine ⟨_,h42.cell (k:=6) rfl,some ⟨tb,0,none⟩,2 ^ s.k,2 ^ s.k,by rw [add_lit',cell_of (h42.has _ _ hc)]; rfl,?_⟩
    refine h42.st1 (k:=4) rfl (by simp) rfl fun w61 h61=>?_
    have h61:St w0 w61 ((l,.loop (R .busy none))::(l',.deferred (some []))::(b2,Cs [J frm] 3)::(b1,Cs [.pointer (some (Addr.mk cb 0 none))] 28)::(Rbl n12 n6 n4 tb cb tt id (some j) t++H)):=h61
    refine ⟨by rw [add_lit',cell_of (h61.has _ _ hc)]; rfl,h61.cell (k:=6) rfl,by omega,by omega,?_⟩
    show St1 ((Addr.mk tb 0 none).add _) _ _ _
    rw [add_lit',Int.toNat_natCast,Nat.mul_one,Nat.zero_add]
    refine h61.st1 (k:=7) rfl (by simpa using hmod) rfl fun w63 h63=>?_
    rw [f103_s7_eq]
    refine ready (ho':=some j) (t':=t.set j 0) ?_ (by simpa using htl) (fun h e=>by cases e; omega) hgo
    rw [Rbl,List.map_set]
    exact h63
   ·have hz:slotAt t j≠id:=by simpa using hz
    rw [if_neg hz] at hgo
    rw [f103_s7_eq]
    exact ready h41 htl hhl hgo
  | some hh'=>
   have hhh:=hhl hh' rfl
   have hlt:decide (holeV (some hh') < 0)=false:=by
    show decide ((hh':Int) < 0)=false
    simp
   rw [hlt]
   simp only [BIf_false]
   have hst2:remGo s.items s.k id frm ((2 ^ s.k - (i+1))+1) i (some hh') t=if slotAt t ((frm+i) % 2 ^ s.k)=0 then t
     else if far s.k (homeF s.k (itemOf s.items (slotAt t ((frm+i) % 2 ^ s.k))).at_) ((frm+i) % 2 ^ s.k:Nat) < far s.k hh' ((frm+i) % 2 ^ s.k:Nat) then remGo s.items s.k id frm (2 ^ s.k - (i+1)) (i+1) (some hh') t
     else remGo s.items s.k id frm (2 ^ s.k - (i+1)) (i+1) (some ((frm+i) % 2 ^ s.k)) ((t.set hh' (slotAt t ((frm+i) % 2 ^ s.k))).set ((frm+i) % 2 ^ s.k) 0):=rfl
   rw [hst2] at hgo
   generalize hj:(frm+i) % 2 ^ s.k=j at *
   refine ⟨_,h40.cell (k:=6) rfl,some ⟨tb,0,none⟩,2 ^ s.k,2 ^ s.k,by rw [add_lit',cell_of (h40.has _ _ hc)]; rfl,by omega,by omega,slotAt t j,?_,?_⟩
   ·rw [Int.toNat_natCast,Nat.mul_one,add_lit',h40.cell (k:=7) rfl,Nat.zero_add,List.getElem?_map,slotAt_get hmod]; rfl
   rw [BIf_iff]
   refine ⟨fun hz=>?_,fun hz=>?_⟩
   ·have hz:slotAt t j=0:=by simpa using hz
    rw [if_pos hz] at hgo
    refine ⟨h40.get (k:=0) rfl,?_⟩
    have h43:=h40.put (k:=0) rfl (.loop (R .done (some (.exit 0))))
    exact hret (.exit 0) _ _ ⟨rfl,some hh',t,rfl,htl,hgo⟩ h43
   ·have hz:slotAt t j≠0:=by simpa using hz
    rw [if_neg hz] at hgo
    rw [f103_s8_eq]
    have h41:=h40.drew
    have h42:=h41.drew
    obtain ⟨v,hv,hlk,_⟩:=hk.its.look (h42.has _ _ hii) (slotAt t j)
    obtain ⟨⟨sv,cv,rfl,_,_⟩,hb0,hb1⟩:=hv
    refine ⟨_,h41.cell (k:=4) rfl,_,h41.cell (k:=6) rfl,((2 ^ s.k:Nat):Int),by rw [add_lit',cell_of (h41.has _ _ hc)]; rfl,_,h42.cell (k:=6) rfl,_,h42.cell (k:=6) rfl,some ib,by rw [add_lit',cell_of (h42.has _ _ hc)]; rfl,_,h42.cell (k:=6) rfl,
     some ⟨tb,0,none⟩,2 ^ s.k,2 ^ s.k,by rw [add_lit',cell_of (h42.has _ _ hc)]; rfl,by omega,by omega,slotAt t j,?_,_,hlk,_,rfl,_,h42.cell (k:=6) rfl,((2 ^ s.k:Nat):Int),by rw [add_lit',cell_of (h42.has _ _ hc)]; rfl,?_⟩
    ·rw [Int.toNat_natCast,Nat.mul_one,add_lit',h42.cell (k:=7) rfl,Nat.zero_add,List.getElem?_map,slotAt_get hmod]; rfl
    have mm2:Bits ((l,.loop (R .busy none))::(l',.deferred (some []))::(b2,Cs [J frm] 3)::(b1,Cs [.pointer (some (Addr.mk cb 0 none))] 28)::(Rbl n12 n6 n4 tb cb tt id (some hh') t++H)):=by
     obtain ⟨t,ht⟩:=hk.bits
     exact ⟨t,.tail _ (.tail _ (.tail _ (.tail _ (List.mem_append_right _ ht))))⟩
    have hm:=home_lt hk.k4 hk.k16 (k:=s.k) hb0
    refine homeC_ok (s:=s) h42 hc rfl hk.k4 hk.k16 mm2 hb0 hb1 fun w94 h94=>⟨_,rfl,by rw [add_lit',cell_of (h94.has _ _ hc)]; rfl,h94.cell (k:=6) rfl,?_⟩
    have hjl:j < 2 ^ s.k:=by omega
    have e1:holeV (some hh')=(hh':Int):=rfl
    rw [f103_s9_eq,and_slotsI hk.k4 hk.k16 (x:=(j:Int) - holeV (some hh')) (by rw [e1]; omega) (by rw [e1]; omega),and_slotsI hk.k4 hk.k16 (x:=(j:Int) - homeF s.k (itemOf s.items (slotAt t j)).at_) (by omega) (by omega),BIf_iff]
    refine ⟨fun hb=>?_,fun hb=>?_⟩
    ·have hb:far s.k (homeF s.k (itemOf s.items (slotAt t j)).at_) j < far s.k hh' j:=of_decide_eq_true hb
     rw [if_pos hb] at hgo
     exact ready h94 htl hhl hgo
    ·have hb:¬ far s.k (homeF s.k (itemOf s.items (slotAt t j)).at_) j < far s.k hh' j:=of_decide_eq_false hb
     rw [if_neg hb] at hgo
     rw [f103_s10_eq]
     have h95:=h94.drew
     refine ⟨_,h95.cell (k:=6) rfl,some ⟨tb,0,none⟩,2 ^ s.k,2 ^ s.k,by rw [add_lit',cell_of (h95.has _ _ hc)]; rfl,_,h95.cell (k:=4) rfl,_,h95.cell (k:=6) rfl,some ⟨tb,0,none⟩,2 ^ s.k,2 ^ s.k,by rw [add_lit',cell_of (h95.has _ _ hc)]; rfl,
      _,h95.cell (k:=6) rfl,some ⟨tb,0,none⟩,2 ^ s.k,2 ^ s.k,by rw [add_lit',cell_of (h95.has _ _ hc)]; rfl,by omega,by omega,slotAt t j,?_,?_⟩
     ·rw [Int.toNat_natCast,Nat.mul_one,add_lit',h95.cell (k:=7) rfl,Nat.zero_add,List.getElem?_map,slotAt_get hmod]; rfl
     refine ⟨by rw [e1]; omega,by rw [e1]; omega,?_⟩
     show St1 ((Addr.mk tb 0 none).add _) _ _ _
     rw [add_lit',e1,Int.toNat_natCast,Nat.mul_one,Nat.zero_add]
     refine h95.st1 (k:=7) rfl (by simp; omega) rfl fun w117 h117=>⟨by omega,by omega,?_⟩
     show St1 ((Addr.mk tb 0 none).add _) _ _ _
     rw [add_lit',Int.toNat_natCast,Nat.mul_one,Nat.zero_add]
     refine h117.st1 (k:=7) rfl (by simp; omega) rfl fun w119 h119=>?_
     refine h119.st1 (k:=4) rfl (by simp) rfl fun w120 h120=>?_
     refine ready (ho':=some j) (t':=(t.set hh' (slotAt t j)).set j 0) ?_ (by simpa using htl) (fun h e=>by cases e; omega) hgo
     rw [Rbl,List.map_set,List.map_set]
     exact h120
 ·rintro W X l' hl' ⟨ho,t,rfl,_,htl,_,hgo⟩ hs
  show f103_rn5 (Addr.mk n12 0 none) (Addr.mk n4 0 none) (Addr.mk n6 0 none) [mk l'] W K
  rw [f103_rn5_eq]
  rw [Nat.sub_self] at hgo
  have hg:t=removeT s id:=by cases ho <;> exact hgo
  exact fin hl' htl hg hs
 ·rintro c W X l' hl' ⟨rfl,ho,t,rfl,htl,hgo⟩ hs
  show (f103_k5 K) (.exit 0) (Env.mk 105 [(4,(Value.pointer (some (Addr.mk n12 0 none)))),(2,(Value.pointer (some (Addr.mk n4 0 none)))),(3,(Value.pointer (some (Addr.mk n6 0 none))))] [mk l']) W
  rw [exit_103]
  exact fin hl' htl hgo hs
end Go.Fx.Tryz
namespace Go.Fx.Ch
theorem rd_sure {bs:List Int} {s:Rd} {n:Nat} (h:(rd bs s n).2.2=false):s.2=false∧(rd bs s n).2.1=s.1+n:=by
 unfold rd at h ⊢
 split at h
 ·cases h
 ·rename_i hg; rw [if_neg hg]; exact ⟨h,rfl⟩
theorem decV1_sure {bs:List Int} {s:HI × Rd}:∀ i,(decV1 bs i s).2.2=false→s.2.2=false
 | 0,h=>h
 | i+1,h=>decV1_sure i (rd_sure h).1
theorem decV_sure {fs:Nat} {bs:List Int} {s:HI × Rd} (h:(decV fs bs s).2.2=false):s.2.2=false:=by
 unfold decV at h
 split at h
 ·exact decV1_sure 4 h
 ·exact h
theorem setF_op (x:HI) (i:Nat) (v:Int):(setF x i v).op=x.op:=by unfold setF; split <;> rfl
theorem decI_op {fs:Nat} {bs:List Int} {s:HI × Rd}:∀ i,(decI fs bs i s).1.op=s.1.op
 | 0=>rfl
 | i+1=>by
  show (decS fs bs i (decI fs bs i s)).1.op=_
  unfold decS
  split
  ·rw [setF_op]; exact decI_op i
  ·exact decI_op i
theorem setV_op (x:HI) (i:Nat) (v:Int):(setV x i v).op=x.op:=by unfold setV; split <;> rfl
theorem decV1_op {bs:List Int} {s:HI × Rd}:∀ i,(decV1 bs i s).1.op=s.1.op
 | 0=>rfl
 | i+1=>by
  show (setV _ i _).op=_
  rw [setV_op]; exact decV1_op i
theorem decV_op {fs:Nat} {bs:List Int} {s:HI × Rd}:(decV fs bs s).1.op=s.1.op:=by
 unfold decV
 split
 ·exact decV1_op 4
 ·rfl
theorem decC_op {fs:Nat} {bs:List Int} {s:HI × Rd}:(decC fs bs s).1.op=s.1.op:=by unfold decC; split <;> rfl
theorem decA_op {fs:Nat} {bs:List Int} {s:HI × Rd}:(decA fs bs s).1.op=s.1.op:=by unfold decA; split <;> rfl
theorem decode_exit {bs:List Int} {x:HI} {n:Nat} (h:decode bs=some (x,n)) (hx:x.op=39∨x.op=40):4≤n:=by
 unfold decode at h
 dsimp only at h
 split at h
 ·cases h
 ·split at h
  ·cases h
  ·rename_i hno
   simp only [Option.some.injEq,Prod.mk.injEq] at h
   obtain ⟨h1,rfl⟩:=h
   have hsh:=Bool.eq_false_iff.2 (fun hh=>hno (.inl hh))
   have hop:x.op=(rd bs (0,false) 1).1:=by rw [← h1,decV_op,decC_op,decA_op,decI_op]
   have h512:has (formN (rd bs (0,false) 1).1).1 512=true:=by
    rw [← hop]
    rcases hx with hx | hx <;> rw [hx] <;> decide
   have hc:=decV_sure hsh
   refine Nat.le_trans ?_ decV_up
   generalize hy:decA (formN (rd bs (0,false) 1).1).1 bs (decI (formN (rd bs (0,false) 1).1).1 bs 8 ({ op:=(rd bs (0,false) 1).1 },(rd bs (0,false) 1).2))=y at hc ⊢
   unfold decC at hc ⊢
   rw [if_pos h512] at hc ⊢
   have:=(rd_sure hc).2
   show 4≤(rd bs y.2 4).2.1
   rw [this]
   omega
def Run (bs:List Int):Nat→List (HI × Nat)→Prop
 | a,[]=>a=bs.length
 | a,p::r=>p.2=a∧∃ n,decode (bs.drop a)=some (p.1,n)∧a+n≤bs.length∧Run bs (a+n) r
theorem allL_run {bs:List Int}:∀ (f a:Nat) (out l:List (HI × Nat)),allL bs f a out=some l→a≤bs.length→∃ r,l=out++r∧Run bs a r
 | 0,_,_,_,h,_=>by cases h
 | f+1,a,out,l,h,ha=>by
  unfold allL at h
  split at h
  ·rename_i hlt
   split at h
   ·cases h
   ·rename_i x n hd
    split at h
    ·cases h
    ·have hl:=decode_len hd
     rw [List.length_drop] at hl
     obtain ⟨r,rfl,hr⟩:=allL_run f (a+n) _ l h (by omega)
     exact ⟨(x,a)::r,by simp,rfl,n,hd,by omega,hr⟩
  ·rename_i hlt
   split at h
   ·cases h; exact ⟨[],by simp,by show a=bs.length; omega⟩
   ·cases h
theorem Run.at {bs:List Int}:∀ {a:Nat} {l:List (HI × Nat)},Run bs a l→∀ {i:Nat} {p:HI × Nat},l[i]?=some p→∃ n:Nat,decode (bs.drop p.2)=some (p.1,n)∧endAt bs.length l i=((p.2+n:Nat):Int)∧p.2+n≤bs.length
 | a,[],_,i,p,hp=>by simp at hp
 | a,q::r,⟨h1,n,h2,h3,h4⟩,0,p,hp=>by
  simp at hp
  subst hp
  subst h1
  refine ⟨n,h2,?_,h3⟩
  unfold endAt
  cases r with
  | nil=>simp at h4 ⊢; exact h4.symm ▸ rfl
  | cons q' r'=>
   simp only [List.getElem?_cons_succ,List.getElem?_cons_zero,Nat.zero_add]
   rw [h4.1]
 | a,q::r,⟨h1,n,h2,h3,h4⟩,i+1,p,hp=>by
  obtain ⟨m,e1,e2,e3⟩:=Run.at h4 (i:=i) (p:=p) (by simpa using hp)
  exact ⟨m,e1,by unfold endAt at e2 ⊢; simpa using e2,e3⟩
theorem exits_slot {bs:List Int} {l:List EX} (h:exitsF bs=some l) {e:EX} (he:e∈l):0≤e.slot∧e.slot+4≤bs.length:=by
 unfold exitsF at h
 cases ha:allF bs with
 | none=>rw [ha] at h; cases h
 | some al=>
  rw [ha] at h
  simp only [Option.map_some,Option.some.injEq] at h
  subst h
  unfold exitsL at he
  obtain ⟨i,_,hi⟩:=List.mem_filterMap.1 he
  have hrun:Run bs 0 al:=by
   unfold allF at ha
   split at ha
   ·cases ha
   ·obtain ⟨r,hr,hh⟩:=allL_run _ _ _ _ ha (Nat.zero_le _)
    simp at hr; subst hr; exact hh
  unfold exitAt at hi
  split at hi
  ·cases hi
  ·rename_i p hp
   split at hi
   ·cases hi
   ·rename_i hop
    simp only [Option.some.injEq] at hi
    subst hi
    obtain ⟨n,e1,e2,e3⟩:=hrun.at hp
    have h4:=decode_exit e1 (by simp at hop; omega)
    rw [e2]
    dsimp only
    omega
end Go.Fx.Ch
namespace Go.Fx.Tryz
open Go Go.Fx Go.Fx.Ch
open Go.Proofs
set_option linter.all false
set_option maxRecDepth 20000
variable {w0 w:World} {H:HBL} {K:KT} {ov:Value} {bs:List Int}
theorem setRow_of {g:Nat} {cs:List Value} {t:TypeId} (v:Array Value) (h:w.heap[g]?=some (Cs cs t)):w.setRow g v=w.putObj g (Cs v.toList t):=by
 unfold World.setRow World.putObj
 congr 1
 apply Array.ext_getElem?
 intro c
 rw [Array.getElem?_modify,Array.getElem?_setIfInBounds]
 obtain ⟨hlt,he⟩:=Array.getElem?_eq_some_iff.1 h
 by_cases hbc:g=c
 ·subst hbc
  simp [hlt,he,Cs]
 ·simp [hbc]
theorem patch_ok {gcs:List Value} {gt:TypeId} (h:St w0 w H) (hB:Bytes w0 H ov bs) (hg:(0,Cs gcs gt)∈H) (ht:Table gcs) {slot c:Int} (hc0:0≤c) (hc1:c < 4294967296)
  (hF:∀ w',St w0 w' H→exitsF bs=none→K (.tuple [.slice none 0 0,J 170].toArray) w')
  (hN:∀ w' l,St w0 w' H→exitsF bs=some l→(l.any fun e=>e.slot == slot)=false→K (.tuple [.slice none 0 0,J 1].toArray) w')
  (hK:∀ w' a cp L l,exitsF bs=some l→(l.any fun e=>e.slot == slot)=true→SlO 1 5 (.slice a bs.length cp) bs.length ((patchB bs slot.toNat c).map B) L→New w0 L→St w0 w' (L++H)→K (.tuple [.slice a bs.length cp,J 0].toArray) w') :
  CallL P 123 [ov,J slot,U c] w K:=by
 obtain ⟨sa,sc,rfl⟩:=(hB.row w h).form
 refine f123_ok _ _ _ _ _ _ _ ?_
 rw [f123_eq]
 refine h.newC fun n3 w4 hn3 h4=>?_
 have h4:St w0 w4 ((n3,Cs [J slot] 3)::H):=h4
 have up:∀ {X:HBL},New w0 X→Bytes w0 (X++H) (.slice sa bs.length sc) bs:=fun hX=>⟨fun w' h'=>hB.row w' (h'.sub hX),hB.byte,hB.len,hB.cap⟩
 have nw:New w0 [(n3,Cs [J slot] 3)]:=fun x hx=>by rw [List.mem_singleton.1 hx]; exact hn3
 have hB1:Bytes w0 ((n3,Cs [J slot] 3)::H) (.slice sa bs.length sc) bs:=up nw
 refine exits_ok h4 hB1 (.tail _ hg) ht (fun w6 h6 hn=>⟨_,_,_,_,rfl,?_⟩) fun w6 xa xc L l hl hll h6 hLN hS=>⟨_,_,_,_,rfl,?_⟩
 ·simp only [show ((170:Int) != 0)=true from rfl,BIf_true]
  exact hF w6 (h6.tail hn3) hn
 simp only [show ((0:Int) != 0)=false from rfl,BIf_false]
 rw [f123_s0_eq]
 have h6':St w0 w6 (L++((n3,Cs [J slot] 3)::H)):=h6
 refine contains56_ok (l:=l) h6' (fun w' h'=>hS.row fun u hu=>h'.has _ _ (List.mem_append_left _ hu)) (by have:=hB.len; omega) (asks158 (t:=3) (List.mem_append_right _ (.head _))) fun w14 h14=>⟨_,rfl,?_⟩
 have h15:St w0 w14 ((n3,Cs [J slot] 3)::H):=h14.sub hLN
 rw [BIf_iff]
 refine ⟨fun hb=>?_,fun hb=>?_⟩
 ·exact hN w14 l (h15.tail hn3) hl (by simpa using hb)
 have hany:(l.any fun e=>e.slot == slot)=true:=by simpa using hb
 obtain ⟨e,he,hes⟩:=List.any_eq_true.1 hany
 have hsl:e.slot=slot:=by simpa using hes
 have hrange:=exits_slot hl he
 rw [hsl] at hrange
 obtain ⟨k,rfl⟩:=Int.eq_ofNat_of_zero_le hrange.1
 have hk4:k+4≤bs.length:=by omega
 rw [f123_s1_eq]
 refine clone109_ok h15 hB1 fun w20 ov' M hMS hMN h20=>?_
 rcases hMS.2 with ⟨_,h0,_⟩ | ⟨g,cap,cur,rfl,rfl,hnc,hcm,hcl,htk⟩
 ·omega
 have h20:St w0 w20 ((g,Cs cur 5)::(n3,Cs [J k] 3)::H):=h20
 have hg0:w0.heap.size≤g:=hMN (g,Cs cur 5) (.head _)
 have h21:=h20.drew
 refine ⟨_,_,_,rfl,(k:Int),h21.cell (k:=1) rfl,_,_,_,fun wq=>slice38 (a:=⟨g,0,none⟩) (k:=k) (by omega) hnc wq,?_⟩
 refine word32_ok h21 hc0 hc1 fun w25 ov2 L2 hS2 hN2 h25=>?_
 rcases hS2.2 with ⟨_,h0,_⟩ | ⟨g2,cap2,cur2,rfl,rfl,hnc2,hcm2,hcl2,htk2⟩
 ·omega
 have h25:St w0 w25 ((g2,Cs cur2 5)::(g,Cs cur 5)::(n3,Cs [J k] 3)::H):=h25
 have hg2:w0.heap.size≤g2:=hN2 (g2,Cs cur2 5) (.head _)
 refine ⟨_,_,_,rfl,h25.cell (k:=2) rfl,?_⟩
 have hl4:((le4 c).map B).length=4:=rfl
 have hrun:=run_copy_row (P:=P) w25 38 38 3 5 g k (bs.length - k) (cap - k) ⟨g2,0,none⟩ 4 cap2 cur.toArray 5 ((le4 c).map B) Tryz.underlying38 (by kernel_rfl) (h25.has g (Cs cur 5) (.tail _ (.head _)))
  (by rw [hl4]; show 4=min 4 (bs.length - k); omega)
  (fun j v hv=>by
   have hj:j < 4:=by have:=(List.getElem?_eq_some_iff.1 hv).1; rw [hl4] at this; exact this
   rw [add_lit',Nat.zero_add,cell_of (h25.has g2 (Cs cur2 5) (.head _)),← hv,← htk2,List.getElem?_take,if_pos (by omega)])
  (by rw [hl4]; simp only [List.size_toArray,hcl]; omega) (one_B _)
 have hadd:(Addr.add ⟨g,0,none⟩ k)=⟨g,k,none⟩:=by rw [add_lit',Nat.zero_add]
 rw [hadd]
 refine ⟨_,_,hrun,?_⟩
 rw [setRow_of _ (h25.has g (Cs cur 5) (.tail _ (.head _))),f123_s2_eq]
 have h28:=h25.put (k:=1) rfl (Cs (cur.toArray.toList.take k++(le4 c).map B++cur.toArray.toList.drop (k+((le4 c).map B).length)).toArray.toList 5)
 rw [hl4] at h28 ⊢
 have h29:St w0 _ ((g,Cs (cur.take k++(le4 c).map B++cur.drop (k+4)) 5)::(n3,Cs [J k] 3)::H):=St.tail h28 hg2
 have h30:=(h29.perm (List.Perm.swap _ _ _)).tail hn3
 refine hK _ (some ⟨g,0,none⟩) cap [(g,Cs (cur.take k++(le4 c).map B++cur.drop (k+4)) 5)] l hl hany ⟨?_,.inr ⟨g,cap,_,rfl,rfl,hnc,hcm,?_,?_⟩⟩ (fun x hx=>by rw [List.mem_singleton.1 hx]; exact hg0) h30
 ·simp only [patchB,List.map_append,List.length_append,List.length_map,List.length_take,List.length_drop,Int.toNat_natCast]
  show min k bs.length+4+(bs.length - (k+4))=bs.length * 1
  omega
 ·simp only [List.length_append,List.length_take,List.length_drop,hl4,hcl]
  omega
 ·rw [Nat.mul_one] at htk ⊢
  simp only [patchB,List.map_append,List.map_take,List.map_drop,Int.toNat_natCast,← htk]
  rw [List.take_append,List.take_append,List.length_append,List.length_take,hl4,List.take_of_length_le (l:=List.take k cur) (by simp; omega),List.take_of_length_le (l:=(le4 c).map B) (by rw [hl4]; simp [hcl]; omega)]
  rw [List.take_take,List.drop_take,show min k bs.length=k by omega,show min k cur.length=k by rw [hcl]; omega,show bs.length - (k+4)=bs.length - (k+4) from rfl]
end Go.Fx.Tryz
namespace Go.Fx
open Go Go.Fx.Ch
variable {P:Program} {K:Type} [DecidableEq K] {V:Type}
theorem delete_nil {enc:K→Value} {kt:TypeId} (kl:KeyT P kt enc) {T et:TypeId} (hT:P.underlying T=some (.map kt et)) (k:K) (ty:TypeId) (w:World) :
  (Builtin.delete_ #[T,kt] ty #[.map none,enc k]).run P w=.ok (.tuple #[]) w:=by
 simp [Builtin.delete_,run_underlying hT,kl.check,Result.andThen]
theorem len_nil {T kt et:TypeId} (hT:P.underlying T=some (.map kt et)) (t:TypeId) (w:World):(Builtin.len_ #[T] t [Value.map none].toArray).run P w=.ok (.int .i64 0) w:=by
 simp [Builtin.len_,goInt,run_underlying hT]
theorem lk_split {m:List (K × V)} {k:K} {v:V} (h:lk m k=some v):∃ a b,m=a++(k,v)::b∧∀ p∈a,p.1≠k:=by
 unfold lk at h
 cases hf:m.find? fun p=>p.1 == k with
 | none=>rw [hf] at h; simp at h
 | some q=>
  rw [hf] at h
  simp only [Option.map_some,Option.some.injEq] at h
  obtain ⟨h1,a,b,h2,h3⟩:=List.find?_eq_some_iff_append.1 hf
  have hq:q.1=k:=by simpa using h1
  refine ⟨a,b,?_,fun p hp=>by simpa using h3 p hp⟩
  rw [h2,← hq,← h]
theorem lk_none {m:List (K × V)} {k:K}:lk m k=none↔∀ p∈m,p.1≠k:=by simp [lk]
theorem lk_mid {a b:List (K × V)} {k:K} {v:V} (ha:∀ p∈a,p.1≠k):lk (a++(k,v)::b) k=some v:=by
 unfold lk
 rw [List.find?_append,List.find?_eq_none.2 fun p hp=>by simpa using ha p hp]
 simp
theorem pt_mid {a b:List (K × V)} {k:K} {v u:V} (ha:∀ p∈a,p.1≠k) (hb:∀ p∈b,p.1≠k):pt (a++(k,v)::b) k u=a++(k,u)::b:=by
 unfold pt
 rw [lk_mid ha]
 have h1:∀ l:List (K × V),(∀ p∈l,p.1≠k)→(l.map fun p=>if p.1=k then (p.1,u) else p)=l:=fun l hl=>by
  rw [List.map_congr_left (g:=id) fun p hp=>by rw [if_neg (hl p hp)]; rfl]
  simp
 simp only [List.map_append,List.map_cons,h1 a ha,h1 b hb,if_true]
theorem dl_mid {a b:List (K × V)} {k:K} {v:V} (ha:∀ p∈a,p.1≠k) (hb:∀ p∈b,p.1≠k):dl (a++(k,v)::b) k=a++b:=by
 unfold dl
 rw [List.filter_append,List.filter_cons,if_neg (by simp),List.filter_eq_self.2 fun p hp=>by simpa using ha p hp,List.filter_eq_self.2 fun p hp=>by simpa using hb p hp]
theorem dl_none {m:List (K × V)} {k:K} (h:lk m k=none):dl m k=m:=by
 unfold dl
 exact List.filter_eq_self.2 fun p hp=>by simpa using lk_none.1 h p hp
theorem pt_none {m:List (K × V)} {k:K} {v:V} (h:lk m k=none):pt m k v=m++[(k,v)]:=by unfold pt; rw [h]
end Go.Fx
namespace Go.Fx.Tryz
open Go Go.Fx Go.Fx.Ch
open Go.Proofs
set_option linter.all false
set_option maxRecDepth 20000
variable {w0 w:World} {H G:HBL} {K:KT} {s:CState}
structure HE where
 key:Int
 b:Nat
 es:Array MapEntry
 clk:Nat
 l:List PL
def HE.blk (e:HE):Nat × Obj:=(e.b,.map e.es e.clk)
structure LB where
 cb:Nat
 ib:Nat
 hb:Nat
 rb:Nat
 tb:Nat
structure Lay where
 ies:Array MapEntry
 iclk:Nat
 hes:Array MapEntry
 hclk:Nat
 hl:List HE
 rv:List (Value × List (Nat × Obj))
 G:List (Nat × Obj)
def Lay.rest (L:Lay):List (Nat × Obj):=(L.rv.map (·.2)).flatten++(L.hl.map HE.blk++L.G)
def Lay.b4 (L:Lay) (q:LB) (s:CState):List (Nat × Obj):=(q.cb,Cs (CCs s q.ib q.hb q.rb q.tb) 109)::(q.ib,.map L.ies L.iclk)::(q.hb,.map L.hes L.hclk)::(q.rb,Cs (L.rv.map (·.1)) 22)::L.rest
def Lay.bl (L:Lay) (q:LB) (s:CState):List (Nat × Obj):=(q.tb,Cs (s.table.map U) 24)::L.b4 q s
def RowsAt:List (List Int)→List (Value × List (Nat × Obj))→Prop
 | [],[]=>True
 | r::rs,v::vs=>SlO 1 24 v.1 r.length (r.map U) v.2∧RowsAt rs vs
 | _,_=>False
theorem RowsAt.split:∀ {rs:List (List Int)} {vs:List (Value × List (Nat × Obj))},RowsAt rs vs→∀ {i:Nat} {r:List Int},rs[i]?=some r→
  ∃ a v b,vs=a++v::b∧a.length=i∧SlO 1 24 v.1 r.length (r.map U) v.2∧∀ r' v',SlO 1 24 v'.1 r'.length (r'.map U) v'.2→RowsAt (rs.set i r') (a++v'::b)
 | [],[],_,i,r,h=>by simp at h
 | r0::rs,v0::vs,h,0,r,hr=>by
  cases hr
  exact ⟨[],v0,vs,rfl,rfl,h.1,fun r' v' hv=>⟨hv,h.2⟩⟩
 | r0::rs,v0::vs,h,i+1,r,hr=>by
  obtain ⟨a,v,b,rfl,h2,h3,h4⟩:=RowsAt.split h.2 hr
  exact ⟨v0::a,v,b,rfl,by simp [h2],h3,fun r' v' hv=>⟨h.1,h4 r' v' hv⟩⟩
theorem SlO.lt {size:Nat} {e:TypeId} {ov:Value} {n:Nat} {xs:List Value} {N:HBL} (h:SlO size e ov n xs N):n < 9223372036854775808:=by
 rcases h.2 with ⟨_,h1,_⟩ | ⟨_,_,_,_,_,h3,h4,_⟩
 ·omega
 ·have:maxLen=9223372036854775807:=by decide
  omega
structure Glob (H:HBL):Prop where
 tab:∃ gcs gt,(0,Cs gcs gt)∈H∧Table gcs
 bits:Bits H
theorem Glob.mono {H':HBL} (h:Glob H) (hH:∀ u∈H,u∈H'):Glob H':=by
 obtain ⟨⟨a,b,h1,h2⟩,t,h3⟩:=h
 exact ⟨⟨a,b,hH _ h1,h2⟩,t,hH _ h3⟩
structure Lay.Ok (w0:World) (q:LB) (L:Lay) (s:CState):Prop where
 nc:w0.heap.size≤q.cb
 ni:w0.heap.size≤q.ib
 nh:w0.heap.size≤q.hb
 nr:w0.heap.size≤q.rb
 nt:w0.heap.size≤q.tb
 new:New w0 L.rest
 its:ItemsAt L.G L.ies L.iclk s.items
 hm:MapIs encN L.hes L.hclk (L.hl.map fun e=>(e.key,Value.map (some e.b)))
 hs:s.hold=L.hl.map fun e=>(e.key,e.l)
 inn:∀ e∈L.hl,MapIs encP e.es e.clk (e.l.map fun p=>(p,Value.bool true))
 rows:RowsAt s.rows L.rv
 k4:4≤s.k
 k16:s.k≤16
 tl:s.table.length=2 ^ s.k
 rl:s.rows.length < 1000000
 cur:s.cur < s.rows.length
variable {L:Lay} {q:LB}
theorem Lay.Ok.known (h:L.Ok w0 q s) (hg:Glob H):Known (L.bl q s++H) L.G s q.cb q.ib q.hb q.rb q.tb L.ies L.iclk 109 24:=
 ⟨⟨.tail _ (.head _),.tail _ (.tail _ (.head _)),by obtain ⟨t,ht⟩:=hg.bits; exact ⟨t,List.mem_append_right _ ht⟩,h.its,h.k4,h.k16,h.tl⟩,.head _⟩
theorem Lay.Ok.knownC (h:L.Ok w0 q s) (hg:Glob H):KnownC (L.b4 q s++H) L.G s q.cb q.ib q.hb q.rb q.tb L.ies L.iclk 109:=
 ⟨.head _,.tail _ (.head _),by obtain ⟨t,ht⟩:=hg.bits; exact ⟨t,List.mem_append_right _ ht⟩,h.its,h.k4,h.k16,h.tl⟩
theorem Lay.Ok.newB (h:L.Ok w0 q s):New w0 (L.bl q s):=by
 intro x hx
 simp only [Lay.bl,Lay.b4,List.mem_cons] at hx
 rcases hx with rfl | rfl | rfl | rfl | rfl | hx
 ·exact h.nt
 ·exact h.nc
 ·exact h.ni
 ·exact h.nh
 ·exact h.nr
 ·exact h.new x hx
theorem Lay.G_mem (L:Lay) (q:LB) (s:CState):∀ u∈L.G,u∈L.bl q s:=fun u hu=>.tail _ (.tail _ (.tail _ (.tail _ (.tail _ (List.mem_append_right _ (List.mem_append_right _ hu))))))
theorem New.append {A B:HBL} (ha:New w0 A) (hb:New w0 B):New w0 (A++B):=fun x hx=>by
 rcases List.mem_append.1 hx with h | h
 ·exact ha x h
 ·exact hb x h
theorem New.left {A B:HBL} (h:New w0 (A++B)):New w0 A:=fun x hx=>h x (List.mem_append_left _ hx)
theorem New.right {A B:HBL} (h:New w0 (A++B)):New w0 B:=fun x hx=>h x (List.mem_append_right _ hx)
theorem patchB_length {bs:List Int} {slot:Nat} {c:Int} (h:slot+4≤bs.length):(patchB bs slot c).length=bs.length:=by
 simp [patchB,le4]; omega
theorem patchB_byte {bs:List Int} {slot:Nat} {c:Int} (h:∀ b∈bs,0≤b∧b < 256):∀ b∈patchB bs slot c,0≤b∧b < 256:=by
 intro b hb
 simp only [patchB,List.mem_append] at hb
 rcases hb with (hb | hb) | hb
 ·exact h b (List.mem_of_mem_take hb)
 ·simp only [le4,List.mem_cons,List.not_mem_nil,or_false] at hb
  rcases hb with rfl | rfl | rfl | rfl <;> exact ⟨Int.emod_nonneg _ (by decide),Int.emod_lt_of_pos _ (by decide)⟩
 ·exact h b (List.mem_of_mem_drop hb)
theorem exits102_ok (h:St w0 w (L.bl q s++H)) (hL:L.Ok w0 q s) (hg:Glob H) (id:Int)
  (hK:∀ w' a c N,(exitsS s.items id).length < 1000000→St w0 w' (N++(L.bl q s++H))→New w0 N→SlO 5 62 (.slice a (exitsS s.items id).length c) (exitsS s.items id).length ((exitsS s.items id).map Xc).flatten N→K (.slice a (exitsS s.items id).length c) w'):CallL P 102 [.pointer (some ⟨q.cb,0,none⟩),U id] w K:=by
 refine f102_ok _ _ _ _ ?_
 rw [f102_eq]
 have hk:=hL.known hg
 obtain ⟨v,hv,hlk,_⟩:=hk.its.look (h.has _ _ hk.i) id
 obtain ⟨⟨sv,cv,rfl,_,hB⟩,_,_⟩:=hv
 obtain ⟨⟨gcs,gt,hg1,hg2⟩,_⟩:=hg
 have hB:=hB.bytes (w0:=w0) (H:=L.bl q s++H) fun u hu=>List.mem_append_left _ (L.G_mem q s u hu)
 obtain ⟨ca,cc,rfl⟩:=(hB.row w h).form
 refine ⟨some q.ib,by rw [add_lit',cell_of (h.has _ _ hk.c)]; rfl,_,hlk,_,_,_,rfl,?_⟩
 unfold exitsS at hK
 refine exits_ok h hB (List.mem_append_right _ hg1) hg2 (fun w6 h6 hn=>⟨_,_,_,_,rfl,?_⟩) fun w6 xa xc N l hl hll h6 hLN hS=>⟨_,_,_,_,rfl,?_⟩
 ·rw [hn] at hK
  exact hK w6 none 0 [] (by decide) h6 (New.nil _) (SlO.nil 5 62)
 ·rw [hl] at hK
  exact hK w6 xa xc N (by have:=hB.len; simp only [Option.getD_some]; omega) h6 hLN hS
theorem Lay.Ok.addG (h:L.Ok w0 q s) {N:HBL} (hN:New w0 N):({ L with G:=N++L.G }:Lay).Ok w0 q s where
 nc:=h.nc
 ni:=h.ni
 nh:=h.nh
 nr:=h.nr
 nt:=h.nt
 new:=New.append (New.left h.new) (New.append (New.left (New.right h.new)) (New.append hN (New.right (New.right h.new))))
 its:=h.its.mono fun u hu=>List.mem_append_right _ hu
 hm:=h.hm
 hs:=h.hs
 inn:=h.inn
 rows:=h.rows
 k4:=h.k4
 k16:=h.k16
 tl:=h.tl
 rl:=h.rl
 cur:=h.cur
theorem Lay.addG {A N:HBL} (h:St w0 w (N++(A++(L.bl q s++H)))):St w0 w (A++(({ L with G:=N++L.G }:Lay).bl q s++H)):=
 h.perm (perm_by fun c=>by simp only [Lay.bl,Lay.b4,Lay.rest,List.cons_append,List.map_append,List.map_cons,List.sum_append,List.sum_cons]; omega)
theorem ItemsAt.update {es:Array MapEntry} {clk:Nat} {items:List (Int × TR)} (h:ItemsAt G es clk items) {v:Value} {t:TR} (hv:TrOk G v t) {b:Nat} (hb:w.heap[b]?=some (.map es clk)) (id:Int) :
  ∃ es' clk',(Instr.mapUpdate 105 (.map (some b)) (U id) v).run P w=.ok () (w.putObj b (.map es' clk'))∧ItemsAt G es' clk' (pt items id t):=by
 obtain ⟨m,h1,h2⟩:=h
 obtain ⟨es',clk',h3,h4⟩:=h1.update keyT_u32 (by kernel_rfl:P.underlying 105=some (.map 24 41)) hb id v
 exact ⟨es',clk',h3,putM m id v,h4,by rw [putM_pt]; exact h2.pt hv⟩
theorem ItemsAt.delete {es:Array MapEntry} {clk:Nat} {items:List (Int × TR)} (h:ItemsAt G es clk items) {b:Nat} (hb:w.heap[b]?=some (.map es clk)) (id:Int) (ty:TypeId) :
  ∃ es',(Builtin.delete_ #[105,24] ty #[.map (some b),U id]).run P w=.ok (.tuple #[]) (w.putObj b (.map es' clk))∧ItemsAt G es' clk (dl items id):=by
 obtain ⟨m,h1,h2⟩:=h
 obtain ⟨es',h3,h4⟩:=h1.delete keyT_u32 (by kernel_rfl:P.underlying 105=some (.map 24 41)) hb id ty
 exact ⟨es',h3,delM m id,h4,by rw [delM_dl]; exact h2.dl⟩
theorem Lay.Ok.items (h:L.Ok w0 q s) {es:Array MapEntry} {clk:Nat} {items:List (Int × TR)} (hi:ItemsAt L.G es clk items):({ L with ies:=es,iclk:=clk }:Lay).Ok w0 q { s with items:=items }:=
 ⟨h.nc,h.ni,h.nh,h.nr,h.nt,h.new,hi,h.hm,h.hs,h.inn,h.rows,h.k4,h.k16,h.tl,h.rl,h.cur⟩
theorem zcells41:zcells P 41=#[U 0,.slice none 0 0,.slice none 0 0]:=by kernel_rfl
theorem patch80_ok (h:St w0 w (L.bl q s++H)) (hL:L.Ok w0 q s) (hg:Glob H) {p:PL} {c:Int} (hc0:0≤c) (hc1:c < 4294967296)
  (hK:∀ (w':World) (L':Lay),L'.Ok w0 q { s with items:=patchS s.items p c }→St w0 w' (L'.bl q { s with items:=patchS s.items p c }++H)→K (.tuple [].toArray) w'):CallL P 80 [.pointer (some ⟨q.cb,0,none⟩),encP p,U c] w K:=by
 refine f80_ok _ _ _ _ _ ?_
 rw [f80_eq]
 refine h.newC fun n3 w4 hn3 h4=>?_
 have h4:St w0 w4 ((n3,Cs [U p.1,J p.2] 142)::(L.bl q s++H)):=h4
 have h5:=h4.drew
 have hk:=hL.known hg
 obtain ⟨⟨gcs,gt,hg1,hg2⟩,hbits⟩:=hg
 obtain ⟨v,hv,hlk,_⟩:=hk.its.look (h5.has _ _ (.tail _ hk.i)) p.1
 obtain ⟨⟨sv,cv,rfl,hS,hB0⟩,ha0,ha1⟩:=hv
 refine ⟨some q.ib,by rw [add_lit',cell_of (h5.has _ _ (.tail _ hk.c))]; rfl,p.1,h5.cell (k:=0) rfl,_,hlk,?_⟩
 obtain ⟨sa,sc,e1⟩:=((hS.spans (w0:=w0) (H:=L.bl q s++H) fun u hu=>List.mem_append_left _ (L.G_mem q s u hu)).row w h).form
 obtain ⟨ca,cc,e2⟩:=((hB0.bytes (w0:=w0) (H:=L.bl q s++H) fun u hu=>List.mem_append_left _ (L.G_mem q s u hu)).row w h).form
 subst e1; subst e2
 generalize ht:itemOf s.items p.1=t at *
 rw [zcells41]
 refine h5.newC fun n9 w10 hn9 h10=>?_
 have h10:St w0 w10 ((n9,Cs [U 0,.slice none 0 0,.slice none 0 0] 41)::(n3,Cs [U p.1,J p.2] 142)::(L.bl q s++H)):=h10
 refine h10.stA (k:=0) rfl rfl (by simp) (by simp [Tcs,Value.oneCell']) fun w11 h11=>?_
 have h11:St w0 w11 ((n9,Cs (Tcs t.at_ (.slice sa t.sp.length sc) (.slice ca t.code.length cc)) 41)::(n3,Cs [U p.1,J p.2] 142)::(L.bl q s++H)):=h11
 rw [f80_s0_eq]
 have fin:∀ {w19:World} {L1:Lay} {a':Option Addr} {n' c':Nat} {bs':List Int},L1.Ok w0 q s→SpansM L1.G (.slice sa t.sp.length sc) t.sp→BytesM L1.G (.slice a' n' c') bs'→bs'=patchF t.code p.2 c→
   St w0 w19 ((n9,Cs (Tcs t.at_ (.slice sa t.sp.length sc) (.slice ca t.code.length cc)) 41)::(n3,Cs [U p.1,J p.2] 142)::(L1.bl q s++H))→
   St1 ((Addr.mk n9 0 none).add 2) (.slice a' n' c') w19 (fun w22=>optS (some (Addr.mk q.cb 0 none)) (fun a23:Addr=>∃ m24:Option Nat,w22.drew.cell? (a23.add 3)=some (Value.map m24)∧∃ x25:Int,w22.drew.cell? (Addr.mk n3 0 none)=some (U x25)∧LdA 3 (Addr.mk n9 0 none) w22.drew (fun cs26=>∃ w27:World,(Instr.mapUpdate 105 (.map m24) (U x25) (.agg cs26)).run P w22.drew=.ok () w27∧K (.tuple [].toArray) w27))):=by
  intro w19 L1 a' n' c' bs' hL1 hS1 hB1 hbs h19
  rw [add_lit']
  refine h19.st1 (k:=0) rfl (by simp [Tcs]) rfl fun w22 h22=>?_
  have h22:St w0 w22 ((n9,Cs (Tcs t.at_ (.slice sa t.sp.length sc) (.slice a' n' c')) 41)::(n3,Cs [U p.1,J p.2] 142)::(L1.bl q s++H)):=h22
  have h23:=h22.drew
  refine ⟨some q.ib,by rw [add_lit']; exact h23.cell (k:=3) rfl,p.1,h23.cell (k:=1) rfl,?_⟩
  refine h23.ldA (k:=0) rfl (by simp [Tcs]) ?_
  have hv':TrOk L1.G (.agg (Tcs t.at_ (.slice sa t.sp.length sc) (.slice a' n' c')).toArray) { t with code:=bs' }:=⟨⟨_,_,rfl,hS1,hB1⟩,ha0,ha1⟩
  obtain ⟨es',clk',hr,hit⟩:=hL1.its.update hv' (h23.get (k:=4) rfl) p.1
  refine ⟨_,hr,?_⟩
  have h27:=h23.put (k:=4) rfl (.map es' clk')
  have hst:pt s.items p.1 { t with code:=bs' }=patchS s.items p c:=by unfold patchS; rw [ht,hbs]
  rw [hst] at hit
  exact hK _ _ (hL1.items hit) ((h27.tail hn9).tail hn3)
 refine ⟨ca,t.code.length,cc,by rw [add_lit']; exact h11.cell (k:=0) rfl,p.2,by rw [add_lit']; exact h11.cell (k:=1) rfl,?_⟩
 refine patch_ok (bs:=t.code) h11 (hB0.bytes fun u hu=>.tail _ (.tail _ (List.mem_append_left _ (L.G_mem q s u hu)))) (.tail _ (.tail _ (List.mem_append_right _ hg1))) hg2 hc0 hc1 (fun w6 h6 hn=>⟨_,_,_,_,rfl,?_⟩) (fun w6 l h6 hl hn=>⟨_,_,_,_,rfl,?_⟩) fun w6 xa xc N l hl hany hSN hN h6=>⟨_,_,_,_,rfl,?_⟩
 ·refine fin (bs':=[]) hL hS ⟨fun w' _=>(SlO.nil 1 5).row (by simp),by simp,by decide,fun a n c e=>by cases e; exact Nat.le_refl _⟩ ?_ h6
  unfold patchF; rw [hn]
 ·refine fin (bs':=[]) hL hS ⟨fun w' _=>(SlO.nil 1 5).row (by simp),by simp,by decide,fun a n c e=>by cases e; exact Nat.le_refl _⟩ ?_ h6
  unfold patchF; rw [hl]; simp [hn]
 ·have h7:=Lay.addG (A:=[(n9,Cs (Tcs t.at_ (.slice sa t.sp.length sc) (.slice ca t.code.length cc)) 41),(n3,Cs [U p.1,J p.2] 142)]) h6
  obtain ⟨e,he,hes⟩:=List.any_eq_true.1 hany
  have hsl:e.slot=p.2:=by simpa using hes
  have hrange:=exits_slot hl he
  rw [hsl] at hrange
  have hlen:(patchB t.code p.2.toNat c).length=t.code.length:=patchB_length (by omega)
  have hb':=patchB_byte (slot:=p.2.toNat) (c:=c) hB0.byte
  rw [← hlen] at hSN
  have hf:=fin (hL.addG hN) (hS.mono fun u hu=>List.mem_append_right _ hu) ((BytesM.of hSN hb' (by rw [hlen]; exact hB0.len)).mono fun u hu=>List.mem_append_left _ hu) (by unfold patchF; rw [hl]; simp [hany]) h7
  rw [hlen] at hf
  exact hf
end Go.Fx.Tryz
namespace Go.Fx.Tryz
open Go Go.Fx Go.Fx.Ch
open Go.Proofs
set_option linter.all false
set_option maxRecDepth 20000
variable {w0 w:World} {H G:HBL} {K:KT} {s:CState} {L:Lay} {q:LB}
theorem u107:P.underlying 107=some (.map 24 124):=by kernel_rfl
theorem u124:P.underlying 124=some (.map 142 4):=by kernel_rfl
theorem zero124 (w:World):(zeroValue 124).run P w=.ok (.map none) w:=by kernel_rfl
abbrev trues (l:List PL):List (PL × Value):=l.map fun p=>(p,Value.bool true)
theorem trues_none {l:List PL} {p:PL}:lookM (trues l) p=none↔p ∉ l:=by
 rw [lookM_none]
 constructor
 ·intro h hp
  exact h _ (List.mem_map.2 ⟨p,hp,rfl⟩) rfl
 ·intro h x hx e
  obtain ⟨y,hy,rfl⟩:=List.mem_map.1 hx
  exact h (e ▸ hy)
theorem trues_put (l:List PL) (p:PL):putM (trues l) p (.bool true)=trues (if p∈l then l else l++[p]):=by
 unfold putM
 by_cases hp:p∈l
 ·rw [if_pos hp]
  cases h:lookM (trues l) p with
  | none=>exact absurd hp (trues_none.1 h)
  | some v=>
   simp only
   unfold trues
   rw [List.map_map]
   apply List.map_congr_left
   intro x _
   simp only [Function.comp_def]
   split <;> rfl
 ·rw [if_neg hp,trues_none.2 hp]
  simp
theorem trues_del (l:List PL) (p:PL):delM (trues l) p=trues (l.filter fun x=>x≠p):=by
 unfold delM trues
 rw [List.filter_map]
 rfl
theorem Lay.Ok.keys (h:L.Ok w0 q s) {a b:List HE} {e:HE} (e0:L.hl=a++e::b):(∀ x∈a,x.key≠e.key)∧∀ x∈b,x.key≠e.key:=by
 have:=h.hm.nodup
 rw [e0] at this
 simp only [List.map_map,List.map_append,List.map_cons,Function.comp_def] at this
 obtain ⟨_,h2,h3⟩:=List.nodup_append.1 this
 refine ⟨fun x hx he=>h3 _ (List.mem_map.2 ⟨x,hx,rfl⟩) _ (List.mem_cons_self ..) he,fun x hx he=>(List.nodup_cons.1 h2).1 (List.mem_map.2 ⟨x,hx,he⟩)⟩
theorem lk_hl (hl:List HE) (c:Int):(lk (hl.map fun e=>(e.key,Value.map (some e.b))) c=none∧lk (hl.map fun e=>(e.key,e.l)) c=none)∨
  ∃ a e b,hl=a++e::b∧e.key=c∧lk (hl.map fun e=>(e.key,Value.map (some e.b))) c=some (.map (some e.b))∧lk (hl.map fun e=>(e.key,e.l)) c=some e.l:=by
 induction hl with
 | nil=>exact .inl ⟨rfl,rfl⟩
 | cons e l ih=>
  unfold lk at *
  simp only [List.map_cons,List.find?_cons]
  by_cases hk:e.key=c
  ·subst hk
   exact .inr ⟨[],e,l,rfl,rfl,by simp,by simp⟩
  ·have:(e.key == c)=false:=by simpa using hk
   rw [this]
   rcases ih with ih | ⟨a,e',b,h1,h2,h3,h4⟩
   ·exact .inl ih
   ·exact .inr ⟨e::a,e',b,by rw [h1]; rfl,h2,h3,h4⟩
theorem Lay.Ok.look107 (h:L.Ok w0 q s) (hb:w.heap[q.hb]?=some (.map L.hes L.hclk)) (c:Int) :
  (lk s.hold c=none∧lk (L.hl.map fun e=>(e.key,Value.map (some e.b))) c=none∧∀ wq,Ext w wq→(Instr.lookup 107 (.map (some q.hb)) (U c) false).run P wq=.ok (.map none) wq)∨
  ∃ a e b,L.hl=a++e::b∧e.key=c∧lk s.hold c=some e.l∧∀ wq,Ext w wq→(Instr.lookup 107 (.map (some q.hb)) (U c) false).run P wq=.ok (.map (some e.b)) wq:=by
 have hl:∀ wq,Ext w wq→_:=fun wq hx=>h.hm.lookup keyT_u32 u107 zero124 (extGet hx hb) c false
 rcases lk_hl L.hl c with ⟨h1,h2⟩ | ⟨a,e,b,h1,h2,h3,h4⟩
 ·refine .inl ⟨by rw [h.hs,h2],h1,fun wq hx=>?_⟩
  have:=hl wq hx
  rw [lookM_lk,h1] at this
  exact this
 ·refine .inr ⟨a,e,b,h1,h2,by rw [h.hs,h4],fun wq hx=>?_⟩
  have:=hl wq hx
  rw [lookM_lk,h3] at this
  exact this
theorem Lay.Ok.swapH (h:L.Ok w0 q s) {a b:List HE} {e e':HE} (e0:L.hl=a++e::b) (hk:e'.key=e.key) (hb:e'.b=e.b) (hin:MapIs encP e'.es e'.clk (trues e'.l)) :
  ({ L with hl:=a++e'::b }:Lay).Ok w0 q { s with hold:=pt s.hold e.key e'.l }:=by
 obtain ⟨ha,hbb⟩:=h.keys e0
 refine ⟨h.nc,h.ni,h.nh,h.nr,h.nt,?_,h.its,?_,?_,?_,h.rows,h.k4,h.k16,h.tl,h.rl,h.cur⟩
 ·have hn:=h.new
  unfold Lay.rest at *
  rw [e0] at hn
  intro x hx
  simp only [List.map_append,List.map_cons,List.mem_append,List.mem_cons] at hx hn
  rcases hx with hx | (hx | hx | hx) | hx
  ·exact hn x (by simp only [List.mem_append,List.mem_cons,List.map_append,List.map_cons]; exact .inl hx)
  ·exact hn x (by simp only [List.mem_append,List.mem_cons,List.map_append,List.map_cons]; exact .inr (.inl (.inl hx)))
  ·have:=hn e.blk (by simp)
   rw [hx]
   show w0.heap.size≤e'.b
   rw [hb]; exact this
  ·exact hn x (by simp only [List.mem_append,List.mem_cons,List.map_append,List.map_cons]; exact .inr (.inl (.inr (.inr hx))))
  ·exact hn x (by simp only [List.mem_append,List.mem_cons,List.map_append,List.map_cons]; exact .inr (.inr hx))
 ·have:=h.hm
  rw [e0] at this
  simp only [List.map_append,List.map_cons] at this ⊢
  rw [hk,hb]; exact this
 ·show pt s.hold e.key e'.l=_
  rw [h.hs,e0]
  simp only [List.map_append,List.map_cons]
  rw [pt_mid (fun p hp=>?_) (fun p hp=>?_),hk]
  ·obtain ⟨x,hx,rfl⟩:=List.mem_map.1 hp
   exact ha x hx
  ·obtain ⟨x,hx,rfl⟩:=List.mem_map.1 hp
   exact hbb x hx
 ·intro x hx
  simp only [List.mem_append,List.mem_cons] at hx
  rcases hx with hx | rfl | hx
  ·exact h.inn x (by rw [e0]; simp [hx])
  ·exact hin
  ·exact h.inn x (by rw [e0]; simp [hx])
theorem Lay.takeH {A:HBL} {a b:List HE} {e:HE} (e0:L.hl=a++e::b):(A++(L.bl q s++H)).Perm (e.blk::(A++(({ L with hl:=a++b }:Lay).bl q s++H))):=
 perm_by fun c=>by simp only [Lay.bl,Lay.b4,Lay.rest,e0,List.cons_append,List.map_append,List.map_cons,List.sum_append,List.sum_cons]; omega
theorem Lay.giveH {A:HBL} {a b:List HE} {e:HE}:(e.blk::(A++(({ L with hl:=a++b }:Lay).bl q s++H))).Perm (A++(({ L with hl:=a++e::b }:Lay).bl q s++H)):=
 perm_by fun c=>by simp only [Lay.bl,Lay.b4,Lay.rest,List.cons_append,List.map_append,List.map_cons,List.sum_append,List.sum_cons]; omega
theorem hold_s1 {n3:Nat} (hn3:w0.heap.size≤n3) {p:PL} {c:Int} (h:St w0 w ((n3,Cs [U p.1,J p.2] 142)::(L.bl q s++H))) (hL:L.Ok w0 q s) {l:List PL} (hl:lk s.hold c=some l)
  (hK:∀ (w':World) (L':Lay),L'.Ok w0 q { s with hold:=pt s.hold c (if p∈l then l else l++[p]) }→St w0 w' (L'.bl q s++H)→K (.tuple [].toArray) w') :
  f81_s1 (Addr.mk n3 0 none) c (some ⟨q.cb,0,none⟩) w K:=by
 rw [f81_s1_eq]
 have h1:=h.drew
 rcases hL.look107 (w:=w.drew) (h1.get (k:=4) rfl) c with ⟨e1,_⟩ | ⟨a,e,b,e0,hk,e2,hlk⟩
 ·rw [hl] at e1; cases e1
 rw [hl] at e2
 cases e2
 subst hk
 refine ⟨some q.hb,by rw [add_lit']; exact h1.cell (k:=2) rfl,some e.b,hlk,h1.ldA (k:=0) rfl (by simp) ?_⟩
 have h2:=h1.perm (Lay.takeH (A:=[(n3,Cs [U p.1,J p.2] 142)]) e0)
 obtain ⟨es',clk',hr,hm⟩:=(hL.inn e (by rw [e0]; simp)).update keyT_place u124 (h2.get (k:=0) rfl) p (.bool true)
 refine ⟨_,hr,?_⟩
 rw [trues_put] at hm
 have h3:=h2.put (k:=0) rfl (.map es' clk')
 have h4:=h3.perm (Lay.giveH (L:=L) (A:=[(n3,Cs [U p.1,J p.2] 142)]) (a:=a) (b:=b) (e:=⟨e.key,e.b,es',clk',if p∈e.l then e.l else e.l++[p]⟩))
 have hok:=hL.swapH e0 (e':=⟨e.key,e.b,es',clk',if p∈e.l then e.l else e.l++[p]⟩) rfl rfl hm
 exact hK _ _ hok (h4.tail hn3)
theorem hold_ok (h:St w0 w (L.bl q s++H)) (hL:L.Ok w0 q s) {p:PL} {c:Int}
  (hK:∀ (w':World) (L':Lay),L'.Ok w0 q { s with hold:=holdS s.hold p c }→St w0 w' (L'.bl q { s with hold:=holdS s.hold p c }++H)→K (.tuple [].toArray) w'):CallL P 81 [.pointer (some ⟨q.cb,0,none⟩),encP p,U c] w K:=by
 refine f81_ok _ _ _ _ _ ?_
 rw [f81_eq]
 refine h.newC fun n3 w4 hn3 h4=>?_
 have h4:St w0 w4 ((n3,Cs [U p.1,J p.2] 142)::(L.bl q s++H)):=h4
 unfold holdS at hK
 rw [BIf_iff]
 refine ⟨fun hc=>?_,fun hc=>?_⟩
 ·have hc:c=0:=by simpa using hc
  rw [if_pos hc] at hK
  exact hK _ L hL (h4.tail hn3)
 have hc:c≠0:=by simpa using hc
 rw [if_neg hc] at hK
 rw [f81_s0_eq]
 rcases hL.look107 (h4.get (k:=4) rfl) c with ⟨e1,e1',hlk⟩ | ⟨a,e,b,e0,hk,e2,hlk⟩
 ·refine ⟨some q.hb,by rw [add_lit']; exact h4.cell (k:=2) rfl,none,hlk,?_⟩
  simp only [Option.isNone_none,BIf_true]
  refine ⟨some q.hb,by rw [add_lit']; exact h4.cell (k:=2) rfl,?_⟩
  refine h4.newO fun n13 w14 hn13 h14=>?_
  obtain ⟨es',clk',hr,hm⟩:=hL.hm.update keyT_u32 u107 (h14.get (k:=5) rfl) c (.map (some n13))
  refine ⟨_,hr,?_⟩
  have h15:=h14.put (k:=5) rfl (.map es' clk')
  rw [putM_pt,pt_none e1'] at hm
  have hL1:({ L with hes:=es',hclk:=clk',hl:=L.hl++[⟨c,n13,#[],0,[]⟩] }:Lay).Ok w0 q { s with hold:=s.hold++[(c,[])] }:=by
   refine ⟨hL.nc,hL.ni,hL.nh,hL.nr,hL.nt,?_,hL.its,?_,?_,?_,hL.rows,hL.k4,hL.k16,hL.tl,hL.rl,hL.cur⟩
   ·have hn:=hL.new
    unfold Lay.rest at *
    simp only [List.map_append]
    refine New.append (New.left hn) (New.append (New.append (New.left (New.right hn)) ?_) (New.right (New.right hn)))
    intro x hx
    simp only [List.map_cons,List.map_nil,List.mem_singleton] at hx
    rw [hx]; exact hn13
   ·simp only [List.map_append,List.map_cons,List.map_nil]; exact hm
   ·show s.hold++[(c,[])]=_
    rw [hL.hs]; simp
   ·intro x hx
    simp only [List.mem_append,List.mem_singleton] at hx
    rcases hx with hx | rfl
    ·exact hL.inn x hx
    ·exact MapIs.empty
  have h16:St w0 (w14.putObj q.hb (.map es' clk')) ((n3,Cs [U p.1,J p.2] 142)::(({ L with hes:=es',hclk:=clk',hl:=L.hl++[⟨c,n13,#[],0,[]⟩] }:Lay).bl q s++H)):=
   h15.perm (perm_by fun cc=>by simp only [Lay.bl,Lay.b4,Lay.rest,HE.blk,List.set_cons_succ,List.set_cons_zero,List.cons_append,List.map_append,List.map_cons,List.map_nil,List.sum_append,List.sum_cons,List.sum_nil]; omega)
  have hlk2:lk (s.hold++[(c,([]:List PL))]) c=some []:=by
   have:=lk_mid (b:=[]) (v:=([]:List PL)) (lk_none.1 e1)
   exact this
  refine hold_s1 (s:={ s with hold:=s.hold++[(c,[])] }) hn3 (p:=p) (c:=c) h16 hL1 hlk2 fun w' L' hok h17=>?_
  rw [e1] at hK
  have hpt:pt (s.hold++[(c,([]:List PL))]) c (if p∈([]:List PL) then [] else []++[p])=pt s.hold c (if p∈(none:Option (List PL)).getD [] then (none:Option (List PL)).getD [] else (none:Option (List PL)).getD []++[p]):=by
   rw [pt_none e1]
   have:=pt_mid (b:=[]) (v:=([]:List PL)) (u:=(if p∈([]:List PL) then [] else []++[p])) (lk_none.1 e1) (by simp)
   exact this
  rw [← hpt] at hK
  exact hK _ _ hok h17
 ·refine ⟨some q.hb,by rw [add_lit']; exact h4.cell (k:=2) rfl,some e.b,hlk,?_⟩
  simp only [Option.isNone_some,BIf_false]
  refine hold_s1 hn3 h4 hL e2 fun w' L' hok h17=>?_
  rw [e2] at hK
  exact hK _ _ hok h17
theorem release_s0 {c:Int} (h:St w0 w (L.bl q s++H)) (hL:L.Ok w0 q s)
  (hK:∀ (w':World) (L':Lay),L'.Ok w0 q { s with hold:=if (lk s.hold c).getD []=[] then dl s.hold c else s.hold }→St w0 w' (L'.bl q s++H)→K (.tuple [].toArray) w'):f82_s0 c (some ⟨q.cb,0,none⟩) w K:=by
 rw [f82_s0_eq]
 have del:∀ {hl':List HE},(dl (L.hl.map fun e=>(e.key,Value.map (some e.b))) c=hl'.map fun e=>(e.key,Value.map (some e.b)))→dl s.hold c=hl'.map (fun e=>(e.key,e.l))→(∀ e∈hl',e∈L.hl)→
   (∀ {w'},St w0 w' (L.bl q s++H)→St w0 w' (({ L with hl:=hl' }:Lay).bl q s++H))→(lk s.hold c).getD []=[]→
   ∃ w18:World,(Builtin.delete_ #[107,24] 0 [(Value.map (some q.hb)),(Value.int .u32 c)].toArray).run P w=.ok (Value.tuple [].toArray) w18∧K (Value.tuple [].toArray) w18:=by
  intro hl' h1 h2 h3 h4 h5
  obtain ⟨es',hr,hm⟩:=hL.hm.delete keyT_u32 u107 (h.get (k:=3) rfl) c 0
  refine ⟨_,hr,?_⟩
  rw [delM_dl,h1] at hm
  rw [if_pos h5] at hK
  have h6:=(h4 h).put (k:=3) rfl (.map es' L.hclk)
  refine hK _ { L with hl:=hl',hes:=es' } ⟨hL.nc,hL.ni,hL.nh,hL.nr,hL.nt,?_,hL.its,hm,h2,fun e he=>hL.inn e (h3 e he),hL.rows,hL.k4,hL.k16,hL.tl,hL.rl,hL.cur⟩ h6
  have hn:=hL.new
  unfold Lay.rest at *
  refine New.append (New.left hn) (New.append (fun x hx=>?_) (New.right (New.right hn)))
  obtain ⟨e,he,rfl⟩:=List.mem_map.1 hx
  exact New.left (New.right hn) _ (List.mem_map.2 ⟨e,h3 e he,rfl⟩)
 rcases hL.look107 (h.get (k:=3) rfl) c with ⟨e1,e1',hlk⟩ | ⟨a,e,b,e0,hk,e2,hlk⟩
 ·refine ⟨some q.hb,by rw [add_lit']; exact h.cell (k:=1) rfl,none,hlk,0,fun wq _=>len_nil u124 _ _,?_⟩
  simp only [show ((0:Int) == 0)=true from rfl,BIf_true]
  refine ⟨some q.hb,by rw [add_lit']; exact h.cell (k:=1) rfl,?_⟩
  refine del (hl':=L.hl) (dl_none e1') (by rw [dl_none e1,hL.hs]) (fun _ h=>h) (fun h=>h) (by rw [e1]; rfl)
 ·have hbm:e.blk∈L.bl q s++H:=List.mem_append_left _ (.tail _ (.tail _ (.tail _ (.tail _ (.tail _ (List.mem_append_right _ (List.mem_append_left _ (List.mem_map.2 ⟨e,by rw [e0]; simp,rfl⟩))))))))
  have hin:=hL.inn e (by rw [e0]; simp)
  refine ⟨some q.hb,by rw [add_lit']; exact h.cell (k:=1) rfl,some e.b,hlk,((trues e.l).length:Nat),fun wq hx=>hin.len (extGet hx (h.has _ _ hbm)) u124 _,?_⟩
  rw [BIf_iff]
  refine ⟨fun hz=>?_,fun hz=>?_⟩
  ·have hz:e.l=[]:=by
    have:(((trues e.l).length:Nat):Int)=0:=by simpa using hz
    have:(trues e.l).length=0:=by omega
    simpa [trues] using this
   refine ⟨some q.hb,by rw [add_lit']; exact h.cell (k:=1) rfl,?_⟩
   obtain ⟨ha,hb⟩:=hL.keys e0
   subst hk
   have k1:∀ {V:Type} (f:HE→V) (l:List HE),(∀ x∈l,x.key≠e.key)→∀ p∈l.map (fun e=>(e.key,f e)),p.1≠e.key:=fun f l hl p hp=>by
    obtain ⟨x,hx,rfl⟩:=List.mem_map.1 hp
    exact hl x hx
   refine del (hl':=a++b) ?_ ?_ (fun x hx=>?_) (fun h=>?_) (by rw [e2,hz]; rfl)
   ·rw [e0]
    simp only [List.map_append,List.map_cons]
    rw [dl_mid (k1 _ a ha) (k1 _ b hb)]
   ·rw [hL.hs,e0]
    simp only [List.map_append,List.map_cons]
    rw [dl_mid (k1 _ a ha) (k1 _ b hb)]
   ·rw [e0]
    simp only [List.mem_append,List.mem_cons] at hx ⊢
    rcases hx with hx | hx
    ·exact .inl hx
    ·exact .inr (.inr hx)
   ·exact (h.perm (Lay.takeH (A:=[]) e0)).tail (hL.newB _ (.tail _ (.tail _ (.tail _ (.tail _ (.tail _ (List.mem_append_right _ (List.mem_append_left _ (List.mem_map.2 ⟨e,by rw [e0]; simp,rfl⟩)))))))))
  ·have hz:e.l≠[]:=fun e=>by rw [e] at hz; simp at hz
   rw [if_neg (by rw [e2]; exact hz)] at hK
   exact hK _ L hL h
theorem release_ok (h:St w0 w (L.bl q s++H)) (hL:L.Ok w0 q s) {p:PL} {c:Int}
  (hK:∀ (w':World) (L':Lay),L'.Ok w0 q { s with hold:=releaseS s.hold p c }→St w0 w' (L'.bl q { s with hold:=releaseS s.hold p c }++H)→K (.tuple [].toArray) w'):CallL P 82 [.pointer (some ⟨q.cb,0,none⟩),encP p,U c] w K:=by
 refine f82_ok _ _ _ _ _ ?_
 rw [f82_eq]
 refine h.newC fun n3 w4 hn3 h4=>?_
 have h4:St w0 w4 ((n3,Cs [U p.1,J p.2] 142)::(L.bl q s++H)):=h4
 have h5:=h4.drew
 unfold releaseS at hK
 rcases hL.look107 (w:=w4.drew) (h5.get (k:=4) rfl) c with ⟨e1,e1',hlk⟩ | ⟨a,e,b,e0,hk,e2,hlk⟩
 ·refine ⟨some q.hb,by rw [add_lit']; exact h5.cell (k:=2) rfl,none,hlk,h5.ldA (k:=0) rfl (by simp) ⟨_,delete_nil keyT_place u124 p 0 _,?_⟩⟩
  refine release_s0 (h5.tail hn3) hL fun w' L' hok h6=>?_
  rw [e1] at hok hK
  exact hK _ _ hok h6
 ·refine ⟨some q.hb,by rw [add_lit']; exact h5.cell (k:=2) rfl,some e.b,hlk,h5.ldA (k:=0) rfl (by simp) ?_⟩
  have h6:=h5.perm (Lay.takeH (A:=[(n3,Cs [U p.1,J p.2] 142)]) e0)
  obtain ⟨es',hr,hm⟩:=(hL.inn e (by rw [e0]; simp)).delete keyT_place u124 (h6.get (k:=0) rfl) p 0
  refine ⟨_,hr,?_⟩
  rw [trues_del] at hm
  have h7:=h6.put (k:=0) rfl (.map es' e.clk)
  have h8:=h7.perm (Lay.giveH (L:=L) (A:=[(n3,Cs [U p.1,J p.2] 142)]) (a:=a) (b:=b) (e:=⟨e.key,e.b,es',e.clk,e.l.filter fun x=>x≠p⟩))
  have hok:=hL.swapH e0 (e':=⟨e.key,e.b,es',e.clk,e.l.filter fun x=>x≠p⟩) rfl rfl hm
  obtain ⟨ha,hb⟩:=hL.keys e0
  have k1:∀ {V:Type} (f:HE→V) (l:List HE),(∀ x∈l,x.key≠e.key)→∀ p∈l.map (fun e=>(e.key,f e)),p.1≠e.key:=fun f l hl p hp=>by
   obtain ⟨x,hx,rfl⟩:=List.mem_map.1 hp
   exact hl x hx
  subst hk
  have hpt:∀ v:List PL,pt s.hold e.key v=(a.map fun e=>(e.key,e.l))++(e.key,v)::(b.map fun e=>(e.key,e.l)):=fun v=>by
   rw [hL.hs,e0]
   simp only [List.map_append,List.map_cons]
   exact pt_mid (k1 _ a ha) (k1 _ b hb)
  have hlk2:lk (pt s.hold e.key (e.l.filter fun x=>x≠p)) e.key=some (e.l.filter fun x=>x≠p):=by
   rw [hpt]; exact lk_mid (k1 _ a ha)
  have hdl:dl (pt s.hold e.key (e.l.filter fun x=>x≠p)) e.key=dl s.hold e.key:=by
   rw [hpt,dl_mid (k1 _ a ha) (k1 _ b hb),hL.hs,e0]
   simp only [List.map_append,List.map_cons]
   rw [dl_mid (k1 _ a ha) (k1 _ b hb)]
  refine release_s0 (s:={ s with hold:=pt s.hold e.key (e.l.filter fun x=>x≠p) }) (h8.tail hn3) hok fun w' L' hok h6=>?_
  simp only [hlk2,hdl,Option.getD_some] at hok
  rw [e2] at hK
  exact hK _ _ hok h6
end Go.Fx.Tryz
namespace Go.Fx.Tryz
open Go Go.Fx Go.Fx.Ch
open Go.Proofs
set_option linter.all false
set_option maxRecDepth 20000
variable {w0 w:World} {H G:HBL} {K:KT}
theorem row1_cell {r:List Int} {a:Addr} {c:Nat} (h:Row w 1 (.slice (some a) r.length c) r.length (r.map U)) {i:Nat} (hi:i < r.length):w.cell? (a.add (i * 1))=some (U r[i]):=by
 rcases h.2 with ⟨h1,_⟩ | ⟨a',c',h1,h2⟩
 ·cases h1
 ·cases h1
  rw [Nat.mul_one,h2 i (by omega),List.getElem?_map,List.getElem?_eq_getElem hi]; rfl
abbrev keepN (id:Int) (x:Int):Bool:=decide (x≠id)
abbrev delF (n:Nat):Value:=.func (.func 105) #[] #[.pointer (some (Addr.mk n 0 none))]
theorem en105:enterable P 105=true:=by kernel_rfl
theorem del_ok {n3:Nat} {id:Int} {t:TypeId} (h:St w0 w H) (hn:(n3,Cs [U id] t)∈H) (x:Int) (hK:∀ w',St w0 w' H→K (.bool (x == id)) w'):CallF P (delF n3) [U x] w K:=by
 show (match enterable P 105 with | true=>CallL P 105 [U x,.pointer (some (Addr.mk n3 0 none))] w K | false=>False)
 rw [en105]
 refine f105_ok _ _ _ _ ?_
 rw [f105_eq]
 exact ⟨id,by rw [cell_of (h.has n3 (Cs [U id] t) hn)]; rfl,hK w h⟩
theorem index141_ok {n3:Nat} {id:Int} {t:TypeId} {r:List Int} {ov:Value} (h:St w0 w H) (hn:(n3,Cs [U id] t)∈H) (hrow:∀ w',St w0 w' H→Row w' 1 ov r.length (r.map U)) (hl63:r.length < 9223372036854775808)
  (hnone:(∀ x∈r,keepN id x=true)→∀ w',St w0 w' H→K (J (-1)) w')
  (hsome:∀ i (hi:i < r.length),(∀ x∈r.take i,keepN id x=true)→keepN id r[i]=false→∀ w',St w0 w' H→K (J i) w'):CallL P 141 [ov,delF n3] w K:=by
 obtain ⟨sa,sc,rfl⟩:=(hrow w h).form
 refine f141_ok _ _ _ _ _ _ ?_
 rw [f141_eq]
 refine ⟨fun m e w'=>∃ i:Nat,i≤r.length∧m=r.length - i∧St w0 w' H∧(∀ x∈r.take i,keepN id x=true)∧e=Env.mk 19 [(8,J i),(0,.slice sa r.length sc),(1,delF n3),(4,J 0),(7,J r.length)] [],⟨_,0,by omega,rfl,h,by simp,rfl⟩,?_⟩
 rintro m e w' ⟨i,hi,rfl,hs,hall,rfl⟩
 show f141_lb0 ..
 rw [f141_lb0_eq,BIf_iff]
 refine ⟨fun hlt=>?_,fun hge=>?_⟩
 ·have hlt:i < r.length:=by have:=of_decide_eq_true hlt; omega
  rw [f141_s1_eq]
  obtain ⟨ad,cp,hac,hld⟩:=(hrow w' hs).ldA hlt
  injection hac with hac _ _
  subst hac
  refine ⟨by omega,by omega,r[i],?_,?_⟩
  ·rw [Int.toNat_natCast]; exact row1_cell (hrow w' hs) hlt
  refine del_ok hs hn r[i] fun w15 h15=>⟨_,rfl,?_⟩
  rw [BIf_iff]
  refine ⟨fun hb=>hsome i hlt hall (by simpa [keepN] using hb) w15 h15,fun hb=>?_⟩
  rw [f141_s2_eq]
  refine ⟨r.length - (i+1),by omega,i+1,by omega,rfl,h15,?_,by rw [wrap_i64 (by omega) (by omega)]; rfl⟩
  intro x hx'
  rw [take_succ' r hlt,List.mem_append] at hx'
  rcases hx' with h | h
  ·exact hall x h
  ·rw [List.mem_singleton.1 h]; simpa [keepN] using hb
 ·have:i=r.length:=by have:=of_decide_eq_false hge; omega
  subst this
  rw [List.take_length] at hall
  rw [f141_s3_eq]
  exact hnone hall w' hs
theorem clear22 {g off m c:Nat} {cs:List Value} {t:TypeId} (h:w.heap[g]?=some (Cs cs t)) (hm:off+m≤cs.length):∃ zs:List Value,zs.length=m∧
  (Builtin.clear_ #[22] 0 [Value.slice (some (Addr.mk g off none)) m c].toArray).run P w=.ok (.tuple [].toArray) (setCells w (Addr.mk g off none) 0 zs):=by
 cases m with
 | zero=>exact ⟨[],rfl,by simp [Builtin.clear_,run_underlying Tryz.underlying22,setCells]⟩
 | succ m=>
  have hst:=setCells_step (P:=P) w (Addr.mk g off none) (Builtin.zeroCells #[U 0] (m+1)).toList 0 (fun j v hv=>by
   have hj:j < (m+1):=by
    have:=(List.getElem?_eq_some_iff.1 hv).1
    simpa [Builtin.zeroCells] using this
   rw [Nat.zero_add,add_lit']
   refine ⟨⟨_,by rw [cell_of h,List.getElem?_eq_getElem (by omega)]⟩,frozen_of h,?_⟩
   obtain ⟨i,_,rfl⟩:=List.mem_map.1 (by simpa [Builtin.zeroCells] using List.mem_of_getElem? hv:v∈(List.range ((m+1) * 1)).map _)
   have:i % 1=0:=by omega
   simp [Nat.mod_one,Value.oneCell'])
  refine ⟨(Builtin.zeroCells #[U 0] (m+1)).toList,by simp [Builtin.zeroCells],?_⟩
  simp [Builtin.clear_,run_underlying Tryz.underlying22,Value.cells,hst,Result.andThen]
theorem slice22_to {p:Option Addr} {n c k:Nat} (hk:k≤c) (hz:p=none→k=0) (wq:World):(Instr.sliceAt 22 (Value.slice p n c) none (some (Value.int .i64 (k:Int))) none).run P wq=.ok (.slice p k c) wq:=by
 rw [run_sliceAt_slice _ 22 _ _ _ _ (by kernel_rfl),run_slice_h _ 22 p n c (by kernel_rfl) .i64 (k:Int) (by omega) (by omega)]
 have:(sizeOf (P.elem 22)).run P wq=.ok 1 wq:=by kernel_rfl
 rw [this]
 simp [Result.andThen,sliced]
 cases p <;> simp [Addr.add]
theorem slice22_from {g n c k:Nat} (hk:k≤n) (hc:k < c) (wq:World):(Instr.sliceAt 22 (Value.slice (some (Addr.mk g 0 none)) n c) (some (Value.int .i64 (k:Int))) none none).run P wq=.ok (.slice (some (Addr.mk g k none)) (n - k) (c - k)) wq:=by
 rw [run_sliceAt_slice _ 22 _ _ _ _ (by kernel_rfl),run_slice_l _ 22 (some (Addr.mk g 0 none)) n c (by kernel_rfl) .i64 (k:Int) (by omega) (by omega)]
 have:(sizeOf (P.elem 22)).run P wq=.ok 1 wq:=by kernel_rfl
 rw [this]
 have hne:¬ c=k:=by omega
 simp [Result.andThen,sliced,hne]
theorem del104_ok {n3:Nat} {id:Int} {t:TypeId} {r:List Int} {ov:Value} {L:HBL} (h:St w0 w (L++H)) (hn:(n3,Cs [U id] t)∈H) (hS:SlO 1 24 ov r.length (r.map U) L) (hN:New w0 L) (hl63:r.length < 9223372036854775808)
  (hK:∀ a c L' w',SlO 1 24 (.slice a (r.filter (keepN id)).length c) (r.filter (keepN id)).length ((r.filter (keepN id)).map U) L'→New w0 L'→St w0 w' (L'++H)→K (.slice a (r.filter (keepN id)).length c) w'):CallL P 104 [ov,delF n3] w K:=by
 obtain ⟨sa,sc,hov⟩:=hS.form
 rw [hov]
 refine f104_ok _ _ _ _ _ _ ?_
 rw [f104_eq,← hov]
 refine index141_ok (id:=id) (t:=t) h (List.mem_append_right _ hn) (fun w' h'=>hS.row fun y hy=>h'.has _ _ (List.mem_append_left _ hy)) hl63 (fun hall w1 h1=>⟨-1,rfl,?_⟩) (fun i0 hi0 hall hlate w1 h1=>⟨i0,rfl,?_⟩)
 ·rw [show ((-1:Int) == -1)=true by decide,BIf_true]
  have e:r.filter (keepN id)=r:=List.filter_eq_self.2 hall
  have:=hK sa sc L w1
  rw [e] at this
  rw [← hov] at this
  rw [hov] at this ⊢
  exact this (hov ▸ hS) hN h1
 ·rw [show ((i0:Int) == -1)=false by simp,BIf_false,f104_s0_eq]
  rcases hS.2 with ⟨_,h0,_⟩ | ⟨g,cap,cur,hg,rfl,hcap,hmax,hcl,hct⟩
  ·omega
  rw [hov] at hg
  obtain ⟨rfl,hsc⟩:sa=some ⟨g,0,none⟩∧sc=cap:=by simpa using hg
  have hsc:=hsc.symm
  subst hsc
  rw [Nat.mul_one] at hcl hct
  have hF:∀ j (hj:j < r.length),(r.take (j+1)).filter (keepN id)=(r.take j).filter (keepN id)++(if keepN id r[j]=true then [r[j]] else []):=fun j hj=>by
   rw [List.take_add_one,List.getElem?_eq_getElem hj,List.filter_append]
   by_cases hb:keepN id r[j]=true <;> simp [hb]
  have hFl:∀ j,((r.take j).filter (keepN id)).length≤j:=fun j=>by have:=List.length_filter_le (keepN id) (r.take j); simp at this; omega
  have hF0:(r.take (i0+1)).filter (keepN id)=r.take i0:=by
   rw [hF i0 hi0,hlate]
   simp
   exact fun x hx=>by have:=hall x hx; simpa [keepN] using this
  have hat:∀ j (hj:j < r.length),cur[j]?=some (U r[j]):=fun j hj=>by
   have:=congrArg (fun l=>l[j]?) hct
   simp only [List.getElem?_take,hj,if_true,List.getElem?_map,List.getElem?_eq_getElem hj,Option.map_some] at this
   exact this
  refine ⟨fun m ee w=>∃ (j:Nat) (cu:List Value),i0 < j∧j≤r.length∧m=r.length - j∧
   ee=Env.mk 42 [(6,J j),(5,J ((r.take j).filter (keepN id)).length),(0,(Value.slice (some ⟨g,0,none⟩) r.length cap)),(1,delF n3),(4,.slice none 0 0)] []∧
   ((r.take j).filter (keepN id)).length < j∧cu.length=cap∧cu.take ((r.take j).filter (keepN id)).length=((r.take j).filter (keepN id)).map U∧cu.drop j=cur.drop j∧St w0 w ((g,Cs cu 24)::H),
   ⟨r.length - (i0+1),i0+1,cur,by omega,by omega,rfl,?_,by rw [hF0]; simp; omega,hcl,?_,rfl,h1⟩,?_⟩
  ·rw [hF0,wrap_i64 (by omega) (by omega)]
   simp [List.length_take,Nat.min_eq_left (Nat.le_of_lt hi0)]
  ·rw [hF0]
   have e:(r.take i0).length=i0:=by simp; omega
   rw [e,List.map_take,← hct,List.take_take]
   congr 1
   omega
  rintro m ee w2 ⟨j,cu,hij,hj,rfl,rfl,hFj,hcul,hcut,hcud,h2⟩
  show f104_lb1 ..
  rw [f104_lb1_eq,BIf_iff]
  constructor
  ·intro hlt
   have hlt:j < r.length:=by have:=of_decide_eq_true hlt; omega
   rw [f104_s2_eq]
   have hcj:cu[j]?=some (U r[j]):=by
    have:=congrArg (fun l=>l[0]?) hcud
    simp only [List.getElem?_drop,Nat.add_zero] at this
    rw [this,hat j hlt]
   refine ⟨by omega,by omega,r[j],by rw [add_lit',Int.toNat_natCast,Nat.mul_one,Nat.zero_add,h2.cell (k:=0) rfl,hcj],?_⟩
   refine del_ok (id:=id) (t:=t) h2 (.tail _ hn) r[j] fun w5 h5=>⟨_,rfl,?_⟩
   have s3:∀ w6 cu' (i':Nat),i'=((r.take (j+1)).filter (keepN id)).length→i' < j+1→cu'.length=cap→cu'.take i'=((r.take (j+1)).filter (keepN id)).map U→cu'.drop (j+1)=cur.drop (j+1)→St w0 w6 ((g,Cs cu' 24)::H)→
     f104_s3 (i':Int) (some ⟨g,0,none⟩) r.length cap (delF n3) none 0 0 j w6 K (fun e' w'=>∃ m,m < r.length - j∧∃ (j:Nat) (cu:List Value),i0 < j∧j≤r.length∧m=r.length - j∧
   e'=Env.mk 42 [(6,J j),(5,J ((r.take j).filter (keepN id)).length),(0,(Value.slice (some ⟨g,0,none⟩) r.length cap)),(1,delF n3),(4,.slice none 0 0)] []∧
   ((r.take j).filter (keepN id)).length < j∧cu.length=cap∧cu.take ((r.take j).filter (keepN id)).length=((r.take j).filter (keepN id)).map U∧cu.drop j=cur.drop j∧St w0 w' ((g,Cs cu 24)::H)):=by
     rintro w6 cu' i' rfl k1 k2 k3 k4 k5
     rw [f104_s3_eq]
     refine ⟨r.length - (j+1),by omega,j+1,cu',by omega,by omega,rfl,?_,k1,k2,k3,k4,k5⟩
     rw [wrap_i64 (by omega) (by omega)]; rfl
   have hkj:keepN id r[j]=!(r[j] == id):=by
    unfold keepN
    by_cases hx:r[j]=id <;> simp [hx]
   rw [BIf_iff]
   constructor
   ·intro hb
    have hb:keepN id r[j]=true:=by rw [hkj]; exact hb
    refine ⟨by omega,by omega,?_⟩
    rw [add_lit',Int.toNat_natCast,Nat.mul_one,Nat.zero_add]
    have hl1:((r.take j).filter (keepN id)).length < cu.length:=by rw [hcul]; omega
    refine h5.st1 (k:=0) rfl hl1 rfl fun w6 h6=>?_
    rw [wrap_i64 (by omega) (by omega)]
    have e:=hF j hlt
    rw [if_pos hb] at e
    refine s3 w6 (cu.set ((r.take j).filter (keepN id)).length (U r[j])) (((r.take j).filter (keepN id)).length+1) (by rw [e]; simp) (by omega) (by rw [List.length_set]; exact hcul) ?_ ?_ h6
    ·rw [take_succ' _ (by rw [List.length_set]; exact hl1),e,List.map_append,List.getElem_set_self,List.take_set_of_le (Nat.le_refl _),hcut]; rfl
    ·have:=congrArg (fun l=>l.drop 1) hcud
     simp only [List.drop_drop] at this
     rw [List.drop_set_of_lt (by omega),this]
   ·intro hb
    have hb:keepN id r[j]=false:=by rw [hkj]; exact hb
    have e:=hF j hlt
    rw [hb] at e
    have e:(r.take (j+1)).filter (keepN id)=(r.take j).filter (keepN id):=by rw [e]; simp
    refine s3 w5 cu _ (by rw [e]) (by omega) hcul (by rw [e]; exact hcut) ?_ h5
    have:=congrArg (fun l=>l.drop 1) hcud
    simp only [List.drop_drop] at this
    exact this
  ·intro hge
   have:j=r.length:=by have:=of_decide_eq_false hge; omega
   subst this
   rw [List.take_length] at hFj hcut
   rw [f104_s4_eq,List.take_length]
   refine ⟨_,_,_,fun wq=>slice22_from (by omega) (by omega) wq,?_⟩
   obtain ⟨zs,hzl,hz⟩:=clear22 (w:=w2) (g:=g) (off:=(r.filter (keepN id)).length) (m:=r.length - (r.filter (keepN id)).length) (c:=cap - (r.filter (keepN id)).length) (h2.has g (Cs cu 24) (by simp)) (by rw [hcul]; omega)
   refine ⟨_,hz,_,_,_,fun wq=>slice22_to (by omega) (fun h=>by cases h) wq,?_⟩
   rw [setCells_of zs (h2.has g (Cs cu 24) (by simp)),Nat.add_zero]
   have h3:=h2.put (k:=0) rfl (Cs (splice cu (r.filter (keepN id)).length zs) 24)
   refine hK _ _ [(g,Cs (splice cu (r.filter (keepN id)).length zs) 24)] _ ⟨by rw [List.length_map,Nat.mul_one],.inr ⟨g,cap,_,rfl,rfl,by omega,hmax,by rw [splice_length,Nat.mul_one]; exact hcul,?_⟩⟩ (by simpa [New] using hN) h3
   rw [splice_eq _ _ _ (by rw [hcul,hzl]; omega),Nat.mul_one,List.append_assoc,List.take_append_of_le_length (by rw [List.length_take]; omega),List.take_of_length_le (by rw [List.length_take]; omega),hcut]
end Go.Fx.Tryz
namespace Go.Proofs
open Go.Shelf
set_option maxRecDepth 100000
def Tryz.clone101_ren:Go.Shelf.Ren:=⟨fun | 5=>101 | 7=>140 | n=>n,fun | 23=>124 | 25=>142 | 3=>4 | n=>n,fun n=>n⟩
theorem Tryz.clone101:Go.Proofs.SlLaysW.n5 Tryz.prog Tryz.clone101_ren:={
 mixed:=by kernel_rfl,
 f5:=⟨Tryz.f101.name,by decide,Tryz.func101.trans (congrArg some (by kernel_rfl))⟩,
 f7:=Tryz.func140.trans (congrArg some (by kernel_rfl)),
 t4:=Tryz.underlying4,a4:=Tryz.isAgg4,z4:=Tryz.sizeOf4,v4:=Tryz.zeroValue4,
 t20:=Tryz.underlying20,a20:=Tryz.isAgg20,z20:=Tryz.sizeOf20,v20:=Tryz.zeroValue20,
 t23:=Tryz.underlying124,a23:=Tryz.isAgg124,z23:=Tryz.sizeOf124,v23:=Tryz.zeroValue124 }
end Go.Proofs
namespace Go.Fx.Tryz
open Go Go.Fx
open Go.Proofs
variable {w0 w:World} {H:HBL} {K:KT}
set_option maxRecDepth 20000
theorem CallL_of {g:Nat} {args:List Value} {K:KT} {Q:Ending→World→Prop} (h:Calls P g args.toArray w Q) (hK:∀ e w',Q e w'→∃ v,e=.returned v∧K v w'):CallL P g args w K:=by
 unfold CallL CallC
 refine Calls.mono h fun e w' he=>?_
 obtain ⟨v,rfl,hv⟩:=hK e w' he
 exact hv
theorem copy101_ok {m clk:Nat} {es:Array MapEntry} (h:St w0 w H) (hm:(m,Obj.map es clk)∈H) (hK:∀ n w',w0.heap.size≤n→St w0 w' ((n,.map es clk)::H)→K (.map (some n)) w'):CallL P 101 [.map (some m)] w K:=by
 refine CallL_of (AnyW.maps_Clone (P:=P) (ρ:=Tryz.clone101_ren) Tryz.clone101 m es clk w (h.has _ _ hm)) ?_
 rintro e w' ⟨rfl,rfl⟩
 exact ⟨_,rfl,hK _ _ h.le (h.alloc _)⟩
theorem copy101_nil (h:St w0 w H) (hK:∀ w',St w0 w' H→K (.map none) w'):CallL P 101 [.map none] w K:=by
 refine CallL_of (AnyW.maps_Clone_nil (P:=P) (ρ:=Tryz.clone101_ren) Tryz.clone101 w) ?_
 rintro e w' ⟨rfl,rfl⟩
 exact ⟨_,rfl,hK _ h⟩
end Go.Fx.Tryz
namespace Go.Fx
open Go
variable {P:Program}
theorem perm_of_map' {α β:Type} {f:α→β} (hf:∀ a b,f a=f b→a=b):∀ {l l':List α},(l.map f).Perm (l'.map f)→l.Perm l'
 | [],l',h=>by
  have:l'=[]:=by simpa using h.length_eq.symm
  rw [this]
 | a::r,l',h=>by
  have ha:f a∈l'.map f:=h.mem_iff.1 (by simp)
  obtain ⟨b,hb,e⟩:=List.mem_map.1 ha
  have:=hf _ _ e
  subst this
  obtain ⟨s,t,rfl⟩:=List.append_of_mem hb
  have h2:((b::r).map f).Perm ((b::(s++t)).map f):=h.trans ((List.perm_middle).map f)
  exact (List.Perm.cons b (perm_of_map' hf (by simpa using h2))).trans List.perm_middle.symm
theorem LoopE_map' {B:(YT)→YT} {e0:Env} {w1:World} {es:Array MapEntry} (J:List MapEntry→Array Nat→World→Prop) (h0:J [] #[] w1)
  (hover:∀ vis seen w,Vis es vis [] seen→J vis seen w→∀ Y,B Y e0 w)
  (hmore:∀ vis rem seen w,rem≠[]→Vis es vis rem seen→J vis seen w→∀ Y:YT,(∀ e w',e∈es.toList→e.born ∉ seen.toList→J (vis++[e]) (seen.push e.born) w'→Y e0 w')→B Y e0 w):LoopE B e0 w1:=by
 refine ⟨fun n e w=>∃ vis rem seen,n=rem.length∧e=e0∧Vis es vis rem seen∧J vis seen w,⟨_,[],_,_,rfl,rfl,Vis.start es,h0⟩,?_⟩
 rintro n e w ⟨vis,rem,seen,rfl,rfl,hv,hj⟩
 by_cases hr:rem=[]
 ·subst hr; exact hover vis seen w hv hj _
 ·refine hmore vis rem seen w hr hv hj _ fun x w' hx hn hj'=>?_
  obtain ⟨rem',hl,hv'⟩:=hv.step hx hn
  exact ⟨rem'.length,by omega,_,rem',_,rfl,rfl,hv',hj'⟩
theorem vis_pairs {K:Type} {enc:K→Value} (hinj:∀ a b,enc a=enc b→a=b) {es:Array MapEntry} {clk:Nat} {m:List (K × Value)} (h:MapIs enc es clk m) {vis:List MapEntry} {seen:Array Nat} (hv:Vis es vis [] seen) {order:List (K × Value)} (ho:vis.map (fun e=>(e.key,e.val))=order.map fun p=>(enc p.1,p.2)):order.Perm m:=by
 have h1:(vis.map fun e=>(e.key,e.val)).Perm (es.toList.map fun e=>(e.key,e.val)):=by
  have:=hv.perm
  rw [List.append_nil] at this
  exact (this.map _).symm
 rw [ho] at h1
 refine perm_of_map' (f:=fun p:K × Value=>(enc p.1,p.2)) (fun a b e=>?_) (h1.trans h.perm)
 obtain ⟨a1,a2⟩:=a
 obtain ⟨b1,b2⟩:=b
 simp only [Prod.mk.injEq] at e
 rw [hinj _ _ e.1,e.2]
theorem MapIs.pair' {K:Type} {enc:K→Value} {es:Array MapEntry} {clk:Nat} {m:List (K × Value)} (h:MapIs enc es clk m) {e:MapEntry} (he:e∈es.toList):∃ q∈m,e.key=enc q.1∧e.val=q.2:=by
 have:(e.key,e.val)∈es.toList.map fun e=>(e.key,e.val):=List.mem_map.2 ⟨e,he,rfl⟩
 obtain ⟨p,hp,hpe⟩:=List.mem_map.1 (h.perm.mem_iff.1 this)
 exact ⟨p,hp,(congrArg Prod.fst hpe).symm,(congrArg Prod.snd hpe).symm⟩
theorem next_nil {b:Nat} {w:World} (hb:w.heap[b]?=some (.mapIter none 0 #[] 0)):(Instr.next (.pointer (some (Addr.mk b 0 none))) false 0).run P w=.ok (.tuple #[.bool false]) w:=by
 have h1:(getObj b).run P w=.ok (.mapIter none 0 #[] 0) w:=by simp [getObj,Sem.run,hb]
 unfold Instr.next
 simp only [Sem.run_bind,h1,Result.andThen_ok]
 rfl
end Go.Fx
namespace Go.Fx.Tryz
open Go Go.Fx Go.Fx.Ch
open Go.Proofs
set_option linter.all false
set_option maxRecDepth 20000
variable {w0 w:World} {H G:HBL} {K:KT} {s:CState} {L:Lay} {q:LB}
theorem freeS_snoc (id:Int) (p:PL):∀ (l:List PL) (s:CState),freeS id (l++[p]) s={ freeS id l s with items:=patchS (freeS id l s).items p 0,hold:=releaseS (freeS id l s).hold p id }
 | [],s=>rfl
 | a::l,s=>freeS_snoc id p l _
theorem dropS_snoc (id:Int) (x:EX):∀ (l:List EX) (s:CState),dropS id (l++[x]) s=if x.chain=0 then dropS id l s else { dropS id l s with hold:=releaseS (dropS id l s).hold (id,x.slot) x.chain }
 | [],s=>rfl
 | a::l,s=>dropS_snoc id x l _
theorem encP_vis {l:List PL} {es:Array MapEntry} {clk:Nat} (h:MapIs encP es clk (trues l)) {e:MapEntry} (he:e∈es.toList):∃ p,e.key=encP p∧e.val=.bool true:=by
 obtain ⟨x,hx,h1,h2⟩:=h.pair' he
 obtain ⟨p,_,rfl⟩:=List.mem_map.1 hx
 exact ⟨p,h1,h2⟩
section
variable {a1 a2 a3:Option Addr} {k1 k2 k3 c1 c2 c3:Nat} {n i:Int} {Y5:YT} {n56:Nat} {id:Int}
theorem zcells142:zcells P 142=#[U 0,J 0]:=by kernel_rfl
theorem zcells62:zcells P 62=#[J 0,J 0,U 0,J 0,U 0]:=by kernel_rfl
theorem forget_s9 {mc it:Nat} {ces:Array MapEntry} {cclk:Nat} {l0:List PL} (hn:w0.heap.size≤n56) (hmc:w0.heap.size≤mc) (hit:w0.heap.size≤it) (hm:MapIs encP ces cclk (trues l0)) (hL:L.Ok w0 q s) (hg:Glob H)
  (h:St w0 w (L.bl q s++((it,.mapIter (some mc) cclk #[] cclk)::(mc,.map ces cclk)::(n56,Cs [U id] 24)::H)))
  (hK:∀ (w':World) (L':Lay) (order:List PL),order.Perm l0→L'.Ok w0 q (freeS id order s)→St w0 w' ((n56,Cs [U id] 24)::(L'.bl q (freeS id order s)++H))→f60_s12 (Addr.mk n56 0 none) (some ⟨q.cb,0,none⟩) a1 k1 c1 a2 k2 c2 a3 k3 c3 n i w' K Y5) :
  f60_s9 (Addr.mk n56 0 none) (some ⟨q.cb,0,none⟩) (Addr.mk it 0 none) a1 k1 c1 a2 k2 c2 a3 k3 c3 n i w K Y5:=by
 rw [f60_s9_eq]
 refine LoopE_map' (es:=ces) (fun vis seen w=>∃ order L',vis.map (fun e=>(e.key,e.val))=(trues order).map (fun p=>(encP p.1,p.2))∧L'.Ok w0 q (freeS id order s)∧
  St w0 w (L'.bl q (freeS id order s)++((it,.mapIter (some mc) cclk seen cclk)::(mc,.map ces cclk)::(n56,Cs [U id] 24)::H))) ⟨[],L,rfl,hL,h⟩ ?_ ?_
 ·rintro vis seen w1 hv ⟨order,L',ho,hL',hs⟩ Y
  show f60_lb10 ..
  rw [f60_lb10_eq]
  have hi:=hs.has _ _ (List.mem_append_right _ (List.mem_cons_self ..))
  have hmm:=hs.has _ _ (List.mem_append_right _ (.tail _ (List.mem_cons_self ..)))
  refine .inl ⟨w1,run_next_over hi hmm hm.st hv.over,?_⟩
  rw [f60_s11_eq]
  have hp:=vis_pairs (fun a b h=>encP_inj h) hm hv ho
  have hp2:order.Perm l0:=perm_of_map' (f:=fun p=>(p,Value.bool true)) (fun a b e=>by cases e; rfl) hp
  have hs2:St w0 w1 ((it,.mapIter (some mc) cclk seen cclk)::(mc,.map ces cclk)::(n56,Cs [U id] 24)::(L'.bl q (freeS id order s)++H)):=hs.perm (perm_by fun c=>by simp only [List.map_append,List.map_cons,List.sum_append,List.sum_cons]; omega)
  exact hK w1 L' order hp2 hL' ((hs2.tail hit).tail hmc)
 ·rintro vis rem seen w1 hr hv ⟨order,L',ho,hL',hs⟩ Y hY
  show f60_lb10 ..
  rw [f60_lb10_eq]
  have hs:St w0 w1 ((it,.mapIter (some mc) cclk seen cclk)::(mc,.map ces cclk)::(n56,Cs [U id] 24)::(L'.bl q (freeS id order s)++H)):=hs.perm (perm_by fun c=>by simp only [List.map_append,List.map_cons,List.sum_append,List.sum_cons]; omega)
  obtain ⟨e,w2,he,hnb,hw2,hk2,hrun⟩:=run_next_some (P:=P) (hs.get (k:=0) rfl) (hs.get (k:=1) rfl) hm.st (hv.more hm.st hr)
  have hs2:=(hs.same hw2 hk2).put (k:=0) rfl (.mapIter (some mc) cclk (seen.push e.born) cclk)
  obtain ⟨p,hek,hev⟩:=encP_vis hm he
  refine .inr ⟨_,_,_,hrun,?_⟩
  rw [f60_s27_eq,f60_s28_eq]
  refine ⟨e.key,e.val,_,run_entry (hs2.get (k:=0) rfl) (hs2.get (k:=1) rfl) (by simp) (find_born hm.st he),_,hek,?_⟩
  rw [zcells142]
  refine hs2.newC fun n308 w309 hn308 h309=>h309.stA (k:=0) rfl rfl (by simp) (by simp [Value.oneCell']) fun w310 h310=>h310.ldA (k:=0) rfl (by simp [splice_length]) ?_
  have h311:St w0 w310 (L'.bl q (freeS id order s)++((n308,Cs [U p.1,J p.2] 142)::(it,.mapIter (some mc) cclk (seen.push e.born) cclk)::(mc,.map ces cclk)::(n56,Cs [U id] 24)::H)):=by
   have h310:St w0 w310 ((n308,Cs [U p.1,J p.2] 142)::(it,.mapIter (some mc) cclk (seen.push e.born) cclk)::(mc,.map ces cclk)::(n56,Cs [U id] 24)::(L'.bl q (freeS id order s)++H)):=h310
   exact h310.perm (perm_by fun c=>by simp only [List.map_append,List.map_cons,List.sum_append,List.sum_cons]; omega)
  have hg2:Glob ((n308,Cs [U p.1,J p.2] 142)::(it,.mapIter (some mc) cclk (seen.push e.born) cclk)::(mc,.map ces cclk)::(n56,Cs [U id] 24)::H):=hg.mono fun u hu=>.tail _ (.tail _ (.tail _ (.tail _ hu)))
  refine patch80_ok h311 hL' hg2 (p:=p) (c:=0) (by decide) (by decide) fun w313 L1 hL1 h313=>⟨rfl,?_⟩
  have h314:St w0 w313 ((n308,Cs [U p.1,J p.2] 142)::(it,.mapIter (some mc) cclk (seen.push e.born) cclk)::(mc,.map ces cclk)::(n56,Cs [U id] 24)::(L1.bl q { freeS id order s with items:=patchS (freeS id order s).items p 0 }++H)):=h313.perm (perm_by fun c=>by simp only [List.map_append,List.map_cons,List.sum_append,List.sum_cons]; omega)
  refine h314.ldA (k:=0) rfl (by simp) ⟨id,h314.cell (k:=3) rfl,?_⟩
  refine release_ok h313 hL1 (p:=p) (c:=id) fun w317 L2 hL2 h317=>⟨rfl,?_⟩
  refine hY e w317 he hnb ⟨order++[p],L2,?_,?_,?_⟩
  ·rw [List.map_append,ho]
   simp [trues,hek,hev]
  ·rw [freeS_snoc]; exact hL2
  ·rw [freeS_snoc]
   have h318:St w0 w317 ((n308,Cs [U p.1,J p.2] 142)::(L2.bl q { freeS id order s with items:=patchS (freeS id order s).items p 0,hold:=releaseS (freeS id order s).hold p id }++((it,.mapIter (some mc) cclk (seen.push e.born) cclk)::(mc,.map ces cclk)::(n56,Cs [U id] 24)::H))):=h317.perm (perm_by fun c=>by simp only [List.map_append,List.map_cons,List.sum_append,List.sum_cons]; omega)
   exact h318.tail hn308
theorem forget_s8 {x:Int} {a61:Addr} (hn:w0.heap.size≤n56) (h:St w0 w ((n56,Cs [U id] 24)::(L.bl q s++H))) (hL:L.Ok w0 q s) (hg:Glob H)
  (hK:∀ (w':World) (L':Lay) (order:List PL),order.Perm ((lk s.hold id).getD [])→L'.Ok w0 q (freeS id order s)→St w0 w' ((n56,Cs [U id] 24)::(L'.bl q (freeS id order s)++H))→f60_s12 (Addr.mk n56 0 none) (some ⟨q.cb,0,none⟩) a1 k1 c1 a2 k2 c2 a3 k3 c3 n i w' K Y5) :
  f60_s8 (Addr.mk n56 0 none) x a61 (some ⟨q.cb,0,none⟩) a1 k1 c1 a2 k2 c2 a3 k3 c3 n i w K Y5:=by
 rw [f60_s8_eq]
 have h1:=h.drew
 rcases hL.look107 (w:=w.drew) (h1.get (k:=4) rfl) id with ⟨e1,e1',hlk⟩ | ⟨a,e,b,e0,hk,e2,hlk⟩
 ·refine ⟨some q.hb,by rw [add_lit']; exact h1.cell (k:=2) rfl,id,h1.cell (k:=0) rfl,none,hlk,?_⟩
  refine copy101_nil h1 fun w73 h73=>⟨none,rfl,?_⟩
  have hr:(Instr.range 124 (.map none)).run P w73=.ok (.pointer (some (Addr.mk w73.heap.size 0 none))) (w73.alloc (.mapIter none 0 #[] 0)):=by
   simp [Instr.range,run_underlying u124]
  refine ⟨_,_,hr,?_⟩
  have h76:=h73.alloc (.mapIter none 0 #[] 0)
  rw [f60_s9_eq]
  refine ⟨fun n' e' w'=>n'=0∧e'=_∧w'=_,⟨0,rfl,rfl,rfl⟩,?_⟩
  rintro n' e' w' ⟨rfl,rfl,rfl⟩
  show f60_lb10 ..
  rw [f60_lb10_eq]
  refine .inl ⟨_,next_nil (h76.get (k:=0) rfl),?_⟩
  rw [f60_s11_eq]
  rw [e1] at hK
  exact hK _ L [] (.refl _) hL (h76.tail h73.le)
 ·refine ⟨some q.hb,by rw [add_lit']; exact h1.cell (k:=2) rfl,id,h1.cell (k:=0) rfl,some e.b,hlk,?_⟩
  have hbm:e.blk∈((n56,Cs [U id] 24)::(L.bl q s++H)):=.tail _ (List.mem_append_left _ (.tail _ (.tail _ (.tail _ (.tail _ (.tail _ (List.mem_append_right _ (List.mem_append_left _ (List.mem_map.2 ⟨e,by rw [e0]; simp,rfl⟩)))))))))
  refine copy101_ok h1 hbm fun mc w73 hmc h73=>⟨some mc,rfl,?_⟩
  refine ⟨_,_,run_range u124 (h73.get (k:=0) rfl),?_⟩
  have h76:=h73.alloc (.mapIter (some mc) e.clk #[] e.clk)
  rw [e2] at hK
  refine forget_s9 (l0:=e.l) hn hmc h73.le (hL.inn e (by rw [e0]; simp)) hL hg (h76.perm (perm_by fun c=>by simp only [List.map_append,List.map_cons,List.sum_append,List.sum_cons]; omega)) hK
theorem forget_s12 (hn:w0.heap.size≤n56) (h:St w0 w ((n56,Cs [U id] 24)::(L.bl q s++H))) (hL:L.Ok w0 q s) (hg:Glob H)
  (hK:∀ (w':World) (L':Lay),L'.Ok w0 q (dropS id (exitsS s.items id) s)→St w0 w' ((n56,Cs [U id] 24)::(L'.bl q (dropS id (exitsS s.items id) s)++H))→f60_s18 (Addr.mk n56 0 none) (some ⟨q.cb,0,none⟩) a1 k1 c1 a2 k2 c2 a3 k3 c3 n i w' K Y5) :
  f60_s12 (Addr.mk n56 0 none) (some ⟨q.cb,0,none⟩) a1 k1 c1 a2 k2 c2 a3 k3 c3 n i w K Y5:=by
 rw [f60_s12_eq]
 refine ⟨id,h.cell (k:=0) rfl,?_⟩
 have hg2:Glob ((n56,Cs [U id] 24)::H):=hg.mono fun u hu=>.tail _ hu
 generalize hxs:exitsS s.items id=xs at *
 refine exits102_ok (h.perm (perm_by fun c=>by simp only [List.map_append,List.map_cons,List.sum_append,List.sum_cons]; omega)) hL hg2 id fun w115 a c N hb h115 hN hS=>?_
 rw [hxs] at hS hb ⊢
 refine ⟨a,xs.length,c,rfl,?_⟩
 rw [f60_s13_eq]
 have h116:St w0 w115 (L.bl q s++(N++((n56,Cs [U id] 24)::H))):=h115.perm (perm_by fun c=>by simp only [List.map_append,List.map_cons,List.sum_append,List.sum_cons]; omega)
 refine ⟨fun m e' w'=>∃ (j:Nat) (L':Lay),j≤xs.length∧m=xs.length - j∧e'=Env.mk 92 [(46,J j),(7,.pointer (some (Addr.mk n56 0 none))),(0,.pointer (some ⟨q.cb,0,none⟩)),(44,.slice a xs.length c),(4,.slice a1 k1 c1),(5,.slice a2 k2 c2),(17,.slice a3 k3 c3),(18,J n),(19,J i),(45,J xs.length)] []∧
  L'.Ok w0 q (dropS id (xs.take j) s)∧St w0 w' (L'.bl q (dropS id (xs.take j) s)++(N++((n56,Cs [U id] 24)::H))),⟨_,0,L,by omega,rfl,rfl,hL,h116⟩,?_⟩
 rintro m e' w' ⟨j,L',hj,rfl,rfl,hL',hs⟩
 show f60_lb14 ..
 rw [f60_lb14_eq,f60_s15_eq,BIf_iff]
 refine ⟨fun hlt=>?_,fun hge=>?_⟩
 ·have hlt:j < xs.length:=by have:=of_decide_eq_true hlt; omega
  rw [f60_s16_eq]
  have hrow:∀ w2,St w0 w2 (L'.bl q (dropS id (xs.take j) s)++(N++((n56,Cs [U id] 24)::H)))→Row w2 5 (.slice a xs.length c) xs.length (xs.map Xc).flatten:=fun w2 h2=>hS.row fun u hu=>h2.has _ _ (List.mem_append_right _ (List.mem_append_left _ hu))
  obtain ⟨ad,cp,hac,hld⟩:=(hrow w' hs).ldA hlt
  injection hac with hac _ _
  subst hac
  refine ⟨by omega,by omega,?_⟩
  rw [Int.toNat_natCast]
  refine hld _ ?_
  rw [flat_at Xc 5 Xc_len xs hlt,zcells62]
  generalize hxj:xs[j]=x at *
  refine hs.newC fun n162 w163 hn162 h163=>h163.stA (k:=0) rfl rfl (by simp) (by simp [Xc,Value.oneCell']) fun w164 h164=>?_
  have h164:St w0 w164 ((n162,Cs (Xc x) 62)::(L'.bl q (dropS id (xs.take j) s)++(N++((n56,Cs [U id] 24)::H)))):=h164
  have hdrop:dropS id (xs.take (j+1)) s=if x.chain=0 then dropS id (xs.take j) s else { dropS id (xs.take j) s with hold:=releaseS (dropS id (xs.take j) s).hold (id,x.slot) x.chain }:=by
   rw [take_succ' xs hlt,dropS_snoc,hxj]
  have next:∀ {w2:World} {L2:Lay},L2.Ok w0 q (dropS id (xs.take (j+1)) s)→St w0 w2 (L2.bl q (dropS id (xs.take (j+1)) s)++(N++((n56,Cs [U id] 24)::H)))→
    f60_s17 (Addr.mk n56 0 none) (some ⟨q.cb,0,none⟩) (some ad) xs.length c a1 k1 c1 a2 k2 c2 a3 k3 c3 n i xs.length j w2 K Y5 (fun e' w'=>∃ m,m < xs.length - j∧∃ (j:Nat) (L':Lay),j≤xs.length∧m=xs.length - j∧e'=Env.mk 92 [(46,J j),(7,.pointer (some (Addr.mk n56 0 none))),(0,.pointer (some ⟨q.cb,0,none⟩)),(44,.slice (some ad) xs.length c),(4,.slice a1 k1 c1),(5,.slice a2 k2 c2),(17,.slice a3 k3 c3),(18,J n),(19,J i),(45,J xs.length)] []∧
  L'.Ok w0 q (dropS id (xs.take j) s)∧St w0 w' (L'.bl q (dropS id (xs.take j) s)++(N++((n56,Cs [U id] 24)::H)))):=fun {w2 L2} h1 h2=>by
   rw [f60_s17_eq]
   exact ⟨xs.length - (j+1),by omega,j+1,L2,by omega,rfl,by rw [wrap_i64 (by omega) (by omega)]; rfl,h1,h2⟩
  refine ⟨x.chain,by rw [add_lit']; exact h164.cell (k:=0) rfl,?_⟩
  rw [BIf_iff]
  refine ⟨fun hc=>?_,fun hc=>?_⟩
  ·have hc:x.chain≠0:=by simpa using hc
   rw [if_neg hc] at hdrop
   have hid:(n56,Cs [U id] 24)∈((n162,Cs (Xc x) 62)::(L'.bl q (dropS id (xs.take j) s)++(N++((n56,Cs [U id] 24)::H)))):=.tail _ (List.mem_append_right _ (List.mem_append_right _ (.head _)))
   refine ⟨id,by rw [cell_of (h164.has _ _ hid)]; rfl,x.slot,by rw [add_lit']; exact h164.cell (k:=0) rfl,#[U id,J x.slot],fun wq=>by kernel_rfl,x.chain,by rw [add_lit']; exact h164.cell (k:=0) rfl,?_⟩
   refine release_ok (p:=(id,x.slot)) (c:=x.chain) (h164.tail hn162) hL' fun w171 L2 hL2 h171=>⟨rfl,?_⟩
   rw [← hdrop] at hL2 h171
   exact next hL2 h171
  ·have hc:x.chain=0:=by simpa using hc
   rw [if_pos hc] at hdrop
   rw [← hdrop] at hL' h164
   exact next hL' (h164.tail hn162)
 ·have:j=xs.length:=by have:=of_decide_eq_false hge; omega
  subst this
  rw [List.take_length] at hL' hs
  have h3:St w0 w' (N++((n56,Cs [U id] 24)::(L'.bl q (dropS id xs s)++H))):=hs.perm (perm_by fun c=>by simp only [List.map_append,List.map_cons,List.sum_append,List.sum_cons]; omega)
  exact hK w' L' hL' (h3.sub hN)
end
end Go.Fx.Tryz
namespace Go.Fx.Tryz
open Go Go.Fx Go.Fx.Ch
open Go.Proofs
set_option linter.all false
set_option maxRecDepth 20000
variable {w0 w:World} {H G:HBL} {K:KT} {s:CState} {L:Lay} {q:LB}
theorem Lay.takeR {A:HBL} {a b:List (Value × List (Nat × Obj))} {v:Value × List (Nat × Obj)} (e0:L.rv=a++v::b):(A++(L.bl q s++H)).Perm (v.2++(A++(({ L with rv:=a++(v.1,[])::b }:Lay).bl q s++H))):=
 perm_by fun c=>by simp only [Lay.bl,Lay.b4,Lay.rest,e0,List.cons_append,List.nil_append,List.map_append,List.map_cons,List.flatten_append,List.flatten_cons,List.sum_append,List.sum_cons]; omega
theorem Lay.giveR {A X:HBL} {a b:List (Value × List (Nat × Obj))} {v:Value}:(X++(A++(({ L with rv:=a++(v,[])::b }:Lay).bl q s++H))).Perm (A++(({ L with rv:=a++(v,X)::b }:Lay).bl q s++H)):=
 perm_by fun c=>by simp only [Lay.bl,Lay.b4,Lay.rest,List.cons_append,List.nil_append,List.map_append,List.map_cons,List.flatten_append,List.flatten_cons,List.sum_append,List.sum_cons]; omega
theorem Lay.bl_rows {rs:List (List Int)} (h:rs.length=s.rows.length):L.bl q { s with rows:=rs }=L.bl q s:=by
 unfold Lay.bl Lay.b4 CCs
 simp only [h]
theorem Lay.Ok.setR (hL:L.Ok w0 q s) {rs:List (List Int)} {rv:List (Value × List (Nat × Obj))} (hr:RowsAt rs rv) (hl:rs.length=s.rows.length) (hn:New w0 (rv.map (·.2)).flatten):({ L with rv:=rv }:Lay).Ok w0 q { s with rows:=rs }:=
 ⟨hL.nc,hL.ni,hL.nh,hL.nr,hL.nt,New.append hn (New.right hL.new),hL.its,hL.hm,hL.hs,hL.inn,hr,hL.k4,hL.k16,hL.tl,by show rs.length < _; rw [hl]; exact hL.rl,by show _ < rs.length; rw [hl]; exact hL.cur⟩
theorem Forgets.snoc {s s1:CState} {l:List Int} (h:Forgets s l s1) {id:Int} {order:List PL} (ho:order.Perm ((lk s1.hold id).getD [])):Forgets s (l++[id]) (forget1 order s1 id):=by
 induction h with
 | nil s=>exact .cons ho (.nil _)
 | cons h1 h2 ih=>exact .cons h1 (ih ho)
section
variable {a1 a2 a3:Option Addr} {k1 k2 k3 c1 c2 c3:Nat} {n i:Int} {Y5:YT} {n56:Nat} {id:Int}
theorem forget_s19 {x:Int} {p:Option Addr} (hn:w0.heap.size≤n56) (h:St w0 w (L.bl q s++((n56,Cs [U id] 24)::H))) (hL:L.Ok w0 q s)
  (hK:∀ (w':World) (L':Lay),L'.Ok w0 q { s with rows:=s.rows.map fun r=>r.filter (keepN id) }→St w0 w' (L'.bl q { s with rows:=s.rows.map fun r=>r.filter (keepN id) }++((n56,Cs [U id] 24)::H))→f60_s25 (some ⟨q.cb,0,none⟩) a1 k1 c1 a2 k2 c2 a3 k3 c3 n i (Addr.mk n56 0 none) w' K Y5) :
  f60_s19 x p (Addr.mk n56 0 none) (some ⟨q.cb,0,none⟩) a1 k1 c1 a2 k2 c2 a3 k3 c3 n i w K Y5:=by
 rw [f60_s19_eq]
 refine ⟨some ⟨q.rb,0,none⟩,s.rows.length,s.rows.length,by rw [add_lit']; exact h.cell (k:=1) rfl,?_⟩
 rw [f60_s20_eq]
 have hlen:∀ j,(((s.rows.take j).map fun r=>r.filter (keepN id))++s.rows.drop j).length=s.rows.length:=fun j=>by simp; omega
 have hrl:=hL.rl
 refine ⟨fun m e' w'=>∃ (j:Nat) (L':Lay),j≤s.rows.length∧m=s.rows.length - j∧e'=Env.mk 92 [(70,J j),(7,.pointer (some (Addr.mk n56 0 none))),(0,.pointer (some ⟨q.cb,0,none⟩)),(68,.slice (some ⟨q.rb,0,none⟩) s.rows.length s.rows.length),(4,.slice a1 k1 c1),(5,.slice a2 k2 c2),(17,.slice a3 k3 c3),(18,J n),(19,J i),(69,J s.rows.length)] []∧
  L'.Ok w0 q { s with rows:=((s.rows.take j).map fun r=>r.filter (keepN id))++s.rows.drop j }∧St w0 w' (L'.bl q s++((n56,Cs [U id] 24)::H)),⟨_,0,L,by omega,rfl,rfl,hL,h⟩,?_⟩
 rintro m e' w' ⟨j,L',hj,rfl,rfl,hL',hs⟩
 show f60_lb21 ..
 rw [f60_lb21_eq,f60_s22_eq,BIf_iff]
 refine ⟨fun hlt=>?_,fun hge=>?_⟩
 ·have hlt:j < s.rows.length:=by have:=of_decide_eq_true hlt; omega
  rw [f60_s23_eq]
  have hget:(((s.rows.take j).map fun r=>r.filter (keepN id))++s.rows.drop j)[j]?=some s.rows[j]:=by
   rw [List.getElem?_append_right (by simp; omega)]
   simp [Nat.min_eq_left (Nat.le_of_lt hlt),List.getElem?_eq_getElem hlt]
  obtain ⟨a,v,b,e0,hal,hv,hset⟩:=hL'.rows.split hget
  obtain ⟨sa,sc,hsv⟩:=hv.form
  have hrv:(L'.rv.map (·.1))[j]?=some (.slice sa s.rows[j].length sc):=by
   rw [e0,List.map_append,List.getElem?_append_right (by simp; omega)]
   simp [hal,hsv]
  refine ⟨by omega,by omega,sa,s.rows[j].length,sc,?_,some ⟨q.rb,0,none⟩,s.rows.length,s.rows.length,by rw [add_lit']; exact hs.cell (k:=1) rfl,?_⟩
  ·rw [add_lit',Int.toNat_natCast,Nat.mul_one,Nat.zero_add]
   rw [hs.cell (k:=4) rfl]; exact hrv
  have h1:=(hs.drew).perm (Lay.takeR (A:=[]) e0)
  have hnew:New w0 (L'.rv.map (·.2)).flatten:=New.left hL'.new
  rw [e0] at hnew
  simp only [List.map_append,List.map_cons,List.flatten_append,List.flatten_cons] at hnew
  rw [← hsv]
  refine del104_ok (id:=id) (t:=24) h1 (List.mem_append_right _ (List.mem_append_right _ (.head _))) hv (New.left (New.right hnew)) (SlO.lt hv) fun a' c' X w254 hX hXN h254=>⟨_,_,_,rfl,?_⟩
  have h255:St w0 w254 (({ L' with rv:=a++(v.1,[])::b }:Lay).bl q s++(X++((n56,Cs [U id] 24)::H))):=h254.perm (perm_by fun c=>by simp only [List.nil_append,List.map_append,List.map_cons,List.sum_append,List.sum_cons]; omega)
  refine ⟨by rw [add_lit']; exact h255.cell (k:=1) rfl,by omega,by omega,?_⟩
  rw [add_lit',Int.toNat_natCast,Nat.mul_one,Nat.zero_add]
  refine h255.st1 (k:=4) rfl (by simp; omega) rfl fun w257 h257=>?_
  rw [f60_s24_eq]
  have hse:((a++(v.1,([]:HBL))::b).map (·.1)).set j (.slice a' (s.rows[j].filter (keepN id)).length c')=(a++(.slice a' (s.rows[j].filter (keepN id)).length c',([]:HBL))::b).map (·.1):=by
   rw [List.map_append,List.set_append_right _ _ (by simp; omega)]
   simp [hal]
  have h258:St w0 w257 (({ L' with rv:=a++(.slice a' (s.rows[j].filter (keepN id)).length c',[])::b }:Lay).bl q s++(X++((n56,Cs [U id] 24)::H))):=by
   have h257:St w0 w257 (((q.tb,Cs (s.table.map U) 24)::(q.cb,Cs (CCs s q.ib q.hb q.rb q.tb) 109)::(q.ib,.map L'.ies L'.iclk)::(q.hb,.map L'.hes L'.hclk)::(q.rb,Cs (((a++(v.1,([]:HBL))::b).map (·.1)).set j (.slice a' (s.rows[j].filter (keepN id)).length c')) 22)::({ L' with rv:=a++(v.1,[])::b }:Lay).rest)++(X++((n56,Cs [U id] 24)::H))):=h257
   rw [hse] at h257
   refine h257.perm (perm_by fun c=>?_)
   simp only [Lay.bl,Lay.b4,Lay.rest,List.cons_append,List.nil_append,List.map_append,List.map_cons,List.flatten_append,List.flatten_cons,List.sum_append,List.sum_cons]
  have h259:St w0 w257 (X++([]++(({ L' with rv:=a++(.slice a' (s.rows[j].filter (keepN id)).length c',[])::b }:Lay).bl q s++((n56,Cs [U id] 24)::H)))):=h258.perm (perm_by fun c=>by simp only [List.nil_append,List.map_append,List.map_cons,List.sum_append,List.sum_cons]; omega)
  have h260:=h259.perm Lay.giveR
  have hrows:=hset (s.rows[j].filter (keepN id)) (.slice a' (s.rows[j].filter (keepN id)).length c',X) hX
  have hstep:(((s.rows.take j).map fun r=>r.filter (keepN id))++s.rows.drop j).set j (s.rows[j].filter (keepN id))=((s.rows.take (j+1)).map fun r=>r.filter (keepN id))++s.rows.drop (j+1):=by
   have hl:(List.map (fun r=>List.filter (keepN id) r) (List.take j s.rows)).length=j:=by simp; omega
   rw [List.set_append_right _ _ (by omega),hl,Nat.sub_self,take_succ' s.rows hlt,List.map_append,List.append_assoc]
   congr 1
   rw [List.drop_eq_getElem_cons hlt]
   rfl
  rw [hstep] at hrows
  have hok:=hL'.setR hrows (by rw [hlen,hlen]) (by
   simp only [List.map_append,List.map_cons,List.flatten_append,List.flatten_cons]
   exact New.append (New.left hnew) (New.append hXN (New.right (New.right hnew))))
  exact ⟨s.rows.length - (j+1),by omega,j+1,_,by omega,rfl,by rw [wrap_i64 (by omega) (by omega)]; rfl,hok,h260⟩
 ·have:j=s.rows.length:=by have:=of_decide_eq_false hge; omega
  subst this
  rw [List.take_length,List.drop_length,List.append_nil] at hL'
  refine hK w' L' hL' ?_
  rw [Lay.bl_rows (by simp)]
  exact hs
theorem forget_s18 (hn:w0.heap.size≤n56) (h:St w0 w ((n56,Cs [U id] 24)::(L.bl q s++H))) (hL:L.Ok w0 q s) (hg:Glob H)
  (hK:∀ (w':World) (L':Lay) (s':CState),s'={ s with table:=removeT s id,rows:=s.rows.map (fun r=>r.filter fun x=>x≠id),items:=dl s.items id }→L'.Ok w0 q s'→St w0 w' (L'.bl q s'++H)→Y5 (Env.mk 92 [(0,.pointer (some ⟨q.cb,0,none⟩)),(4,.slice a1 k1 c1),(5,.slice a2 k2 c2),(19,J (IntKind.wrap .i64 (i+1))),(17,.slice a3 k3 c3),(18,J n)] []) w') :
  f60_s18 (Addr.mk n56 0 none) (some ⟨q.cb,0,none⟩) a1 k1 c1 a2 k2 c2 a3 k3 c3 n i w K Y5:=by
 rw [f60_s18_eq]
 refine ⟨id,h.cell (k:=0) rfl,?_⟩
 have hg2:Glob ((n56,Cs [U id] 24)::H):=hg.mono fun u hu=>.tail _ hu
 have h1:St w0 w ((q.tb,Cs (s.table.map U) 24)::(L.b4 q s++((n56,Cs [U id] 24)::H))):=h.perm (perm_by fun c=>by simp only [Lay.bl,List.cons_append,List.map_append,List.map_cons,List.sum_append,List.sum_cons]; omega)
 refine remove_ok (G:=L.G) h1 (hL.knownC hg2) (fun u hu=>List.mem_append_left _ (.tail _ (.tail _ (.tail _ (.tail _ (List.mem_append_right _ (List.mem_append_right _ hu))))))) fun w191 hlen h191=>⟨rfl,?_⟩
 have hL1:L.Ok w0 q { s with table:=removeT s id }:=⟨hL.nc,hL.ni,hL.nh,hL.nr,hL.nt,hL.new,hL.its,hL.hm,hL.hs,hL.inn,hL.rows,hL.k4,hL.k16,hlen,hL.rl,hL.cur⟩
 have h192:St w0 w191 (L.bl q { s with table:=removeT s id }++((n56,Cs [U id] 24)::H)):=h191
 refine forget_s19 (s:={ s with table:=removeT s id }) hn h192 hL1 fun w' L' hL' h'=>?_
 rw [f60_s25_eq]
 have h2:=h'.drew
 have hid:(n56,Cs [U id] 24)∈(L'.bl q { ({ s with table:=removeT s id }:CState) with rows:=s.rows.map fun r=>r.filter (keepN id) }++((n56,Cs [U id] 24)::H)):=List.mem_append_right _ (.head _)
 obtain ⟨es',hr,hit⟩:=hL'.its.delete (h2.get (k:=2) rfl) id 0
 refine ⟨some q.ib,by rw [add_lit']; exact h2.cell (k:=1) rfl,id,by rw [cell_of (h2.has _ _ hid)]; rfl,_,hr,?_⟩
 have h3:=h2.put (k:=2) rfl (.map es' L'.iclk)
 rw [f60_s26_eq]
 have hok:=hL'.items hit
 have h4:St w0 (w'.drew.putObj q.ib (.map es' L'.iclk)) ((n56,Cs [U id] 24)::(({ L' with ies:=es',iclk:=L'.iclk }:Lay).bl q { s with table:=removeT s id,rows:=s.rows.map fun r=>r.filter (keepN id),items:=dl s.items id }++H)):=
  St.perm (H:=({ L' with ies:=es',iclk:=L'.iclk }:Lay).bl q { s with table:=removeT s id,rows:=s.rows.map fun r=>r.filter (keepN id),items:=dl s.items id }++((n56,Cs [U id] 24)::H)) h3 (perm_by fun c=>by simp only [List.map_append,List.map_cons,List.sum_append,List.sum_cons]; omega)
 exact hK _ _ _ rfl hok (h4.tail hn)
end
def Sort61 (w0:World):Prop:=∀ (w:World) (H N:HBL) (K:KT) (ov:Value) (l:List Int),l.length < 1000000→SlO 1 24 ov l.length (l.map U) N→New w0 N→St w0 w (N++H)→
 (∀ w' N',SlO 1 24 ov l.length ((sortI l).map U) N'→New w0 N'→St w0 w' (N'++H)→K (.tuple [].toArray) w')→CallL P 61 [ov] w K
theorem bs22 (w:World):(Instr.buildSlice 22 0 ([]:List (Nat × Value)).toArray).run P w=.ok (.slice (some ⟨w.heap.size,0,none⟩) 0 0) (w.alloc (.cells #[] 24 (0,0))):=by kernel_rfl
theorem one_U (l:List Int):∀ v∈l.map U,v.oneCell'=true:=by
 intro v hv
 obtain ⟨x,_,rfl⟩:=List.mem_map.1 hv
 rfl
theorem clone75_ok {l:List Int} {ov:Value} (h:St w0 w H) (hB:∀ w',St w0 w' H→Row w' 1 ov l.length (l.map U)) (hlen:l.length < 1000000000) (hK:∀ w' ov' N,SlO 1 24 ov' l.length (l.map U) N→New w0 N→St w0 w' (N++H)→K ov' w'):CallL P 75 [ov] w K:=by
 obtain ⟨sa,sc,rfl⟩:=(hB w h).form
 refine f75_ok _ _ _ _ _ ?_
 rw [f75_eq]
 cases sa with
 | none=>
  simp only [Option.isNone_none,BIf_true]
  have h0:l.length=0:=by
   rcases (hB w h).2 with ⟨_,h0⟩ | ⟨ad,cp,h1,_⟩
   ·exact h0
   ·cases h1
  have hb:l=[]:=List.eq_nil_of_length_eq_zero h0
  subst hb
  exact hK w _ [] (SlO.nil 1 24) (New.nil w0) h
 | some a=>
  simp only [Option.isNone_some,BIf_false]
  rw [f75_s0_eq]
  have h1:St w0 (w.alloc (.cells #[] 24 (0,0))) ([(w.heap.size,Cs [] 24)]++H):=h.alloc _
  have hS:SlO 1 24 (.slice (some ⟨w.heap.size,0,none⟩) 0 0) 0 [] [(w.heap.size,Cs [] 24)]:=⟨rfl,.inr ⟨w.heap.size,0,[],rfl,rfl,Nat.le_refl _,Nat.zero_le _,rfl,rfl⟩⟩
  have hN:New w0 [(w.heap.size,Cs [] 24)]:=fun x hx=>by rw [List.mem_singleton.1 hx]; exact h.le
  have hr:=hB _ (h1.sub hN)
  obtain ⟨v',w',L',hrun,hS',hs',hN'⟩:=St.appendS (P:=P) 22 22 24 Tryz.t24 (U 0) 1 4 Tryz.underlying22 (by kernel_rfl) rfl rfl rfl rfl (by omega) (A:=[]) (H:=H) h1 hS hN (ad:=a) (m:=l.length) (c:=sc) (news:=l.map U) (by simp) (fun j u hu=>by
   rcases hr.2 with ⟨h0,_⟩ | ⟨ad,cp,e1,e2⟩
   ·cases h0
   ·injection e1 with e1 _ _
    injection e1 with e1
    subst e1
    have hj:j < l.length:=by
     have:=(List.getElem?_eq_some_iff.1 hu).1
     simpa using this
    rw [e2 j (by omega)]; exact hu) (one_U l) (by simp [maxLen]; omega) (by omega)
  obtain ⟨va,vc,rfl⟩:=hS'.form
  refine ⟨_,_,_,_,bs22 w,_,_,_,w',hrun,?_⟩
  refine hK w' _ L' ?_ hN' hs'
  simpa using hS'
theorem sortI_length (l:List Int):(sortI l).length=l.length:=List.length_mergeSort l
theorem forget_ok (hsort:Sort61 w0) (h:St w0 w (L.bl q s++H)) (hL:L.Ok w0 q s) (hg:Glob H) {ids:List Int} {ov:Value} (hB:∀ w',St w0 w' (L.bl q s++H)→Row w' 1 ov ids.length (ids.map U)) (hlen:ids.length < 1000000)
  (hK:∀ (w':World) (L':Lay) (s':CState) (ov':Value) (N:HBL),Forgets s (sortI ids) s'→L'.Ok w0 q s'→SlO 1 24 ov' (sortI ids).length ((sortI ids).map U) N→New w0 N→St w0 w' (N++(L'.bl q s'++H))→K ov' w'):CallL P 60 [.pointer (some ⟨q.cb,0,none⟩),ov] w K:=by
 obtain ⟨sa,sc,e⟩:=(hB w h).form
 subst e
 refine f60_ok _ _ _ _ _ _ ?_
 rw [f60_eq,f60_s0_eq,f60_s1_eq]
 refine clone75_ok h hB (by omega) fun w8 ov1 N hS hN h8=>?_
 obtain ⟨la,lc,e⟩:=hS.form
 subst e
 refine ⟨_,_,_,rfl,?_⟩
 rw [f60_s2_eq]
 refine hsort _ _ _ _ _ _ hlen hS hN h8 fun w17 N2 hS2 hN2 h17=>⟨rfl,?_⟩
 rw [f60_s3_eq,f60_s4_eq]
 have hll:=sortI_length ids
 rw [← hll] at hS2
 rw [← hll]
 rw [← hll] at hlen
 generalize hl:sortI ids=l at *
 refine ⟨fun m e' w'=>∃ (j:Nat) (L':Lay) (s':CState),j≤l.length∧m=l.length - j∧e'=Env.mk 92 [(0,.pointer (some ⟨q.cb,0,none⟩)),(4,.slice none 0 0),(5,.slice la l.length lc),(19,J j),(17,.slice la l.length lc),(18,J l.length)] []∧
  Forgets s (l.take j) s'∧L'.Ok w0 q s'∧St w0 w' (L'.bl q s'++(N2++H)),⟨_,0,L,s,by omega,rfl,by rw [hll]; rfl,.nil _,hL,h17.perm (perm_by fun c=>by simp only [List.map_append,List.sum_append]; omega)⟩,?_⟩
 rintro m e' w' ⟨j,L',s',hj,rfl,rfl,hF,hL',hs⟩
 show f60_lb5 ..
 rw [f60_lb5_eq,f60_s6_eq,BIf_iff]
 have hg2:Glob (N2++H):=hg.mono fun u hu=>List.mem_append_right _ hu
 refine ⟨fun hlt=>?_,fun hge=>?_⟩
 ·have hlt:j < l.length:=by have:=of_decide_eq_true hlt; omega
  rw [f60_s7_eq]
  have hrow:Row w' 1 (.slice la l.length lc) l.length (l.map U):=hS2.row fun u hu=>hs.has _ _ (List.mem_append_right _ (List.mem_append_left _ hu))
  obtain ⟨ad,cp,hac,_⟩:=hrow.ldA hlt
  injection hac with hac _ _
  subst hac
  refine ⟨by omega,by omega,l[j],by rw [Int.toNat_natCast]; exact row1_cell hrow hlt,?_⟩
  rw [zc24]
  refine hs.newC fun n56 w57 hn56 h57=>h57.st1 (k:=0) rfl (by simp) rfl fun w58 h58=>?_
  have h58:St w0 w58 ((n56,Cs [U l[j]] 24)::(L'.bl q s'++(N2++H))):=h58
  refine forget_s8 hn56 h58 hL' hg2 fun w2 L2 order ho hL2 h2=>?_
  refine forget_s12 hn56 h2 hL2 hg2 fun w3 L3 hL3 h3=>?_
  refine forget_s18 hn56 h3 hL3 hg2 fun w4 L4 s4 e4 hL4 h4=>?_
  have hf:s4=forget1 order s' l[j]:=e4
  subst hf
  refine ⟨l.length - (j+1),by omega,j+1,L4,_,by omega,rfl,by rw [wrap_i64 (by omega) (by omega)]; rfl,?_,hL4,h4⟩
  rw [take_succ' l hlt]
  exact Forgets.snoc hF ho
 ·have:j=l.length:=by have:=of_decide_eq_false hge; omega
  subst this
  rw [List.take_length] at hF
  rw [f60_s29_eq]
  exact hK w' L' s' _ N2 hF hL' hS2 hN2 (hs.perm (perm_by fun c=>by simp only [List.map_append,List.sum_append]; omega))
end Go.Fx.Tryz
namespace Go.Fx.Tryz
set_option maxRecDepth 100000
open Go Go.Fx Go.Proofs
noncomputable def c176:Code:=bodyOf Tryz.f176
noncomputable def rs176:List ResultVar:=Tryz.f176.results.toList
abbrev f176_kb (K:KT):Exit→YT:=bodyK P rs176 K
def f176 (a:Int) (w:World) (K:KT):Prop:=CS P c176 none [2] [2] (f176_kb K) (env0 6 [(Value.int .u32 a)]) w
theorem f176_eq (a:Int) (w:World) (K:KT):f176 a w K=(K (Value.bool ((a:Int) != a)) w):=by kernel_rfl
theorem f176_ok (a:Int) (w:World) (K:KT) (h:f176 a w K):CallL P 176 [(Value.int .u32 a)] w K:=okCS c176 Tryz.func176 (by kernel_rfl) (by kernel_rfl) h
noncomputable def c142:Code:=bodyOf Tryz.f142
noncomputable def rs142:List ResultVar:=Tryz.f142.results.toList
abbrev f142_kb (K:KT):Exit→YT:=bodyK P rs142 K
def f142 (a:OA) (b c:Nat) (d e:Int) (w:World) (K:KT):Prop:=CS P c142 none [] [] (f142_kb K) (env0 49 [(VS a b c),(VI d),(VI e)]) w
def f142_s0 (a:OA) (b c:Nat) (d e:Int) (w:World) (K:KT):Prop:=CS P (cA c142 1) none [] [] (f142_kb K) (Env.mk 49 [(0,(VS a b c)),(1,(VI d)),(2,(VI e))] []) w
abbrev f142_k0 (K:KT):Exit→YT:=kseq P (cA c142 2) (cA c142 3) none [] [] (f142_kb K)
def f142_s1 (a b c:Int) (d:OA) (e f:Nat) (g h:Int) (w:World) (K:KT):Prop:=CS P (cA c142 3) none [] [] (f142_kb K) (Env.mk 49 [(6,(VI a)),(9,(VI b)),(8,(VI c)),(0,(VS d e f)),(1,(VI g)),(2,(VI h))] []) w
abbrev f142_k1 (K:KT):Exit→YT:=kblock 0 (f142_kb K)
def f142_lp2 (K:KT) (Y2:YT) (e:Env) (w:World):Prop:=Join (fun e w=>CS P (cA c142 12) none [0,6,1,2] [] (kloop [0,6,1,2] Y2 (f142_k1 K)) e w) e w
abbrev f142_kl2 (K:KT) (Y2:YT):Exit→YT:=kloop [0,6,1,2] Y2 (f142_k1 K)
def f142_lb2 (a:OA) (b c:Nat) (d f g:Int) (w:World) (K:KT) (Y2:YT):Prop:=SG P (cA c142 12) none [0,6,1,2] [] (f142_kl2 K Y2) (Env.mk 49 [(0,(VS a b c)),(6,(VI d)),(1,(VI f)),(2,(VI g))] []) w
abbrev f142_k2 (K:KT) (Y2:YT):Exit→YT:=kseq P (cA c142 24) (cA c142 25) none [0,6,1,2] [] (f142_kl2 K Y2)
abbrev f142_k3 (K:KT) (Y2:YT):Exit→YT:=kseq P (cA c142 48) (cA c142 49) none [0,1,2,6] [] (f142_k2 K Y2)
def f142_s3 (a:OA) (b c:Nat) (d f g:Int) (w:World) (K:KT) (Y2:YT):Prop:=SG P (cA c142 25) none [0,6,1,2] [] (f142_kl2 K Y2) (Env.mk 49 [(0,(VS a b c)),(1,(VI d)),(2,(VI f)),(6,(VI g))] []) w
abbrev f142_k4 (K:KT) (Y2:YT):Exit→YT:=kseq P (cA c142 50) (cA c142 51) none [0,6,1,2] [] (f142_kl2 K Y2)
abbrev f142_k5 (K:KT) (Y2:YT):Exit→YT:=kblock 1 (f142_k4 K Y2)
abbrev f142_k6 (K:KT) (Y2:YT):Exit→YT:=kseq P (cA c142 200) (cA c142 201) none [0,1,2,6] [0,1,2,6] (f142_k5 K Y2)
def f142_s4 (a b:Int) (c:OA) (d e:Nat) (f g h:Int) (w:World) (K:KT) (Y2:YT):Prop:=CS P (cA c142 201) none [0,1,2,6] [0,1,2,6] (f142_k5 K Y2) (Env.mk 49 [(7,(VI a)),(15,(VI b)),(0,(VS c d e)),(1,(VI f)),(2,(VI g)),(6,(VI h))] []) w
abbrev f142_k7 (K:KT) (Y2:YT):Exit→YT:=kblock 2 (f142_k5 K Y2)
def f142_lp5 (K:KT) (Y2 Y5:YT) (e:Env) (w:World):Prop:=Join (fun e w=>CS P (cA c142 804) none [7,0,1,2,6] [0,1,2,6] (kloop [7,0,1,2,6] Y5 (f142_k7 K Y2)) e w) e w
abbrev f142_kl5 (K:KT) (Y2 Y5:YT):Exit→YT:=kloop [7,0,1,2,6] Y5 (f142_k7 K Y2)
def f142_lb5 (a:Int) (b:OA) (c d:Nat) (f g h:Int) (w:World) (K:KT) (Y2 Y5:YT):Prop:=SG P (cA c142 804) none [7,0,1,2,6] [0,1,2,6] (f142_kl5 K Y2 Y5) (Env.mk 49 [(7,(VI a)),(0,(VS b c d)),(1,(VI f)),(2,(VI g)),(6,(VI h))] []) w
abbrev f142_k8 (K:KT) (Y2 Y5:YT):Exit→YT:=kseq P (cA c142 1608) (cA c142 1609) none [7,0,1,2,6] [0,1,2,6] (f142_kl5 K Y2 Y5)
abbrev f142_k9 (K:KT) (Y2 Y5:YT):Exit→YT:=kseq P (cA c142 3216) (cA c142 3217) none [0,1,2,6,7] [0,1,2,6] (f142_k8 K Y2 Y5)
def f142_s6 (a:Bool) (b:OA) (c d:Nat) (f g h i:Int) (w:World) (K:KT) (Y2 Y5:YT):Prop:=SG P (cA c142 3217) none [0,1,2,6,7] [0,1,2,6] (f142_k8 K Y2 Y5) (Env.mk 49 [(30,(VB a)),(0,(VS b c d)),(1,(VI f)),(2,(VI g)),(6,(VI h)),(7,(VI i))] []) w
def f142_s7 (a:OA) (b c:Nat) (d f g h:Int) (w:World) (K:KT) (Y2 Y5:YT):Prop:=SG P (cA c142 1609) none [7,0,1,2,6] [0,1,2,6] (f142_kl5 K Y2 Y5) (Env.mk 49 [(0,(VS a b c)),(1,(VI d)),(2,(VI f)),(6,(VI g)),(7,(VI h))] []) w
abbrev f142_k10 (K:KT) (Y2 Y5:YT):Exit→YT:=kseq P (cA c142 3218) (cA c142 3219) none [7,0,1,2,6] [0,1,2,6] (f142_kl5 K Y2 Y5)
abbrev f142_k11 (K:KT) (Y2 Y5:YT):Exit→YT:=kblock 3 (f142_k10 K Y2 Y5)
def f142_s8 (a:OA) (b c:Nat) (d f g h:Int) (w:World) (K:KT) (Y2 Y5:YT):Prop:=SG P (cA c142 3219) none [7,0,1,2,6] [0,1,2,6] (f142_kl5 K Y2 Y5) (Env.mk 49 [(0,(VS a b c)),(1,(VI d)),(2,(VI f)),(6,(VI g)),(7,(VI h))] []) w
theorem f142_s8_eq (a:OA) (c d:Nat) (e f g h:Int) (w:World) (K:KT) (Y2 Y5:YT):f142_s8 a c d e f g h w K Y2 Y5=(Y5 (Env.mk 49 [(7,(Value.int .i64 (IntKind.wrap .i64 ((h:Int) - 1)))),(0,(Value.slice a c d)),(1,(Value.int .i64 e)),(2,(Value.int .i64 f)),(6,(Value.int .i64 g))] []) w):=Eq.trans SGe (by kernel_rfl)
theorem f142_s7_eq (d:OA) (e f:Nat) (g h i c:Int) (w:World) (K:KT) (Y2 Y5:YT):f142_s7 d e f g h i c w K Y2 Y5=(optS d (fun l=>0≤((IntKind.wrap .i64 ((c:Int) - 1)):Int)∧((IntKind.wrap .i64 ((c:Int) - 1)):Int) < (e:Nat)∧optS d (fun m=>0≤(c:Int)∧(c:Int) < (e:Nat)∧∃ j:Int,w.drew.cell? (l.add (Int.toNat (IntKind.wrap .i64 ((c:Int) - 1)) * 1))=some (.int .u32 j)∧∃ k:Int,w.drew.cell? (m.add (Int.toNat c * 1))=some (.int .u32 k)∧optS d (fun n=>0≤(c:Int)∧(c:Int) < (e:Nat)∧St1 (n.add (Int.toNat c * 1)) (Value.int .u32 j) w.drew (fun o=>optS d (fun p=>0≤((IntKind.wrap .i64 ((c:Int) - 1)):Int)∧((IntKind.wrap .i64 ((c:Int) - 1)):Int) < (e:Nat)∧St1 (p.add (Int.toNat (IntKind.wrap .i64 ((c:Int) - 1)) * 1)) (Value.int .u32 k) o (fun q=>f142_s8 d e f g h i c q K Y2 Y5))))))):=Eq.trans SGe (Eq.trans (CSs [0,1,2,6,7] (f142_k10 K Y2 Y5) (by kernel_rfl)) (Eq.trans (CSb 3 [0,1,2,6,7] (f142_k11 K Y2 Y5) (by kernel_rfl)) (by kernel_rfl)))
def f142_s9 (a:OA) (b c:Nat) (d f g:Int) (w:World) (K:KT) (Y2:YT):Prop:=SG P (cA c142 51) none [0,6,1,2] [] (f142_kl2 K Y2) (Env.mk 49 [(0,(VS a b c)),(1,(VI d)),(2,(VI f)),(6,(VI g))] []) w
theorem f142_s9_eq (a:OA) (c d:Nat) (e f g:Int) (w:World) (K:KT) (Y2:YT):f142_s9 a c d e f g w K Y2=(Y2 (Env.mk 49 [(0,(Value.slice a c d)),(6,(Value.int .i64 (IntKind.wrap .i64 ((g:Int)+1)))),(1,(Value.int .i64 e)),(2,(Value.int .i64 f))] []) w):=Eq.trans SGe (by kernel_rfl)
theorem f142_s6_eq (h:Bool) (a:OA) (c d:Nat) (e f g i:Int) (w:World) (K:KT) (Y2 Y5:YT):f142_s6 h a c d e f g i w K Y2 Y5=(BIf h (f142_s7 a c d e f g i w K Y2 Y5) (f142_s9 a c d e f g w K Y2)):=Eq.trans SGe (by kernel_rfl)
theorem f142_lb5_eq (c:Int) (d:OA) (e g:Nat) (f h i:Int) (w:World) (K:KT) (Y2 Y5:YT):f142_lb5 c d e g f h i w K Y2 Y5=(BIf (decide ((c:Int) > f)) (optS d (fun m=>0≤(c:Int)∧(c:Int) < (e:Nat)∧optS d (fun n=>0≤((IntKind.wrap .i64 ((c:Int) - 1)):Int)∧((IntKind.wrap .i64 ((c:Int) - 1)):Int) < (e:Nat)∧∃ j:Int,w.drew.cell? (m.add (Int.toNat c * 1))=some (.int .u32 j)∧∃ k:Int,w.drew.cell? (n.add (Int.toNat (IntKind.wrap .i64 ((c:Int) - 1)) * 1))=some (.int .u32 k)∧CallL P 148 [(Value.int .u32 j),(Value.int .u32 k)] w.drew (fun o p=>∃ l:Bool,o=(.bool l)∧f142_s6 l d e g f h i c p K Y2 Y5)))) (f142_s6 false d e g f h i c w.drew K Y2 Y5)):=Eq.trans SGe (Eq.trans (CSs [0,1,2,6,7] (f142_k8 K Y2 Y5) (by kernel_rfl)) (Eq.trans (CSs [30,0,1,2,6,7] (f142_k9 K Y2 Y5) (by kernel_rfl)) (by kernel_rfl)))
theorem f142_s4_eq (a i:Int) (c:OA) (d e:Nat) (f g h:Int) (w:World) (K:KT) (Y2:YT):f142_s4 a i c d e f g h w K Y2=(LoopE (f142_lp5 K Y2) (Env.mk 49 [(7,(Value.int .i64 a)),(0,(Value.slice c d e)),(1,(Value.int .i64 f)),(2,(Value.int .i64 g)),(6,(Value.int .i64 h))] []) w):=Eq.trans (b:=CS P (cA c142 201) none [0,1,2,6] [0,1,2,6] (f142_k5 K Y2) (Env.mk 49 [(7,(VI a)),(15,(VI i)),(0,(VS c d e)),(1,(VI f)),(2,(VI g)),(6,(VI h))] []) w) (by kernel_rfl) (Eq.trans (CSb 2 [0,1,2,6] (f142_k7 K Y2) (by kernel_rfl)) ((CS_loop' (b:=(cA c142 804)) (X':=[0,1,2,6]) (H:=[7,0,1,2,6]) (by kernel_rfl) (by kernel_rfl) (by kernel_rfl)).trans (by kernel_rfl)))
theorem f142_s3_eq (d:OA) (e f:Nat) (g h c:Int) (w:World) (K:KT) (Y2:YT):f142_s3 d e f g h c w K Y2=(f142_s4 c c d e f g h c w K Y2):=Eq.trans SGe (Eq.trans (CSs [0,1,2,6] (f142_k4 K Y2) (by kernel_rfl)) (Eq.trans (CSb 1 [0,1,2,6] (f142_k5 K Y2) (by kernel_rfl)) (Eq.trans (CSs [7,0,1,2,6] (f142_k6 K Y2) (by kernel_rfl)) (by kernel_rfl))))
theorem f142_lb2_eq (e:OA) (f g:Nat) (c h d:Int) (w:World) (K:KT) (Y2:YT):f142_lb2 e f g c h d w K Y2=(BIf (decide ((c:Int) < d)) (f142_s3 e f g h d c w K Y2) (K (Value.tuple [].toArray) w)):=Eq.trans SGe (Eq.trans (CSs [0,1,2,6] (f142_k2 K Y2) (by kernel_rfl)) (Eq.trans (CSs [12,0,1,2,6] (f142_k3 K Y2) (by kernel_rfl)) (by kernel_rfl)))
theorem f142_s1_eq (a h i:Int) (c:OA) (d e:Nat) (f g:Int) (w:World) (K:KT):f142_s1 a h i c d e f g w K=(LoopE (f142_lp2 K) (Env.mk 49 [(0,(Value.slice c d e)),(6,(Value.int .i64 a)),(1,(Value.int .i64 f)),(2,(Value.int .i64 g))] []) w):=Eq.trans (b:=CS P (cA c142 3) none [] [] (f142_kb K) (Env.mk 49 [(6,(VI a)),(9,(VI h)),(8,(VI i)),(0,(VS c d e)),(1,(VI f)),(2,(VI g))] []) w) (by kernel_rfl) (Eq.trans (CSb 0 [] (f142_k1 K) (by kernel_rfl)) ((CS_loop' (b:=(cA c142 12)) (X':=[]) (H:=[0,6,1,2]) (by kernel_rfl) (by kernel_rfl) (by kernel_rfl)).trans (by kernel_rfl)))
theorem f142_s0_eq (d:OA) (e f:Nat) (c g:Int) (w:World) (K:KT):f142_s0 d e f c g w K=(f142_s1 (IntKind.wrap .i64 ((c:Int)+1)) (IntKind.wrap .i64 ((c:Int)+1)) c d e f c g w K):=Eq.trans (b:=CS P (cA c142 1) none [] [] (f142_kb K) (Env.mk 49 [(0,(VS d e f)),(1,(VI c)),(2,(VI g))] []) w) (by kernel_rfl) (Eq.trans (CSs [0,6,1,2] (f142_k0 K) (by kernel_rfl)) (by kernel_rfl))
theorem f142_eq (a:OA) (b c:Nat) (d e:Int) (w:World) (K:KT):f142 a b c d e w K=(f142_s0 a b c d e w K):=by kernel_rfl
theorem f142_ok (a:OA) (b c:Nat) (d e:Int) (w:World) (K:KT) (h:f142 a b c d e w K):CallL P 142 [(Value.slice a b c),(Value.int .i64 d),(Value.int .i64 e)] w K:=okCS c142 Tryz.func142 (by kernel_rfl) (by kernel_rfl) h
noncomputable def c146:Code:=bodyOf Tryz.f146
noncomputable def rs146:List ResultVar:=Tryz.f146.results.toList
abbrev f146_kb (K:KT):Exit→YT:=bodyK P rs146 K
def f146 (a:OA) (b c:Nat) (d e:Int) (w:World) (K:KT):Prop:=CS P c146 none [] [] (f146_kb K) (env0 32 [(VS a b c),(VI d),(VI e)]) w
def f146_s0 (a:OA) (b c:Nat) (d e:Int) (w:World) (K:KT):Prop:=CS P (cA c146 1) none [] [] (f146_kb K) (Env.mk 32 [(0,(VS a b c)),(1,(VI d)),(2,(VI e))] []) w
abbrev f146_k0 (K:KT):Exit→YT:=kseq P (cA c146 2) (cA c146 3) none [] [] (f146_kb K)
def f146_s1 (a b:Int) (c:OA) (d e:Nat) (f g:Int) (w:World) (K:KT):Prop:=CS P (cA c146 3) none [] [] (f146_kb K) (Env.mk 32 [(6,(VI a)),(8,(VI b)),(0,(VS c d e)),(1,(VI f)),(2,(VI g))] []) w
abbrev f146_k1 (K:KT):Exit→YT:=kseq P (cA c146 6) (cA c146 7) none [] [] (f146_kb K)
def f146_s2 (a b c d e:Int) (f:OA) (g h:Nat) (i j:Int) (w:World) (K:KT):Prop:=CS P (cA c146 7) none [] [] (f146_kb K) (Env.mk 32 [(7,(VI a)),(10,(VI b)),(9,(VI c)),(6,(VI d)),(8,(VI e)),(0,(VS f g h)),(1,(VI i)),(2,(VI j))] []) w
abbrev f146_k2 (K:KT):Exit→YT:=kblock 0 (f146_kb K)
def f146_lp3 (K:KT) (Y3:YT) (e:Env) (w:World):Prop:=Join (fun e w=>CS P (cA c146 28) none [7,6,0] [] (kloop [7,6,0] Y3 (f146_k2 K)) e w) e w
abbrev f146_kl3 (K:KT) (Y3:YT):Exit→YT:=kloop [7,6,0] Y3 (f146_k2 K)
def f146_lb3 (a b:Int) (c:OA) (d f:Nat) (w:World) (K:KT) (Y3:YT):Prop:=SG P (cA c146 28) none [7,6,0] [] (f146_kl3 K Y3) (Env.mk 32 [(7,(VI a)),(6,(VI b)),(0,(VS c d f))] []) w
abbrev f146_k3 (K:KT) (Y3:YT):Exit→YT:=kseq P (cA c146 56) (cA c146 57) none [7,6,0] [] (f146_kl3 K Y3)
abbrev f146_k4 (K:KT) (Y3:YT):Exit→YT:=kseq P (cA c146 112) (cA c146 113) none [0,7,6] [] (f146_k3 K Y3)
def f146_s4 (a:OA) (b c:Nat) (d f:Int) (w:World) (K:KT) (Y3:YT):Prop:=SG P (cA c146 57) none [7,6,0] [] (f146_kl3 K Y3) (Env.mk 32 [(0,(VS a b c)),(7,(VI d)),(6,(VI f))] []) w
abbrev f146_k5 (K:KT) (Y3:YT):Exit→YT:=kblock 1 (f146_kl3 K Y3)
abbrev f146_k6 (K:KT) (Y3:YT):Exit→YT:=kseq P (cA c146 228) (cA c146 229) none [7,6,0] [7,6,0] (f146_k5 K Y3)
def f146_s5 (a:OA) (b c:Nat) (d f:Int) (w:World) (K:KT) (Y3:YT):Prop:=SG P (cA c146 229) none [7,6,0] [7,6,0] (f146_k5 K Y3) (Env.mk 32 [(0,(VS a b c)),(7,(VI d)),(6,(VI f))] []) w
abbrev f146_k7 (K:KT) (Y3:YT):Exit→YT:=kseq P (cA c146 458) (cA c146 459) none [7,6,0] [7,6,0] (f146_k5 K Y3)
theorem f146_s5_eq (c:OA) (d e:Nat) (f g:Int) (w:World) (K:KT) (Y3:YT):f146_s5 c d e f g w K Y3=(Y3 (Env.mk 32 [(7,(Value.int .i64 (IntKind.wrap .i64 ((f:Int) - 1)))),(6,(Value.int .i64 (IntKind.wrap .i64 ((g:Int)+1)))),(0,(Value.slice c d e))] []) w):=Eq.trans SGe (Eq.trans (CSs [6,0,7] (f146_k7 K Y3) (by kernel_rfl)) (by kernel_rfl))
theorem f146_s4_eq (e:OA) (f g:Nat) (c d:Int) (w:World) (K:KT) (Y3:YT):f146_s4 e f g c d w K Y3=(optS e (fun j=>0≤(c:Int)∧(c:Int) < (f:Nat)∧optS e (fun k=>0≤(d:Int)∧(d:Int) < (f:Nat)∧∃ h:Int,w.drew.cell? (j.add (Int.toNat c * 1))=some (.int .u32 h)∧∃ i:Int,w.drew.cell? (k.add (Int.toNat d * 1))=some (.int .u32 i)∧optS e (fun l=>0≤(d:Int)∧(d:Int) < (f:Nat)∧St1 (l.add (Int.toNat d * 1)) (Value.int .u32 h) w.drew (fun m=>optS e (fun n=>0≤(c:Int)∧(c:Int) < (f:Nat)∧St1 (n.add (Int.toNat c * 1)) (Value.int .u32 i) m (fun o=>f146_s5 e f g c d o K Y3))))))):=Eq.trans SGe (Eq.trans (CSb 1 [7,6,0] (f146_k5 K Y3) (by kernel_rfl)) (Eq.trans (CSs [0,7,6] (f146_k6 K Y3) (by kernel_rfl)) (by kernel_rfl)))
theorem f146_lb3_eq (c d:Int) (e:OA) (f g:Nat) (w:World) (K:KT) (Y3:YT):f146_lb3 c d e f g w K Y3=(BIf (decide ((d:Int) < c)) (f146_s4 e f g c d w K Y3) (K (Value.tuple [].toArray) w)):=Eq.trans SGe (Eq.trans (CSs [0,7,6] (f146_k3 K Y3) (by kernel_rfl)) (Eq.trans (CSs [13,0,7,6] (f146_k4 K Y3) (by kernel_rfl)) (by kernel_rfl)))
theorem f146_s2_eq (a g h c i:Int) (d:OA) (e f:Nat) (j k:Int) (w:World) (K:KT):f146_s2 a g h c i d e f j k w K=(LoopE (f146_lp3 K) (Env.mk 32 [(7,(Value.int .i64 a)),(6,(Value.int .i64 c)),(0,(Value.slice d e f))] []) w):=Eq.trans (b:=CS P (cA c146 7) none [] [] (f146_kb K) (Env.mk 32 [(7,(VI a)),(10,(VI g)),(9,(VI h)),(6,(VI c)),(8,(VI i)),(0,(VS d e f)),(1,(VI j)),(2,(VI k))] []) w) (by kernel_rfl) (Eq.trans (CSb 0 [] (f146_k2 K) (by kernel_rfl)) ((CS_loop' (b:=(cA c146 28)) (X':=[]) (H:=[7,6,0]) (by kernel_rfl) (by kernel_rfl) (by kernel_rfl)).trans (by kernel_rfl)))
theorem f146_s1_eq (d e:Int) (f:OA) (g h:Nat) (i c:Int) (w:World) (K:KT):f146_s1 d e f g h i c w K=(f146_s2 (IntKind.wrap .i64 ((c:Int) - 1)) (IntKind.wrap .i64 ((c:Int) - 1)) c d e f g h i c w K):=Eq.trans (b:=CS P (cA c146 3) none [] [] (f146_kb K) (Env.mk 32 [(6,(VI d)),(8,(VI e)),(0,(VS f g h)),(1,(VI i)),(2,(VI c))] []) w) (by kernel_rfl) (Eq.trans (CSs [7,6,0] (f146_k1 K) (by kernel_rfl)) (by kernel_rfl))
theorem f146_s0_eq (d:OA) (e f:Nat) (c g:Int) (w:World) (K:KT):f146_s0 d e f c g w K=(f146_s1 c c d e f c g w K):=Eq.trans (b:=CS P (cA c146 1) none [] [] (f146_kb K) (Env.mk 32 [(0,(VS d e f)),(1,(VI c)),(2,(VI g))] []) w) (by kernel_rfl) (Eq.trans (CSs [6,0,2] (f146_k0 K) (by kernel_rfl)) (by kernel_rfl))
theorem f146_eq (a:OA) (b c:Nat) (d e:Int) (w:World) (K:KT):f146 a b c d e w K=(f146_s0 a b c d e w K):=by kernel_rfl
theorem f146_ok (a:OA) (b c:Nat) (d e:Int) (w:World) (K:KT) (h:f146 a b c d e w K):CallL P 146 [(Value.slice a b c),(Value.int .i64 d),(Value.int .i64 e)] w K:=okCS c146 Tryz.func146 (by kernel_rfl) (by kernel_rfl) h
noncomputable def c148:Code:=bodyOf Tryz.f148
noncomputable def rs148:List ResultVar:=Tryz.f148.results.toList
abbrev f148_kb (K:KT):Exit→YT:=bodyK P rs148 K
def f148 (a b:Int) (w:World) (K:KT):Prop:=CS P c148 none [4] [4] (f148_kb K) (env0 17 [(Value.int .u32 a),(Value.int .u32 b)]) w
def f148_s0 (a:Bool) (w:World) (K:KT):Prop:=SG P (cA c148 7) none [4] [4] (f148_kb K) (Env.mk 17 [(4,(VB a))] []) w
theorem f148_s0_eq (a:Bool) (w:World) (K:KT):f148_s0 a w K=(K (Value.bool a) w):=Eq.trans SGe (by kernel_rfl)
theorem f148_eq (a b:Int) (w:World) (K:KT):f148 a b w K=(CallL P 176 [(Value.int .u32 a)] w (fun g c=>∃ d:Bool,g=(.bool d)∧BIf d (CallL P 176 [(Value.int .u32 b)] c (fun h e=>∃ f:Bool,h=(.bool f)∧BIf (!f) (f148_s0 true e K) (f148_s0 (decide ((a:Int) < b)) e K))) (f148_s0 (decide ((a:Int) < b)) c K))):=by kernel_rfl
theorem f148_ok (a b:Int) (w:World) (K:KT) (h:f148 a b w K):CallL P 148 [(Value.int .u32 a),(Value.int .u32 b)] w K:=okCS c148 Tryz.func148 (by kernel_rfl) (by kernel_rfl) h
noncomputable def c171:Code:=bodyOf Tryz.f171
noncomputable def rs171:List ResultVar:=Tryz.f171.results.toList
abbrev f171_kb (K:KT):Exit→YT:=bodyK P rs171 K
def f171 (a:OA) (b c:Nat) (d e f:Int) (w:World) (K:KT):Prop:=CS P c171 none [] [] (f171_kb K) (env0 76 [(VS a b c),(VI d),(VI e),(VI f)]) w
def f171_s0 (a:OA) (b c:Nat) (d e f:Int) (w:World) (K:KT):Prop:=CS P (cA c171 1) none [] [] (f171_kb K) (Env.mk 76 [(0,(VS a b c)),(1,(VI d)),(2,(VI e)),(3,(VI f))] []) w
abbrev f171_k0 (K:KT):Exit→YT:=kseq P (cA c171 2) (cA c171 3) none [] [] (f171_kb K)
def f171_s1 (a b:Int) (c:OA) (d e:Nat) (f g h:Int) (w:World) (K:KT):Prop:=CS P (cA c171 3) none [] [] (f171_kb K) (Env.mk 76 [(8,(VI a)),(10,(VI b)),(0,(VS c d e)),(1,(VI f)),(2,(VI g)),(3,(VI h))] []) w
abbrev f171_k1 (K:KT):Exit→YT:=kblock 0 (f171_kb K)
def f171_lp2 (K:KT) (Y2:YT) (e:Env) (w:World):Prop:=Join (fun e w=>CS P (cA c171 12) none [8,3,0,2] [] (kloop [8,3,0,2] Y2 (f171_k1 K)) e w) e w
abbrev f171_kl2 (K:KT) (Y2:YT):Exit→YT:=kloop [8,3,0,2] Y2 (f171_k1 K)
def f171_lb2 (a b:Int) (c:OA) (d f:Nat) (g:Int) (w:World) (K:KT) (Y2:YT):Prop:=SG P (cA c171 12) none [8,3,0,2] [] (f171_kl2 K Y2) (Env.mk 76 [(8,(VI a)),(3,(VI b)),(0,(VS c d f)),(2,(VI g))] []) w
abbrev f171_k2 (K:KT) (Y2:YT):Exit→YT:=kblock 1 (f171_kl2 K Y2)
abbrev f171_k3 (K:KT) (Y2:YT):Exit→YT:=kseq P (cA c171 48) (cA c171 49) none [8,3,0,2] [8,3,0,2] (f171_k2 K Y2)
def f171_s3 (a b:Int) (c:OA) (d f:Nat) (g h:Int) (w:World) (K:KT) (Y2:YT):Prop:=SG P (cA c171 99) none [8,3,0,2] [8,3,0,2] (f171_k2 K Y2) (Env.mk 76 [(8,(VI a)),(3,(VI b)),(0,(VS c d f)),(2,(VI g)),(9,(VI h))] []) w
abbrev f171_k6 (K:KT) (Y2:YT):Exit→YT:=kseq P (cA c171 198) (cA c171 199) none [8,3,0,2] [8,3,0,2] (f171_k2 K Y2)
abbrev f171_k7 (K:KT) (Y2:YT):Exit→YT:=kseq P (cA c171 396) (cA c171 397) none [8,3,0,2,9] [8,3,0,2] (f171_k6 K Y2)
def f171_s4 (a:Bool) (b c:Int) (d:OA) (f g:Nat) (h i:Int) (w:World) (K:KT) (Y2:YT):Prop:=SG P (cA c171 397) none [8,3,0,2,9] [8,3,0,2] (f171_k6 K Y2) (Env.mk 76 [(36,(VB a)),(8,(VI b)),(3,(VI c)),(0,(VS d f g)),(2,(VI h)),(9,(VI i))] []) w
def f171_s5 (a b:Int) (c:OA) (d f:Nat) (g h:Int) (w:World) (K:KT) (Y2:YT):Prop:=SG P (cA c171 199) none [8,3,0,2] [8,3,0,2] (f171_k2 K Y2) (Env.mk 76 [(8,(VI a)),(3,(VI b)),(0,(VS c d f)),(2,(VI g)),(9,(VI h))] []) w
abbrev f171_k8 (K:KT) (Y2:YT):Exit→YT:=kseq P (cA c171 398) (cA c171 399) none [8,3,0,2] [8,3,0,2] (f171_k2 K Y2)
abbrev f171_k9 (K:KT) (Y2:YT):Exit→YT:=kseq P (cA c171 796) (cA c171 797) none [3,0,2,9,8] [8,3,0,2] (f171_k8 K Y2)
def f171_s6 (a:Bool) (b c:Int) (d:OA) (f g:Nat) (h i:Int) (w:World) (K:KT) (Y2:YT):Prop:=SG P (cA c171 797) none [3,0,2,9,8] [8,3,0,2] (f171_k8 K Y2) (Env.mk 76 [(52,(VB a)),(8,(VI b)),(3,(VI c)),(0,(VS d f g)),(2,(VI h)),(9,(VI i))] []) w
def f171_s7 (a:Int) (b:OA) (c d:Nat) (f g h:Int) (w:World) (K:KT) (Y2:YT):Prop:=SG P (cA c171 399) none [8,3,0,2] [8,3,0,2] (f171_k2 K Y2) (Env.mk 76 [(3,(VI a)),(0,(VS b c d)),(2,(VI f)),(9,(VI g)),(8,(VI h))] []) w
abbrev f171_k10 (K:KT) (Y2:YT):Exit→YT:=kseq P (cA c171 798) (cA c171 799) none [8,3,0,2] [8,3,0,2] (f171_k2 K Y2)
def f171_s8 (a:Int) (b:OA) (c d:Nat) (f g:Int) (w:World) (K:KT) (Y2:YT):Prop:=SG P (cA c171 799) none [8,3,0,2] [8,3,0,2] (f171_k2 K Y2) (Env.mk 76 [(3,(VI a)),(0,(VS b c d)),(2,(VI f)),(9,(VI g))] []) w
theorem f171_s8_eq (a:Int) (c:OA) (d e:Nat) (f g:Int) (w:World) (K:KT) (Y2:YT):f171_s8 a c d e f g w K Y2=(Y2 (Env.mk 76 [(8,(Value.int .i64 g)),(3,(Value.int .i64 a)),(0,(Value.slice c d e)),(2,(Value.int .i64 f))] []) w):=Eq.trans SGe (by kernel_rfl)
theorem f171_s7_eq (c:Int) (f:OA) (g h:Nat) (i d e:Int) (w:World) (K:KT) (Y2:YT):f171_s7 c f g h i d e w K Y2=(optS f (fun l=>0≤((IntKind.wrap .i64 ((c:Int)+d)):Int)∧((IntKind.wrap .i64 ((c:Int)+d)):Int) < (g:Nat)∧optS f (fun m=>0≤((IntKind.wrap .i64 ((c:Int)+e)):Int)∧((IntKind.wrap .i64 ((c:Int)+e)):Int) < (g:Nat)∧∃ j:Int,w.drew.cell? (l.add (Int.toNat (IntKind.wrap .i64 ((c:Int)+d)) * 1))=some (.int .u32 j)∧∃ k:Int,w.drew.cell? (m.add (Int.toNat (IntKind.wrap .i64 ((c:Int)+e)) * 1))=some (.int .u32 k)∧optS f (fun n=>0≤((IntKind.wrap .i64 ((c:Int)+e)):Int)∧((IntKind.wrap .i64 ((c:Int)+e)):Int) < (g:Nat)∧St1 (n.add (Int.toNat (IntKind.wrap .i64 ((c:Int)+e)) * 1)) (Value.int .u32 j) w.drew (fun o=>optS f (fun p=>0≤((IntKind.wrap .i64 ((c:Int)+d)):Int)∧((IntKind.wrap .i64 ((c:Int)+d)):Int) < (g:Nat)∧St1 (p.add (Int.toNat (IntKind.wrap .i64 ((c:Int)+d)) * 1)) (Value.int .u32 k) o (fun q=>f171_s8 c f g h i d q K Y2))))))):=Eq.trans SGe (Eq.trans (CSs [3,0,2,9] (f171_k10 K Y2) (by kernel_rfl)) (by kernel_rfl))
theorem f171_s6_eq (a:Bool) (c d:Int) (e:OA) (f g:Nat) (h i:Int) (w:World) (K:KT) (Y2:YT):f171_s6 a c d e f g h i w K Y2=(BIf a (K (Value.tuple [].toArray) w) (f171_s7 d e f g h i c w K Y2)):=Eq.trans SGe (by kernel_rfl)
theorem f171_s5_eq (d c:Int) (f:OA) (g h:Nat) (i e:Int) (w:World) (K:KT) (Y2:YT):f171_s5 d c f g h i e w K Y2=(optS f (fun m=>0≤((IntKind.wrap .i64 ((c:Int)+d)):Int)∧((IntKind.wrap .i64 ((c:Int)+d)):Int) < (g:Nat)∧optS f (fun n=>0≤((IntKind.wrap .i64 ((c:Int)+e)):Int)∧((IntKind.wrap .i64 ((c:Int)+e)):Int) < (g:Nat)∧∃ j:Int,w.drew.cell? (m.add (Int.toNat (IntKind.wrap .i64 ((c:Int)+d)) * 1))=some (.int .u32 j)∧∃ k:Int,w.drew.cell? (n.add (Int.toNat (IntKind.wrap .i64 ((c:Int)+e)) * 1))=some (.int .u32 k)∧CallL P 148 [(Value.int .u32 j),(Value.int .u32 k)] w.drew (fun o p=>∃ l:Bool,o=(.bool l)∧f171_s6 (!l) d c f g h i e p K Y2)))):=Eq.trans SGe (Eq.trans (CSs [3,0,2,9,8] (f171_k8 K Y2) (by kernel_rfl)) (Eq.trans (CSs [52,8,3,0,2,9] (f171_k9 K Y2) (by kernel_rfl)) (by kernel_rfl)))
theorem f171_s4_eq (i:Bool) (a c:Int) (d:OA) (e f:Nat) (g h:Int) (w:World) (K:KT) (Y2:YT):f171_s4 i a c d e f g h w K Y2=(BIf i (f171_s5 a c d e f g (IntKind.wrap .i64 ((h:Int)+1)) w K Y2) (f171_s5 a c d e f g h w K Y2)):=Eq.trans SGe (by kernel_rfl)
theorem f171_s3_eq (h d:Int) (e:OA) (f i:Nat) (g c:Int) (w:World) (K:KT) (Y2:YT):f171_s3 h d e f i g c w K Y2=(BIf (decide (((IntKind.wrap .i64 ((c:Int)+1)):Int) < g)) (optS e (fun m=>0≤((IntKind.wrap .i64 ((d:Int)+c)):Int)∧((IntKind.wrap .i64 ((d:Int)+c)):Int) < (f:Nat)∧optS e (fun n=>0≤((IntKind.wrap .i64 (((IntKind.wrap .i64 ((d:Int)+c)):Int)+1)):Int)∧((IntKind.wrap .i64 (((IntKind.wrap .i64 ((d:Int)+c)):Int)+1)):Int) < (f:Nat)∧∃ j:Int,w.drew.cell? (m.add (Int.toNat (IntKind.wrap .i64 ((d:Int)+c)) * 1))=some (.int .u32 j)∧∃ k:Int,w.drew.cell? (n.add (Int.toNat (IntKind.wrap .i64 (((IntKind.wrap .i64 ((d:Int)+c)):Int)+1)) * 1))=some (.int .u32 k)∧CallL P 148 [(Value.int .u32 j),(Value.int .u32 k)] w.drew (fun o p=>∃ l:Bool,o=(.bool l)∧f171_s4 l h d e f i g c p K Y2)))) (f171_s4 false h d e f i g c w.drew K Y2)):=Eq.trans SGe (Eq.trans (CSs [8,3,0,2,9] (f171_k6 K Y2) (by kernel_rfl)) (Eq.trans (CSs [36,8,3,0,2,9] (f171_k7 K Y2) (by kernel_rfl)) (by kernel_rfl)))
theorem f171_lb2_eq (c e:Int) (f:OA) (g h:Nat) (d:Int) (w:World) (K:KT) (Y2:YT):f171_lb2 c e f g h d w K Y2=(BIf (decide (((IntKind.wrap .i64 (((IntKind.wrap .i64 ((2:Int) * c)):Int)+1)):Int)≥d)) (K (Value.tuple [].toArray) w) (f171_s3 c e f g h d (IntKind.wrap .i64 (((IntKind.wrap .i64 ((2:Int) * c)):Int)+1)) w K Y2)):=Eq.trans SGe (Eq.trans (CSb 1 [8,3,0,2] (f171_k2 K Y2) (by kernel_rfl)) (Eq.trans (CSs [8,3,0,2,9] (f171_k3 K Y2) (by kernel_rfl)) (by kernel_rfl)))
theorem f171_s1_eq (a h:Int) (c:OA) (d e:Nat) (i f g:Int) (w:World) (K:KT):f171_s1 a h c d e i f g w K=(LoopE (f171_lp2 K) (Env.mk 76 [(8,(Value.int .i64 a)),(3,(Value.int .i64 g)),(0,(Value.slice c d e)),(2,(Value.int .i64 f))] []) w):=Eq.trans (b:=CS P (cA c171 3) none [] [] (f171_kb K) (Env.mk 76 [(8,(VI a)),(10,(VI h)),(0,(VS c d e)),(1,(VI i)),(2,(VI f)),(3,(VI g))] []) w) (by kernel_rfl) (Eq.trans (CSb 0 [] (f171_k1 K) (by kernel_rfl)) ((CS_loop' (b:=(cA c171 12)) (X':=[]) (H:=[8,3,0,2]) (by kernel_rfl) (by kernel_rfl) (by kernel_rfl)).trans (by kernel_rfl)))
theorem f171_s0_eq (d:OA) (e f:Nat) (c g h:Int) (w:World) (K:KT):f171_s0 d e f c g h w K=(f171_s1 c c d e f c g h w K):=Eq.trans (b:=CS P (cA c171 1) none [] [] (f171_kb K) (Env.mk 76 [(0,(VS d e f)),(1,(VI c)),(2,(VI g)),(3,(VI h))] []) w) (by kernel_rfl) (Eq.trans (CSs [8,3,0,2] (f171_k0 K) (by kernel_rfl)) (by kernel_rfl))
theorem f171_eq (a:OA) (b c:Nat) (d e f:Int) (w:World) (K:KT):f171 a b c d e f w K=(f171_s0 a b c d e f w K):=by kernel_rfl
theorem f171_ok (a:OA) (b c:Nat) (d e f:Int) (w:World) (K:KT) (h:f171 a b c d e f w K):CallL P 171 [(Value.slice a b c),(Value.int .i64 d),(Value.int .i64 e),(Value.int .i64 f)] w K:=okCS c171 Tryz.func171 (by kernel_rfl) (by kernel_rfl) h
noncomputable def c143:Code:=bodyOf Tryz.f143
noncomputable def rs143:List ResultVar:=Tryz.f143.results.toList
abbrev f143_kb (K:KT):Exit→YT:=bodyK P rs143 K
def f143 (a:OA) (b c:Nat) (d e:Int) (w:World) (K:KT):Prop:=CS P c143 none [] [] (f143_kb K) (env0 56 [(VS a b c),(VI d),(VI e)]) w
def f143_s0 (a:OA) (b c:Nat) (d e:Int) (w:World) (K:KT):Prop:=CS P (cA c143 1) none [] [] (f143_kb K) (Env.mk 56 [(0,(VS a b c)),(1,(VI d)),(2,(VI e))] []) w
abbrev f143_k0 (K:KT):Exit→YT:=kseq P (cA c143 2) (cA c143 3) none [] [] (f143_kb K)
def f143_s1 (a b:Int) (c:OA) (d e:Nat) (f g:Int) (w:World) (K:KT):Prop:=CS P (cA c143 3) none [] [] (f143_kb K) (Env.mk 56 [(6,(VI a)),(11,(VI b)),(0,(VS c d e)),(1,(VI f)),(2,(VI g))] []) w
abbrev f143_k1 (K:KT):Exit→YT:=kseq P (cA c143 6) (cA c143 7) none [] [] (f143_kb K)
def f143_s2 (a b c:Int) (d:OA) (e f:Nat) (g h:Int) (w:World) (K:KT):Prop:=CS P (cA c143 7) none [] [] (f143_kb K) (Env.mk 56 [(7,(VI a)),(6,(VI b)),(11,(VI c)),(0,(VS d e f)),(1,(VI g)),(2,(VI h))] []) w
abbrev f143_k2 (K:KT):Exit→YT:=kseq P (cA c143 14) (cA c143 15) none [] [] (f143_kb K)
def f143_s3 (a b c d e f g:Int) (h:OA) (i j:Nat) (k l:Int) (w:World) (K:KT):Prop:=CS P (cA c143 15) none [] [] (f143_kb K) (Env.mk 56 [(8,(VI a)),(14,(VI b)),(13,(VI c)),(12,(VI d)),(7,(VI e)),(6,(VI f)),(11,(VI g)),(0,(VS h i j)),(1,(VI k)),(2,(VI l))] []) w
abbrev f143_k3 (K:KT):Exit→YT:=kseq P (cA c143 30) (cA c143 31) none [] [] (f143_kb K)
abbrev f143_k4 (K:KT):Exit→YT:=kseq P (cA c143 60) (cA c143 61) none [6,7,0,8] [] (f143_k3 K)
def f143_s4 (a b c d e f g h i j k:Int) (l:OA) (m n:Nat) (o p:Int) (w:World) (K:KT):Prop:=CS P (cA c143 61) none [6,7,0,8] [] (f143_k3 K) (Env.mk 56 [(9,(VI a)),(17,(VI b)),(16,(VI c)),(15,(VI d)),(8,(VI e)),(14,(VI f)),(13,(VI g)),(12,(VI h)),(7,(VI i)),(6,(VI j)),(11,(VI k)),(0,(VS l m n)),(1,(VI o)),(2,(VI p))] []) w
abbrev f143_k5 (K:KT):Exit→YT:=kblock 0 (f143_k3 K)
def f143_lp5 (K:KT) (Y5:YT) (e:Env) (w:World):Prop:=Join (fun e w=>CS P (cA c143 244) none [9,6,8,0,7] [6,7,0,8] (kloop [9,6,8,0,7] Y5 (f143_k5 K)) e w) e w
abbrev f143_kl5 (K:KT) (Y5:YT):Exit→YT:=kloop [9,6,8,0,7] Y5 (f143_k5 K)
def f143_lb5 (a b c:Int) (d:OA) (f g:Nat) (h:Int) (w:World) (K:KT) (Y5:YT):Prop:=SG P (cA c143 244) none [9,6,8,0,7] [6,7,0,8] (f143_kl5 K Y5) (Env.mk 56 [(9,(VI a)),(6,(VI b)),(8,(VI c)),(0,(VS d f g)),(7,(VI h))] []) w
abbrev f143_k6 (K:KT) (Y5:YT):Exit→YT:=kseq P (cA c143 488) (cA c143 489) none [9,6,8,0,7] [6,7,0,8] (f143_kl5 K Y5)
abbrev f143_k7 (K:KT) (Y5:YT):Exit→YT:=kseq P (cA c143 976) (cA c143 977) none [6,8,0,7,9] [6,7,0,8] (f143_k6 K Y5)
def f143_s6 (a b:Int) (c:OA) (d f:Nat) (g h:Int) (w:World) (K:KT) (Y5:YT):Prop:=SG P (cA c143 489) none [9,6,8,0,7] [6,7,0,8] (f143_kl5 K Y5) (Env.mk 56 [(6,(VI a)),(8,(VI b)),(0,(VS c d f)),(7,(VI g)),(9,(VI h))] []) w
abbrev f143_k8 (K:KT) (Y5:YT):Exit→YT:=kseq P (cA c143 978) (cA c143 979) none [9,6,8,0,7] [6,7,0,8] (f143_kl5 K Y5)
abbrev f143_k9 (K:KT) (Y5:YT):Exit→YT:=kblock 1 (f143_k8 K Y5)
def f143_s7 (a b:Int) (c:OA) (d f:Nat) (g h:Int) (w:World) (K:KT) (Y5:YT):Prop:=SG P (cA c143 979) none [9,6,8,0,7] [6,7,0,8] (f143_kl5 K Y5) (Env.mk 56 [(6,(VI a)),(8,(VI b)),(0,(VS c d f)),(7,(VI g)),(9,(VI h))] []) w
theorem f143_s7_eq (a c:Int) (d:OA) (e f:Nat) (g h:Int) (w:World) (K:KT) (Y5:YT):f143_s7 a c d e f g h w K Y5=(Y5 (Env.mk 56 [(9,(Value.int .i64 (IntKind.wrap .i64 ((h:Int) - 1)))),(6,(Value.int .i64 a)),(8,(Value.int .i64 c)),(0,(Value.slice d e f)),(7,(Value.int .i64 g))] []) w):=Eq.trans SGe (by kernel_rfl)
theorem f143_s6_eq (c d:Int) (e:OA) (f g:Nat) (i h:Int) (w:World) (K:KT) (Y5:YT):f143_s6 c d e f g i h w K Y5=(CallL P 171 [(Value.slice e f g),(Value.int .i64 h),(Value.int .i64 d),(Value.int .i64 c)] w (fun j k=>j=(.tuple [].toArray)∧f143_s7 c d e f g i h k K Y5)):=Eq.trans SGe (Eq.trans (CSs [6,8,0,7,9] (f143_k8 K Y5) (by kernel_rfl)) (Eq.trans (CSb 1 [6,7,0,8,9] (f143_k9 K Y5) (by kernel_rfl)) (by kernel_rfl)))
def f143_s8 (a b:Int) (c:OA) (d f:Nat) (g:Int) (w:World) (K:KT):Prop:=SG P (cA c143 31) none [] [] (f143_kb K) (Env.mk 56 [(6,(VI a)),(7,(VI b)),(0,(VS c d f)),(8,(VI g))] []) w
abbrev f143_k10 (K:KT):Exit→YT:=kseq P (cA c143 62) (cA c143 63) none [] [] (f143_kb K)
def f143_s9 (a b c d e:Int) (f:OA) (g h:Nat) (i:Int) (w:World) (K:KT):Prop:=CS P (cA c143 63) none [] [] (f143_kb K) (Env.mk 56 [(10,(VI a)),(28,(VI b)),(27,(VI c)),(6,(VI d)),(7,(VI e)),(0,(VS f g h)),(8,(VI i))] []) w
abbrev f143_k11 (K:KT):Exit→YT:=kblock 2 (f143_kb K)
def f143_lp10 (K:KT) (Y10:YT) (e:Env) (w:World):Prop:=Join (fun e w=>CS P (cA c143 252) none [10,6,7,0] [] (kloop [10,6,7,0] Y10 (f143_k11 K)) e w) e w
abbrev f143_kl10 (K:KT) (Y10:YT):Exit→YT:=kloop [10,6,7,0] Y10 (f143_k11 K)
def f143_lb10 (a b c:Int) (d:OA) (f g:Nat) (w:World) (K:KT) (Y10:YT):Prop:=SG P (cA c143 252) none [10,6,7,0] [] (f143_kl10 K Y10) (Env.mk 56 [(10,(VI a)),(6,(VI b)),(7,(VI c)),(0,(VS d f g))] []) w
abbrev f143_k12 (K:KT) (Y10:YT):Exit→YT:=kseq P (cA c143 504) (cA c143 505) none [10,6,7,0] [] (f143_kl10 K Y10)
abbrev f143_k13 (K:KT) (Y10:YT):Exit→YT:=kseq P (cA c143 1008) (cA c143 1009) none [6,7,0,10] [] (f143_k12 K Y10)
def f143_s11 (a b:Int) (c:OA) (d f:Nat) (g:Int) (w:World) (K:KT) (Y10:YT):Prop:=SG P (cA c143 505) none [10,6,7,0] [] (f143_kl10 K Y10) (Env.mk 56 [(6,(VI a)),(7,(VI b)),(0,(VS c d f)),(10,(VI g))] []) w
abbrev f143_k14 (K:KT) (Y10:YT):Exit→YT:=kseq P (cA c143 1010) (cA c143 1011) none [10,6,7,0] [] (f143_kl10 K Y10)
abbrev f143_k15 (K:KT) (Y10:YT):Exit→YT:=kblock 3 (f143_k14 K Y10)
abbrev f143_k16 (K:KT) (Y10:YT):Exit→YT:=kseq P (cA c143 4040) (cA c143 4041) none [6,7,0,10] [6,7,0,10] (f143_k15 K Y10)
def f143_s12 (a b:Int) (c:OA) (d f:Nat) (g:Int) (w:World) (K:KT) (Y10:YT):Prop:=SG P (cA c143 4041) none [6,7,0,10] [6,7,0,10] (f143_k15 K Y10) (Env.mk 56 [(6,(VI a)),(7,(VI b)),(0,(VS c d f)),(10,(VI g))] []) w
def f143_s13 (a b:Int) (c:OA) (d f:Nat) (g:Int) (w:World) (K:KT) (Y10:YT):Prop:=SG P (cA c143 1011) none [10,6,7,0] [] (f143_kl10 K Y10) (Env.mk 56 [(6,(VI a)),(7,(VI b)),(0,(VS c d f)),(10,(VI g))] []) w
theorem f143_s13_eq (a c:Int) (d:OA) (e f:Nat) (g:Int) (w:World) (K:KT) (Y10:YT):f143_s13 a c d e f g w K Y10=(Y10 (Env.mk 56 [(10,(Value.int .i64 (IntKind.wrap .i64 ((g:Int) - 1)))),(6,(Value.int .i64 a)),(7,(Value.int .i64 c)),(0,(Value.slice d e f))] []) w):=Eq.trans SGe (by kernel_rfl)
theorem f143_s12_eq (a c:Int) (d:OA) (e f:Nat) (g:Int) (w:World) (K:KT) (Y10:YT):f143_s12 a c d e f g w K Y10=(CallL P 171 [(Value.slice d e f),(Value.int .i64 c),(Value.int .i64 g),(Value.int .i64 a)] w (fun h i=>h=(.tuple [].toArray)∧f143_s13 a c d e f g i K Y10)):=Eq.trans SGe (by kernel_rfl)
theorem f143_s11_eq (c g:Int) (e:OA) (f h:Nat) (d:Int) (w:World) (K:KT) (Y10:YT):f143_s11 c g e f h d w K Y10=(optS e (fun k=>0≤((IntKind.wrap .i64 ((c:Int)+d)):Int)∧((IntKind.wrap .i64 ((c:Int)+d)):Int) < (f:Nat)∧optS e (fun l=>0≤(c:Int)∧(c:Int) < (f:Nat)∧∃ i:Int,w.drew.cell? (k.add (Int.toNat (IntKind.wrap .i64 ((c:Int)+d)) * 1))=some (.int .u32 i)∧∃ j:Int,w.drew.cell? (l.add (Int.toNat c * 1))=some (.int .u32 j)∧optS e (fun m=>0≤(c:Int)∧(c:Int) < (f:Nat)∧St1 (m.add (Int.toNat c * 1)) (Value.int .u32 i) w.drew (fun n=>optS e (fun o=>0≤((IntKind.wrap .i64 ((c:Int)+d)):Int)∧((IntKind.wrap .i64 ((c:Int)+d)):Int) < (f:Nat)∧St1 (o.add (Int.toNat (IntKind.wrap .i64 ((c:Int)+d)) * 1)) (Value.int .u32 j) n (fun p=>f143_s12 c g e f h d p K Y10))))))):=Eq.trans SGe (Eq.trans (CSs [6,7,0,10] (f143_k14 K Y10) (by kernel_rfl)) (Eq.trans (CSb 3 [6,7,0,10] (f143_k15 K Y10) (by kernel_rfl)) (Eq.trans (CSs [6,7,0,10] (f143_k16 K Y10) (by kernel_rfl)) (by kernel_rfl))))
theorem f143_lb10_eq (c d e:Int) (f:OA) (g h:Nat) (w:World) (K:KT) (Y10:YT):f143_lb10 c d e f g h w K Y10=(BIf (decide ((c:Int)≥0)) (f143_s11 d e f g h c w K Y10) (K (Value.tuple [].toArray) w)):=Eq.trans SGe (Eq.trans (CSs [6,7,0,10] (f143_k12 K Y10) (by kernel_rfl)) (Eq.trans (CSs [30,6,7,0,10] (f143_k13 K Y10) (by kernel_rfl)) (by kernel_rfl)))
theorem f143_s9_eq (a h i c d:Int) (e:OA) (f g:Nat) (j:Int) (w:World) (K:KT):f143_s9 a h i c d e f g j w K=(LoopE (f143_lp10 K) (Env.mk 56 [(10,(Value.int .i64 a)),(6,(Value.int .i64 c)),(7,(Value.int .i64 d)),(0,(Value.slice e f g))] []) w):=Eq.trans (b:=CS P (cA c143 63) none [] [] (f143_kb K) (Env.mk 56 [(10,(VI a)),(28,(VI h)),(27,(VI i)),(6,(VI c)),(7,(VI d)),(0,(VS e f g)),(8,(VI j))] []) w) (by kernel_rfl) (Eq.trans (CSb 2 [] (f143_k11 K) (by kernel_rfl)) ((CS_loop' (b:=(cA c143 252)) (X':=[]) (H:=[10,6,7,0]) (by kernel_rfl) (by kernel_rfl) (by kernel_rfl)).trans (by kernel_rfl)))
theorem f143_s8_eq (d e:Int) (f:OA) (g h:Nat) (c:Int) (w:World) (K:KT):f143_s8 d e f g h c w K=(f143_s9 (IntKind.wrap .i64 ((c:Int) - 1)) (IntKind.wrap .i64 ((c:Int) - 1)) c d e f g h c w K):=Eq.trans SGe (Eq.trans (CSs [10,6,7,0] (f143_k10 K) (by kernel_rfl)) (by kernel_rfl))
theorem f143_lb5_eq (c d e:Int) (f:OA) (g h:Nat) (i:Int) (w:World) (K:KT) (Y5:YT):f143_lb5 c d e f g h i w K Y5=(BIf (decide ((c:Int)≥0)) (f143_s6 d e f g h i c w K Y5) (f143_s8 d i f g h e w K)):=Eq.trans SGe (Eq.trans (CSs [6,8,0,7,9] (f143_k6 K Y5) (by kernel_rfl)) (Eq.trans (CSs [19,6,8,0,7,9] (f143_k7 K Y5) (by kernel_rfl)) (by kernel_rfl)))
theorem f143_s4_eq (a i j k c l m n d e o:Int) (f:OA) (g h:Nat) (p q:Int) (w:World) (K:KT):f143_s4 a i j k c l m n d e o f g h p q w K=(LoopE (f143_lp5 K) (Env.mk 56 [(9,(Value.int .i64 a)),(6,(Value.int .i64 e)),(8,(Value.int .i64 c)),(0,(Value.slice f g h)),(7,(Value.int .i64 d))] []) w):=Eq.trans (b:=CS P (cA c143 61) none [6,7,0,8] [] (f143_k3 K) (Env.mk 56 [(9,(VI a)),(17,(VI i)),(16,(VI j)),(15,(VI k)),(8,(VI c)),(14,(VI l)),(13,(VI m)),(12,(VI n)),(7,(VI d)),(6,(VI e)),(11,(VI o)),(0,(VS f g h)),(1,(VI p)),(2,(VI q))] []) w) (by kernel_rfl) (Eq.trans (CSb 0 [6,7,0,8] (f143_k5 K) (by kernel_rfl)) ((CS_loop' (b:=(cA c143 244)) (X':=[6,7,0,8]) (H:=[9,6,8,0,7]) (by kernel_rfl) (by kernel_rfl) (by kernel_rfl)).trans (by kernel_rfl)))
theorem f143_s3_eq (c d e f g h i:Int) (j:OA) (k l:Nat) (m n:Int) (w:World) (K:KT):f143_s3 c d e f g h i j k l m n w K=((2:Int)≠0∧f143_s4 (IntKind.wrap .i64 (((IntKind.wrap .i64 ((c:Int) - 1)):Int).tdiv 2)) (IntKind.wrap .i64 (((IntKind.wrap .i64 ((c:Int) - 1)):Int).tdiv 2)) (IntKind.wrap .i64 ((c:Int) - 1)) c c d e f g h i j k l m n w K):=Eq.trans (b:=CS P (cA c143 15) none [] [] (f143_kb K) (Env.mk 56 [(8,(VI c)),(14,(VI d)),(13,(VI e)),(12,(VI f)),(7,(VI g)),(6,(VI h)),(11,(VI i)),(0,(VS j k l)),(1,(VI m)),(2,(VI n))] []) w) (by kernel_rfl) (Eq.trans (CSs [6,7,0,8] (f143_k3 K) (by kernel_rfl)) (Eq.trans (CSs [9,6,8,0,7] (f143_k4 K) (by kernel_rfl)) (by kernel_rfl)))
theorem f143_s2_eq (e f g:Int) (h:OA) (i j:Nat) (c d:Int) (w:World) (K:KT):f143_s2 e f g h i j c d w K=(f143_s3 (IntKind.wrap .i64 ((d:Int) - c)) (IntKind.wrap .i64 ((d:Int) - c)) c d e f g h i j c d w K):=Eq.trans (b:=CS P (cA c143 7) none [] [] (f143_kb K) (Env.mk 56 [(7,(VI e)),(6,(VI f)),(11,(VI g)),(0,(VS h i j)),(1,(VI c)),(2,(VI d))] []) w) (by kernel_rfl) (Eq.trans (CSs [6,8,0,7] (f143_k2 K) (by kernel_rfl)) (by kernel_rfl))
theorem f143_s1_eq (c d:Int) (e:OA) (f g:Nat) (h i:Int) (w:World) (K:KT):f143_s1 c d e f g h i w K=(f143_s2 0 c d e f g h i w K):=Eq.trans (b:=CS P (cA c143 3) none [] [] (f143_kb K) (Env.mk 56 [(6,(VI c)),(11,(VI d)),(0,(VS e f g)),(1,(VI h)),(2,(VI i))] []) w) (by kernel_rfl) (Eq.trans (CSs [6,0,7,1,2] (f143_k1 K) (by kernel_rfl)) (by kernel_rfl))
theorem f143_s0_eq (d:OA) (e f:Nat) (c g:Int) (w:World) (K:KT):f143_s0 d e f c g w K=(f143_s1 c c d e f c g w K):=Eq.trans (b:=CS P (cA c143 1) none [] [] (f143_kb K) (Env.mk 56 [(0,(VS d e f)),(1,(VI c)),(2,(VI g))] []) w) (by kernel_rfl) (Eq.trans (CSs [6,0,1,2] (f143_k0 K) (by kernel_rfl)) (by kernel_rfl))
theorem f143_eq (a:OA) (b c:Nat) (d e:Int) (w:World) (K:KT):f143 a b c d e w K=(f143_s0 a b c d e w K):=by kernel_rfl
theorem f143_ok (a:OA) (b c:Nat) (d e:Int) (w:World) (K:KT) (h:f143 a b c d e w K):CallL P 143 [(Value.slice a b c),(Value.int .i64 d),(Value.int .i64 e)] w K:=okCS c143 Tryz.func143 (by kernel_rfl) (by kernel_rfl) h
noncomputable def c174:Code:=bodyOf Tryz.f174
noncomputable def rs174:List ResultVar:=Tryz.f174.results.toList
abbrev f174_kb (K:KT):Exit→YT:=bodyK P rs174 K
def f174 (a:OA) (b c:Nat) (d:Int) (e:OA) (w:World) (K:KT):Prop:=CS P c174 none [6] [6] (f174_kb K) (env0 15 [(VS a b c),(VI d),(VP e)]) w
theorem f174_eq (b:OA) (c d:Nat) (a:Int) (e:OA) (w:World) (K:KT):f174 b c d a e w K=(CallL P 175 [(Value.slice b c d),(Value.int .i64 (IntKind.wrap .i64 ((a:Int) - 1))),(Value.int .i64 a),(Value.int .i64 (IntKind.wrap .i64 ((a:Int)+1))),(Value.pointer e)] w (fun g h=>∃ f:Int,g=(.int .i64 f)∧K (Value.int .i64 f) h)):=by kernel_rfl
theorem f174_ok (a:OA) (b c:Nat) (d:Int) (e:OA) (w:World) (K:KT) (h:f174 a b c d e w K):CallL P 174 [(Value.slice a b c),(Value.int .i64 d),(Value.pointer e)] w K:=okCS c174 Tryz.func174 (by kernel_rfl) (by kernel_rfl) h
noncomputable def c175:Code:=bodyOf Tryz.f175
noncomputable def rs175:List ResultVar:=Tryz.f175.results.toList
abbrev f175_kb (K:KT):Exit→YT:=bodyK P rs175 K
def f175 (a:OA) (b c:Nat) (d e f:Int) (g:OA) (w:World) (K:KT):Prop:=CS P c175 none [10] [10] (f175_kb K) (env0 36 [(VS a b c),(VI d),(VI e),(VI f),(VP g)]) w
theorem f175_eq (a:OA) (b c:Nat) (e f g:Int) (d:OA) (w:World) (K:KT):f175 a b c e f g d w K=(CallL P 189 [(Value.slice a b c),(Value.int .i64 e),(Value.int .i64 f),(Value.pointer d)] w (fun l m=>∃ h:Int,∃ i:Int,l=(.tuple [(Value.int .i64 h),(Value.int .i64 i)].toArray)∧CallL P 189 [(Value.slice a b c),(Value.int .i64 i),(Value.int .i64 g),(Value.pointer d)] m (fun n o=>∃ j:Int,∃ p:Int,n=(.tuple [(Value.int .i64 j),(Value.int .i64 p)].toArray)∧CallL P 189 [(Value.slice a b c),(Value.int .i64 h),(Value.int .i64 j),(Value.pointer d)] o (fun q r=>∃ s:Int,∃ k:Int,q=(.tuple [(Value.int .i64 s),(Value.int .i64 k)].toArray)∧K (Value.int .i64 k) r)))):=by kernel_rfl
theorem f175_ok (a:OA) (b c:Nat) (d e f:Int) (g:OA) (w:World) (K:KT) (h:f175 a b c d e f g w K):CallL P 175 [(Value.slice a b c),(Value.int .i64 d),(Value.int .i64 e),(Value.int .i64 f),(Value.pointer g)] w K:=okCS c175 Tryz.func175 (by kernel_rfl) (by kernel_rfl) h
noncomputable def c189:Code:=bodyOf Tryz.f189
noncomputable def rs189:List ResultVar:=Tryz.f189.results.toList
abbrev f189_kb (K:KT):Exit→YT:=bodyK P rs189 K
def f189 (a:OA) (b c:Nat) (d e:Int) (f:OA) (w:World) (K:KT):Prop:=CS P c189 none [8,9] [8,9] (f189_kb K) (env0 28 [(VS a b c),(VI d),(VI e),(VP f)]) w
abbrev f189_k1 (K:KT):Exit→YT:=kseq P (cA c189 6) (cA c189 7) none [8,9] [8,9] (f189_kb K)
def f189_s0 (a:Bool) (b c:Int) (d:OA) (w:World) (K:KT):Prop:=SG P (cA c189 13) none [2,1] [8,9] (f189_k1 K) (Env.mk 28 [(18,(VB a)),(1,(VI b)),(2,(VI c)),(3,(VP d))] []) w
def f189_s1 (a b:Int) (w:World) (K:KT):Prop:=SG P (cA c189 7) none [8,9] [8,9] (f189_kb K) (Env.mk 28 [(2,(VI a)),(1,(VI b))] []) w
abbrev f189_k5 (K:KT):Exit→YT:=kseq P (cA c189 14) (cA c189 15) none [8,9] [8,9] (f189_kb K)
theorem f189_s1_eq (c d:Int) (w:World) (K:KT):f189_s1 c d w K=(K (Value.tuple [(Value.int .i64 d),(Value.int .i64 c)].toArray) w):=Eq.trans SGe (Eq.trans (CSs [8,9] (f189_k5 K) (by kernel_rfl)) (by kernel_rfl))
theorem f189_s0_eq (e:Bool) (a c:Int) (d:OA) (w:World) (K:KT):f189_s0 e a c d w K=(BIf e (optS d (fun g=>∃ f:Int,w.cell? g=some (.int .i64 f)∧optS d (fun h=>St1 h (Value.int .i64 (IntKind.wrap .i64 ((f:Int)+1))) w (fun i=>K (Value.tuple [(Value.int .i64 c),(Value.int .i64 a)].toArray) i)))) (f189_s1 c a w K)):=Eq.trans SGe (by kernel_rfl)
theorem f189_eq (c:OA) (d i:Nat) (a b:Int) (e:OA) (w:World) (K:KT):f189 c d i a b e w K=(optS c (fun j=>0≤(b:Int)∧(b:Int) < (d:Nat)∧optS c (fun k=>0≤(a:Int)∧(a:Int) < (d:Nat)∧∃ f:Int,w.drew.cell? (j.add (Int.toNat b * 1))=some (.int .u32 f)∧∃ g:Int,w.drew.cell? (k.add (Int.toNat a * 1))=some (.int .u32 g)∧CallL P 148 [(Value.int .u32 f),(Value.int .u32 g)] w.drew (fun l m=>∃ h:Bool,l=(.bool h)∧f189_s0 h a b e m K)))):=by kernel_rfl
theorem f189_ok (a:OA) (b c:Nat) (d e:Int) (f:OA) (w:World) (K:KT) (h:f189 a b c d e f w K):CallL P 189 [(Value.slice a b c),(Value.int .i64 d),(Value.int .i64 e),(Value.pointer f)] w K:=okCS c189 Tryz.func189 (by kernel_rfl) (by kernel_rfl) h
end Go.Fx.Tryz
namespace Go.Proofs
open Go.Shelf
set_option maxRecDepth 100000
def Tryz.sort_ren:Go.Shelf.Ren:=⟨fun | 15=>107 | 28=>151 | 29=>152 | 47=>172 | 48=>173 | n=>n,fun | 3=>3 | 4=>4 | 5=>5 | 9=>9 | 0=>0 | 39=>159 | 53=>24 | 55=>200 | 66=>224 | 76=>241 | n=>n,fun n=>n⟩
theorem Tryz.sortPow:Go.Proofs.SlLaysF0.n47 Tryz.prog Tryz.sort_ren:={
 mixed:=by kernel_rfl,
 f15:=Tryz.func107.trans (congrArg some (by kernel_rfl)),
 f28:=Tryz.func151.trans (congrArg some (by kernel_rfl)),
 f29:=Tryz.func152.trans (congrArg some (by kernel_rfl)),
 f47:=Tryz.func172.trans (congrArg some (by kernel_rfl)),
 t3:=Tryz.underlying3,a3:=Tryz.isAgg3,z3:=Tryz.sizeOf3,v3:=Tryz.zeroValue3,
 t4:=Tryz.underlying4,a4:=Tryz.isAgg4,z4:=Tryz.sizeOf4,v4:=Tryz.zeroValue4,
 t5:=Tryz.underlying5,a5:=Tryz.isAgg5,z5:=Tryz.sizeOf5,v5:=Tryz.zeroValue5,
 t9:=Tryz.underlying9,a9:=Tryz.isAgg9,z9:=Tryz.sizeOf9,v9:=Tryz.zeroValue9,
 t39:=Tryz.underlying159,a39:=Tryz.isAgg159,z39:=Tryz.sizeOf159,v39:=Tryz.zeroValue159,
 t53:=Tryz.underlying24,a53:=Tryz.isAgg24,z53:=Tryz.sizeOf24,v53:=Tryz.zeroValue24,
 t55:=Tryz.underlying200,a55:=Tryz.isAgg200,z55:=Tryz.sizeOf200,v55:=Tryz.zeroValue200 }
theorem Tryz.sortNext:Go.Proofs.SlLaysF0.n48 Tryz.prog Tryz.sort_ren:={
 mixed:=by kernel_rfl,
 f48:=Tryz.func173.trans (congrArg some (by kernel_rfl)),
 t0:=Tryz.underlying0,a0:=Tryz.isAgg0,z0:=Tryz.sizeOf0,v0:=Tryz.zeroValue0,
 t39:=Tryz.underlying159,a39:=Tryz.isAgg159,z39:=Tryz.sizeOf159,v39:=Tryz.zeroValue159,
 t55:=Tryz.underlying200,a55:=Tryz.isAgg200,z55:=Tryz.sizeOf200,v55:=Tryz.zeroValue200,
 t66:=Tryz.underlying224,a66:=Tryz.isAgg224,z66:=Tryz.sizeOf224,v66:=Tryz.zeroValue224,
 t76:=Tryz.underlying241,a76:=Tryz.isAgg241,z76:=Tryz.sizeOf241,v76:=Tryz.zeroValue241 }
end Go.Proofs
namespace Go.Fx.Tryz
open Go Go.Fx
abbrev I64 (x:Int):Value:=.int .i64 x
abbrev encU (x:Int):Value:=.int .u32 x
theorem isnan52 {w:World} {K:KT} (x:Int) (hK:K (.bool false) w):CallL P 176 [.int .u32 x] w K:=by
 refine f176_ok _ _ _ ?_
 rw [f176_eq]
 have:(x != x)=false:=by simp
 rw [this]
 exact hK
end Go.Fx.Tryz
